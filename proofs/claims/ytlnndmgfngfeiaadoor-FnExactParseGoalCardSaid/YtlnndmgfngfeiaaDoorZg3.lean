/- Contracts of functions that hand back memory of their own, II. -/
import Derived.Test.YtlnndmgfngfeiaaDoorZg2
set_option linter.all false
set_option maxHeartbeats 4000000
set_option maxRecDepth 4000
open Array renaming getD_eq_getD_getElem?->l8,getElem?_eq_getElem->l9,replicate->nG
open Bool renaming and_eq_true->bD,false_eq_true->ib,not_eq_true'->oF
open Go renaming Operand->gY,Program->bm,TypeId->eO
open Go.Region renaming binds->pG,ready->pH,wanted->ma
open Go.Result renaming andThen_ok->ea
open Go.Sem renaming run_bind->dW,run_pure->eN
open Go.Value.slice renaming injEq->YT
open List renaming all_eq_true->kd,cons_append->eP,eq_nil_of_length_eq_zero->pK,getElem?_append_left->nI,getElem?_eq_some_iff->gp,length_cons->mc,length_pos_iff->pL,map_cons->ig,mem_append->hp,mem_append_left->kf,mem_append_right->iw,mem_cons->gZ,mem_map->lE,nil_append->fA,nodup_append->pM
open Nat renaming le_refl->cx
open Option renaming getD_some->oG,isSome_iff_exists->eb,map_some->mP
open Option.some renaming inj->iL,injEq->dp
open Prod.mk renaming injEq->hQ
open _root_ renaming False->cv,Option->aR,beq_iff_eq->da,decide_eq_true_eq->fQ,if_neg->bh
namespace Go.Pv
section
open Go Go.RowKit
inductive cX where
 |s (i:cW)
 |call (d:aR Nat) (f:cl) (xs:List cl)
 |next (d:Nat) (x:cl)
 |opn (d:aR Nat) (f:cl) (xs:List cl)
 |callb (d:aR Nat) (f:cl)
structure b3 where
 g:aR (Nat×Bool)
 i:cX
def cW.dst:cW->aR Nat
 | .v d _| .box d _ _| .alloc d _ _| .bsl d _ _ _| .app d _ _ _ _| .bslm d _ _ _ _| .appm d _ _ _ _ _| .mkmap d _| .range d _ _| .mks d _ _ _ _ _| .apps d _ _ _=>some d
 | .store _ _ _| .mput _ _ _ _| .storeE _ _ _=>none
def cX.dst:cX->aR Nat
 | .s i=>i.dst
 | .call d _ _=>d
 | .next d _=>some d
 | .opn d _ _=>d
 | .callb d _=>d
def CallDo(P:bm)(n:Nat)(args:List ab)(st:aM)(d:aR Nat)(K:aM->Prop):Prop:=
 (∃s Q,mK (aI s) s.b st.b/\nC (aI s) s.e st.e/\gG s/\kinL (aI s) args/\c8 P n args s Q/\
  ∀r aj,Q r aj->((∀m,(look (.obj m) aj.b).isSome->(look (.obj m) s.b).isSome\/ .obj m∉st.o)/\(∀m,(look (.obj m) aj.e).isSome->(look (.obj m) s.e).isSome\/ .obj m∉st.o))/\K (after st s aj d r))\/
 (∃s Q,mK (aI s) s.b st.b/\nC (aI s) s.e st.e/\gG s/\kinL (aI s) args/\ .loc st.n∉st.o/\FnK P n st.n args s Q/\
  ∀r aj,Q r aj->((∀m,(look (.obj m) aj.b).isSome->(look (.obj m) s.b).isSome\/ .obj m∉st.o)/\(∀m,(look (.obj m) aj.e).isSome->(look (.obj m) s.e).isSome\/ .obj m∉st.o))/\K {after st s aj d r with n:=st.n+1})
def Sh(st:aM)(d:Nat)(jq mk:aq)(since:Nat)(seen:List Nat)(last clock:Nat)(borns:List Nat)(kvs:List ab)(K:aM->Prop):Prop:=
 (since=clock/\last=clock)/\((∀b∈borns,b∈seen)->K {st with t:=put d (.tuple [.bool false]) st.t})/\
 (∀b k v,pk b borns kvs=some (.tuple [k,v])->b∉seen->K {st with t:=put d (.tuple [.bool true,k,v]) st.t,b:=cu jq [.hdi since (seen++[b]) last,.gmap mk] st.b})
def za(st:aM)(d:Nat)(v:ab)(K:aM->Prop):Prop:=
 match v with
 | .ptr jq 0=>match look jq st.b with
  |some [.hdi since seen last,.gmap mk]=>match look mk st.b with
   |some (.hdm clock borns::kvs)=>Sh st d jq mk since seen last clock borns kvs K
   |_=>cv
  |_=>cv
 |_=>cv
def iP(P:bm)(ob:List aq)(n:Nat)(args:List ab)(st:aM)(d:aR Nat)(K:aM->Prop):Prop:=
 ∀(C:db) (a:Act) (w:World) (ν:aC) (vs:Array Value),C.ob=ob->bK C st a w ν->bT w ν args vs.toList->fZ C.N d=true->
  rH P n vs w fun e w'=> ∃v st' ν',e= .returned v/\K st'/\bK C st' (a.put d v) w' ν'
def mW(P:bm)(ob:List aq)(st:aM)(K:aM->Prop):cX->Prop
 | .next d x=>za st d (bg st.t x) K
 | .s i=>match jQ st i with
  |some (c,st')=>c/\K st'
  |none=>cv
 | .call d f xs=>match bg st.t f with
  | .func n cP=>CallDo P n (bF (xs.map (bg st.t)++cP)) st d K
  |_=>cv
 | .opn d f xs=>match bg st.t f with
  | .func n cP=>iP P ob n (xs.map (bg st.t)++cP) st d K
  |_=>cv
 | .callb d f=>match bg st.t f with
  | .func n cP=> ¬n<1000000/\CallDo P (ru n) (bF cP) st d K
  |_=>cv
def fm(P:bm)(ob:List aq):List b3->aM->(aM->Prop)->Prop
 |[],st,K=>K st
 |⟨none,i⟩::r,st,K=>mW P ob st (fun st'=>fm P ob r st' K) i
 |⟨some (s,want),i⟩::r,st,K=>match get s st.t with
  | .bool b=>(b=want->mW P ob {st with t:=put s (.bool want) st.t} (fun st'=>fm P ob r st' K) i)/\(b= !want->fm P ob r {st with t:=eB i.dst (.tuple []) (put s (.bool !want) st.t)} K)
  | .tuple []=>fm P ob r {st with t:=eB i.dst (.tuple []) st.t} K
  |_=>cv
def pw(N:Nat)(aQ:List (Nat×cm))(i:cX)(o:Oper):Bool:=
 match i with
 | .s i=>ot N aQ i o
 | .next d x=>match o.op with
  | .next it false=>o.dst==some d&&decide (d<N)&&cZ x it
  |_=>false
 | .call d f xs=>match o.op with
  | .call ⟨.value gB,args,_⟩=>o.dst==d&&fZ N d&&cZ f gB&&q3 xs args.toList
  |_=>false
 | .opn d f xs=>match o.op with
  | .call ⟨.value gB,args,_⟩=>o.dst==d&&fZ N d&&cZ f gB&&q3 xs args.toList
  |_=>false
 | .callb d f=>match o.op with
  | .call ⟨.value gB,⟨[]⟩,_⟩=>o.dst==d&&fZ N d&&cZ f gB
  |_=>false
def w7(N:Nat)(aQ:List (Nat×cm))(ops:List Oper)(g:b3)(o:Oper):Bool:=
 (match g.g,o.guard with
  |none,none=>true
  |some (s,b),some (j,fa)=>b==fa&&((ops[j]?).bind (·.dst))==some s&&decide (s<N)&&o.dst==g.i.dst&&fZ N g.i.dst
  |_,_=>false)&&pw N aQ g.i o
def hc(N:Nat)(aQ:List (Nat×cm))(ops:List Oper):List b3->List Oper->Bool
 |[],[]=>true
 |g::gs,o::os=>w7 N aQ ops g o&&hc N aQ ops gs os
 |_,_=>false
theorem KQ{w:World}{ν:aC}:∀{aX bY:List ab} {vs us:List Value},bT w ν aX vs->bT w ν bY us->bT w ν (aX++bY) (vs++us)
 |[],bY,vs,us,h,cD=>by simp only[bT]at h;subst h;simpa using cD
 |p::aX,bY,vs,us,h,cD=>by simp only[bT]at h;obtain⟨u,a1,rfl,I,aa⟩:=h;simp only[eP,bT];exact⟨u,_,rfl,I,KQ aa cD⟩
theorem rH.mono{P:bm}{f:FuncId}{vs:Array Value}{w:World}{R Bt:Ending->World->Prop}(h:rH P f vs w R)(bI:∀e w',R e w'->Bt e w'):rH P f vs w Bt:=by
 rcases h with⟨I,aa⟩|⟨v,w',I,aa⟩
 ·exact .inl ⟨I,aa.mono bI⟩
 ·exact .inr ⟨v,w',I,bI _ _ aa⟩
theorem Ty{P:bm}{a:Act}{w:World}{o:Oper}{gB:gY}{args:Array gY}{ts:Array eO}(hA:o.op= .call ⟨.value gB,args,ts⟩){n:Nat}{us:Array Value}(aY:a.eval gB= .func (.func n) #[] us)(r:Result Next)(hr:(callFunc n (args.map a.eval++us)).run P w=r):(execOp a.eval o).run P w=r:=by obtain⟨dst,op,ty,pos,Bz,HS⟩:=o;simp only at hA;subst hA;simp only[execOp,resolve,aY,Deferred.ofValue,dW,eN,ea,invoke];simpa using hr
theorem Tz{P:bm}{a:Act}{w:World}{o:Oper}{gB:gY}{ts:Array eO}(hA:o.op= .call ⟨.value gB,#[],ts⟩){n:Nat}{us:Array Value}(aY:a.eval gB= .func (.func n) us #[])(r:Result Next)(hr:(callFunc n us).run P w=r):(execOp a.eval o).run P w=r:=by obtain⟨dst,op,ty,pos,Bz,HS⟩:=o;simp only at hA;subst hA;simp only[execOp,resolve,aY,Deferred.ofValue,dW,eN,ea,invoke];simpa using hr
theorem EE{P:bm}(cE:P.funcs.size<=1000000){a:Act}{w:World}{ν:aC}{o:Oper}{gB:gY}{args:Array gY}{ts:Array eO}(hA:o.op= .call ⟨.value gB,args,ts⟩){n:Nat}{cP:List ab}(aH:aw w ν (.func n cP) (a.eval gB)){aX:List ab}(ht:bT w ν aX (args.toList.map a.eval)):
  ∃vs:Array Value,(∀x w',(callFunc n vs).run P w= .ok x w'->(execOp a.eval o).run P w= .ok x w')/\bT w ν (aX++cP) vs.toList:=by
 rw[aw]at aH;obtain⟨us,aY,hu⟩:=aH;refine⟨args.map a.eval++us,fun x w' hr=>?_,by simpa using KQ ht hu⟩;by_cases aU:n<1000000
 ·exact Ty hA (aY.trans (Pl aU us)) _ hr
 ·have gd:P.funcs[n]? =none:=Array.getElem?_eq_none (Nat.le_trans cE (Nat.le_of_not_lt aU));simp only[callFunc,dW,ea,run_program,gd]at hr;cases hr
theorem TA{P:bm}{a:Act}{w:World}{ν:aC}{o:Oper}{gB:gY}{ts:Array eO}(hA:o.op= .call ⟨.value gB,#[],ts⟩){n:Nat}{cP:List ab}(aH:aw w ν (.func n cP) (a.eval gB))(aU:¬n<1000000):
  ∃vs:Array Value,(∀x w',(callFunc (ru n) vs).run P w= .ok x w'->(execOp a.eval o).run P w= .ok x w')/\bT w ν cP vs.toList:=by
 rw[aw]at aH;obtain⟨us,aY,hu⟩:=aH;exact⟨us,fun x w' hr=>Tz hA (aY.trans (Pk aU us)) _ hr,hu⟩
theorem GH{P:bm}{C:db}{st:aM}{a:Act}{w:World}{ν:aC}(hr:bK C st a w ν){o:Oper}{d:aR Nat}(aG:o.dst=d)(o0:fZ C.N d=true)
  {n:Nat} {aX:List ab} {nE:Array Value} (gf:∀x w',(callFunc n nE).run P w= .ok x w'->(execOp a.eval o).run P w= .ok x w') (ht:bT w ν aX nE.toList) {K:aM->Prop}
  (aA:∃(s:df) (oI:ab->df->Prop) (κ:aR Nat) (n':Nat) (o':df->List aq),mK (aI s) s.b st.b/\nC (aI s) s.e st.e/\gG s/\kinL (aI s) (bF aX)/\(∀(w:World) (ν:aC) (vs:Array Value) (gl:lG w ν),Good (eX ν s) w ν s.b s.e->oR ν s->bT w ν (bF aX) vs.toList->
   rH P n vs w fun e w'=> ∃v r aj ν',e= .returned v/\oI r aj/\aw w' ν' r v/\Good (fun bl=>eX ν s bl\/w.heap.size<=bl) w' ν' aj.b aj.e/\uT κ ν' aj/\gG aj/\mh ⟨w,ν,eX ν s,0,ds s,gl,[]⟩ w' ν')/\
   (∀m,κ=some m->fresh st.n st.o (.loc m))/\(∀k r aj,oI r aj->fresh n' (o' aj) k->fresh st.n (st.o++ds aj) k/\∀m,κ=some m->k≠ .loc m)/\
   ∀r aj,oI r aj->((∀m,(look (.obj m) aj.b).isSome->(look (.obj m) s.b).isSome\/ .obj m∉st.o)/\(∀m,(look (.obj m) aj.e).isSome->(look (.obj m) s.e).isSome\/ .obj m∉st.o))/\K {after st s aj d r with n:=n',o:=o' aj})
  {kG:Act->World->Prop} {Q:Exit->Act->World->Prop} (cb:∀st' bG w' ν',K st'->bK C st' bG w' ν'->kG bG w'):o.wp P a w kG Q:=by
 obtain⟨s,oI,κ,n',o',cJ,c2,c3,c4,c5,G2,GQ,ml⟩:=aA;have hV:bT w (ν.cut (aI s)) (bF aX) nE.toList:=wa (kI.cut _ w ν) _ _ c4 (A2 _ _ ht);have Qo:Good (eX (ν.cut (aI s)) s) w (ν.cut (aI s)) s.b s.e:=hr.good.cut cJ c2 (fun bl _ h=>h);have hex:oR (ν.cut (aI s)) s:=by
  intro k;refine⟨?_,?_,?_⟩;rotate_left 2
  ·rintro j b ⟨ao,af⟩;obtain⟨t1,t2⟩:=hr.fr.trn k j b af;rcases ao with ao|ao<;>obtain⟨x,ad⟩:=eb.1 ao
   ·obtain⟨bl,a1,el,ai,_⟩:=hr.good.box k x (cJ k x ad).1;rw[t1]at ai;cases ai
   ·obtain⟨v',a1,ai,_⟩:=hr.good.own k x (c2 k x ad).1;rw[t2]at ai;cases ai
  ·intro aB;by_cases ao:aI s k
   ·rw[aC.cut_bx ao];rcases ao with ao|ao
    ·rw[aB]at ao;cases ao
    ·obtain⟨x,ad⟩:=eb.1 ao;obtain⟨v',a1,ai,_⟩:=hr.good.own k x (c2 k x ad).1;rcases hr.good.one k with I|I
     ·exact I
     ·rw[I]at ai;cases ai
   ·exact(aC.cut_no ao).1
  ·intro aB;by_cases ao:aI s k
   ·rw[aC.cut_ow ao];rcases ao with ao|ao
    ·obtain⟨x,ad⟩:=eb.1 ao;obtain⟨bl,a1,el,ai,_⟩:=hr.good.box k x (cJ k x ad).1;rcases hr.good.one k with I|I
     ·rw[I]at ai;cases ai
     ·exact I
    ·rw[aB]at ao;cases ao
   ·exact(aC.cut_no ao).2.1
 rcases c5 w (ν.cut (aI s)) nE (hr.fr.gl.cut _) Qo hex hV with⟨⟨fn,g1,g2,g3⟩,c5⟩|⟨v,w',c5,aV⟩
 ·obtain⟨code,CD⟩:=eb.1 g2;have fu:(execOp a.eval o).run P w= .ok (.enter n nE) w:=by refine gf _ _ ?_;simp only[callFunc,dW,eN,ea,run_program,g1,g3,CD];simp
  unfold Oper.wp;rw[fu];simp only[Oper.upon];refine c5.mono fun e w' aV=>?_;obtain⟨v,r,aj,ν',rfl,bj,bL,ck,dd,du,cy⟩:=aV;obtain⟨⟨e9,eA⟩,J⟩:=ml r aj bj;rw[aG];exact cb _ _ _ _ J (hr.callK cJ c2 c3 ck dd (fun m hm=>hr.new _ (G2 m hm)) (n':=n') (o':=o' aj) (fun k J=>GQ k r aj bj J) du cy e9 eA d o0 bL)
 ·have fu:(execOp a.eval o).run P w= .ok (.value v) w':=by exact gf _ _ c5
  obtain⟨v2,r,aj,ν',Dl,bj,bL,ck,dd,du,cy⟩:=aV;cases Dl;obtain⟨⟨e9,eA⟩,J⟩:=ml r aj bj;refine iK fu ?_;rw[aG];exact cb _ _ _ _ J (hr.callK cJ c2 c3 ck dd (fun m hm=>hr.new _ (G2 m hm)) (n':=n') (o':=o' aj) (fun k J=>GQ k r aj bj J) du cy e9 eA d o0 bL)
theorem SR{P:bm}(cE:P.funcs.size<=1000000){C:db}{st:aM}{a:Act}{w:World}{ν:aC}(hr:bK C st a w ν){o:Oper}{gB:gY}{args:Array gY}{ts:Array eO}(hA:o.op= .call ⟨.value gB,args,ts⟩){d:aR Nat}(aG:o.dst=d)(o0:fZ C.N d=true)
  {n:Nat} {cP:List ab} (aH:aw w ν (.func n cP) (a.eval gB)) {aX:List ab} (ht:bT w ν aX (args.toList.map a.eval)) {K:aM->Prop} (aA:iP P C.ob n (aX++cP) st d K)
  {kG:Act->World->Prop} {Q:Exit->Act->World->Prop} (cb:∀st' bG w' ν',K st'->bK C st' bG w' ν'->kG bG w'):o.wp P a w kG Q:=by
 obtain⟨nE,gf,hV⟩:=EE cE hA aH ht;rcases aA C a w ν _ rfl hr hV o0 with⟨⟨fn,g1,g2,g3⟩,c5⟩|⟨v,w',c5,aV⟩
 ·obtain⟨code,CD⟩:=eb.1 g2;have fu:(execOp a.eval o).run P w= .ok (.enter n nE) w:=by refine gf _ _ ?_;simp only[callFunc,dW,eN,ea,run_program,g1,g3,CD];simp
  unfold Oper.wp;rw[fu];simp only[Oper.upon];refine c5.mono fun e w' aV=>?_;obtain⟨v,st',ν',rfl,J,bJ⟩:=aV;rw[aG];exact cb _ _ _ _ J bJ
 ·have fu:(execOp a.eval o).run P w= .ok (.value v) w':=by exact gf _ _ c5
  obtain⟨v2,st',ν',Dl,J,bJ⟩:=aV;cases Dl;refine iK fu ?_;rw[aG];exact cb _ _ _ _ J bJ
theorem GI{P:bm}{C:db}{st:aM}{a:Act}{w:World}{ν:aC}(hr:bK C st a w ν){o:Oper}{d:aR Nat}(aG:o.dst=d)(o0:fZ C.N d=true)
  {n:Nat} {aX:List ab} {nE:Array Value} (gf:∀x w',(callFunc n nE).run P w= .ok x w'->(execOp a.eval o).run P w= .ok x w') (ht:bT w ν aX nE.toList) {K:aM->Prop} (aA:CallDo P n (bF aX) st d K)
  {kG:Act->World->Prop} {Q:Exit->Act->World->Prop} (cb:∀st' bG w' ν',K st'->bK C st' bG w' ν'->kG bG w'):o.wp P a w kG Q:=by
 refine GH hr aG o0 gf ht (K:=K) ?_ cb;rcases aA with⟨s,oI,cJ,c2,c3,c4,c5,ml⟩|⟨s,oI,cJ,c2,c3,c4,c0,c5,ml⟩
 ·refine⟨s,oI,none,st.n,fun aj=>st.o++ds aj,cJ,c2,c3,c4,fun w ν vs gl I aa ak=>(c5 w ν vs gl I aa ak).mono fun e w' aV=>?_,fun m hm=>(by cases hm),fun k _ aj _ J=>⟨J,fun m hm=>by cases hm⟩,ml⟩;obtain⟨v,r,aj,ν',g1,g2,g3,g4,g5,g6⟩:=aV;exact⟨v,r,aj,ν',g1,g2,g3,g4,g5.k,g6⟩
 ·refine⟨s,oI,some st.n,st.n+1,fun aj=>st.o++ds aj,cJ,c2,c3,c4,c5,fun m hm=>(by cases hm;exact⟨cx _,c0⟩),fun k _ aj _ J=>⟨n3 (Nat.le_succ _) (fun _ h=>h) J,fun m hm=>?_⟩,ml⟩;cases hm;rintro rfl;have:=J.1;simp only at this;omega
theorem GG{P:bm}(cE:P.funcs.size<=1000000){C:db}{st:aM}{a:Act}{w:World}{ν:aC}(hr:bK C st a w ν){o:Oper}{gB:gY}{args:Array gY}{ts:Array eO}(hA:o.op= .call ⟨.value gB,args,ts⟩){d:aR Nat}(aG:o.dst=d)(o0:fZ C.N d=true)
  {n:Nat} {cP:List ab} (aH:aw w ν (.func n cP) (a.eval gB)) {aX:List ab} (ht:bT w ν aX (args.toList.map a.eval)) {K:aM->Prop} (aA:CallDo P n (bF (aX++cP)) st d K)
  {kG:Act->World->Prop} {Q:Exit->Act->World->Prop} (cb:∀st' bG w' ν',K st'->bK C st' bG w' ν'->kG bG w'):o.wp P a w kG Q:=by
 obtain⟨nE,gf,hV⟩:=EE cE hA aH ht;exact GI hr aG o0 gf hV aA cb
theorem bK.drawn{C:db}{st:aM}{a:Act}{w:World}{ν:aC}(hr:bK C st a w ν)(n:Nat):bK C st a {w with drawn:=n} ν:=by
 have j3:kh w ν {w with drawn:=n} ν:=⟨fun _ _ h=>⟨h,rfl⟩,fun _ _ _ h=>h,fun _ n u _ h=>⟨n,u,h,.inl ⟨rfl,rfl⟩⟩,fun _ _ _=>rfl,fun _ _ _ _ h=>h⟩;refine hr.over j3 rfl ⟨hr.good.alt,fun k cs J=>?_,hr.good.inj,fun g o aL=>?_,hr.good.oinj,hr.good.obx,hr.good.one,hr.good.otr⟩ ⟨hr.fr.os,hr.fr.tape,hr.fr.output,hr.fr.size,hr.fr.block,hr.fr.keep,hr.fr.fresh,hr.fr.obj,hr.fr.obn,hr.fr.row,hr.fr.obr,hr.fr.trd,hr.fr.trb,hr.fr.trn,hr.fr.sh,hr.fr.nrow⟩ hr.new
 ·obtain⟨bl,us,el,I,aa,ak,aJ,ba⟩:=hr.good.box k cs J;exact⟨bl,us,el,I,aa,ak,aJ,ny j3 ba⟩
 ·obtain⟨v,us,I,aa,ak,aJ⟩:=hr.good.own g o aL;exact⟨v,us,I,aa,ak,pA j3 (fun _ _ _ h=>h) aJ⟩
theorem Pb{α:Type}{l:List α}{p:α->Bool}(h:∀x∈l,p x=false):l.filter p=[]:=by rw[List.filter_eq_nil_iff];intro x ad;simp[h x ad]
theorem Pa{α:Type}{l:List α}{p:α->Bool}(h:∀x∈l,p x=true):l.filter p=l:=List.filter_eq_self.2 h
def Au(r m since clock:Nat)(seen:Array Nat)(GJ:Array (aR MapEntry)):Sem Value:=do
 match GJ[<-choose (.mapNext GJ.size)]? with
 |some (some e)=>
  setObj r (.mapIter (some m) since (seen.push e.born) clock)
  pure (.tuple #[.bool true,e.key,e.val])
 |some none=>pure (.tuple #[.bool false])
 |none=>stuck "Next: no such candidate"
theorem K2{P:bm}{w:World}(r m since clock:Nat)(seen:Array Nat)(l:List (aR MapEntry))(aB:l≠[]):∃n x,x∈l/\(Au r m since clock seen l.toArray).run P w=
  (match x with|some e=>(do setObj r (.mapIter (some m) since (seen.push e.born) clock);pure (.tuple #[.bool true,e.key,e.val]):Sem Value)|none=>pure (.tuple #[.bool false])).run P {w with drawn:=n}:=by
 have hC:0<l.length:=pL.2 aB;unfold Au;have key:∀i,i<l.length->∀w',((do match(l.toArray[i]?:aR (aR MapEntry))with
   |some (some e)=>setObj r (.mapIter (some m) since (seen.push e.born) clock);pure (.tuple #[.bool true,e.key,e.val])
   |some none=>pure (.tuple #[.bool false])
   |none=>stuck "Next: no such candidate" :Sem Value)).run P w'=((match l[i]! with|some e=>(do setObj r (.mapIter (some m) since (seen.push e.born) clock);pure (.tuple #[.bool true,e.key,e.val]):Sem Value)|none=>pure (.tuple #[.bool false]))).run P w':=by
  intro i aD w';have I:l.toArray[i]? =some l[i]!:=by simp[aD]
  rw[I];cases l[i]!<;>rfl
 by_cases aH:(Question.mapNext l.length).forced=true
 ·refine⟨w.drawn,l[0]!,by simp[hC],?_⟩;rw[<-key 0 hC];have aA:(choose (.mapNext l.length):Sem Nat).run P w= .ok 0 w:=by simp[aH]
  simp only[List.size_toArray,dW,aA,ea]
 ·refine⟨w.drawn+1,l[(w.tape w.drawn (.mapNext l.length))%l.length]!,by simp[Nat.mod_lt _ hC],?_⟩;rw[<-key _ (Nat.mod_lt _ hC)];have aA:(choose (.mapNext l.length):Sem Nat).run P w= .ok ((w.tape w.drawn (.mapNext l.length))%l.length) {w with drawn:=w.drawn+1}:=by simp[aH,Question.cut]
  simp only[List.size_toArray,dW,aA,ea]
theorem TH{P:bm}{w:World}{bl nq:Nat}{seen:List Nat}{es:List MapEntry}{clock:Nat}{ty:eO}(I:w.heap[bl]? =some (.mapIter (some nq) clock seen.toArray clock))(aa:w.heap[nq]? =some (.map es.toArray clock))(b4:∀e∈es,e.born<clock):
  ∃n,((∀e∈es,e.born∈seen)/\(Instr.next (.pointer (some ⟨bl,0,none⟩)) false ty).run P w= .ok (.tuple #[.bool false]) {w with drawn:=n})\/
   ∃e∈es,e.born∉seen/\(Instr.next (.pointer (some ⟨bl,0,none⟩)) false ty).run P w= .ok (.tuple #[.bool true,e.key,e.val]) {w with drawn:=n,heap:=w.heap.setIfInBounds bl (.mapIter (some nq) clock (seen++[e.born]).toArray clock)}:=by
 have xg:(!seen.toArray.isEmpty&& !es.toArray.isEmpty&&es.toArray.all (fun e=>decide (e.born≥clock)))=false:=by
  cases es with
  |nil=>simp
  |cons e r=>have:=b4 e Ψ;simp;intro _ h;omega
 generalize h2:(es.filter fun e=> !seen.contains e.born)=left;have QE:(es.toArray.filter fun e=> !seen.toArray.contains e.born)=left.toArray:=by rw[<-h2];simp
 have hM:∀e∈left,e∈es/\e.born∉seen:=fun e he=>by rw[<-h2]at he;have:=List.mem_filter.1 he;exact⟨this.1,by simpa using this.2⟩
 have hold:(left.toArray.filter fun e=>decide (e.born<clock))=left.toArray:=by rw[List.filter_toArray,Pa];intro e he;have:=b4 e (hM e he).1;simp[this]
 have iD:(left.toArray.filter fun e=>decide (e.born≥clock))= #[]:=by rw[List.filter_toArray,Pb];intro e he;have:=b4 e (hM e he).1;simp;omega
 have fu:(Instr.next (.pointer (some ⟨bl,0,none⟩)) false ty).run P w=(Au bl nq clock clock seen.toArray ((if left.toArray.isEmpty then #[none]else #[])++(left.toArray++ #[]).map some)).run P w:=by unfold Instr.next Au;simp only[dW,ri I,ri aa,ea,xg,QE,hold,iD,ib,if_false];rfl
 rw[fu];by_cases qM:left=[]
 ·subst qM;obtain⟨n,x,g1,g2⟩:=K2 (P:=P) (w:=w) bl nq clock clock seen.toArray [none] Ψ;refine⟨n,.inl ⟨fun e he=>?_,?_⟩⟩
  ·have:=List.filter_eq_nil_iff.1 h2 e he;simpa using this
  ·simp only[List.mem_singleton]at g1;subst g1;have aA:((if(([]:List MapEntry).toArray).isEmpty then #[none]else #[])++(([]:List MapEntry).toArray++ #[]).map some)=[none].toArray:=by simp
   rw[aA,g2];rfl
 ·have aA:((if left.toArray.isEmpty then #[none]else #[])++(left.toArray++ #[]).map some)=(left.map some).toArray:=by simp[qM]
  obtain⟨n,x,g1,g2⟩:=K2 (P:=P) (w:=w) bl nq clock clock seen.toArray (left.map some) (by simpa using qM);simp only[lE]at g1;obtain⟨e,he,rfl⟩:=g1;refine⟨n,.inr ⟨e,(hM e he).1,(hM e he).2,?_⟩⟩;rw[aA,g2];simp only[dW];rw[yq (w:={w with drawn:=n}) (o:= .mapIter (some nq) clock seen.toArray clock) I];simp
theorem B7:∀{borns:List Nat} {us:List Value} {e:MapEntry},e∈eG borns us->e.born∈borns
 |[],us,e,h=>by simp[eG]at h
 |b::dq,[],e,h=>by simp[eG]at h
 |b::dq,[_],e,h=>by simp[eG]at h
 |b::dq,k::v::us,e,h=>by
  simp only[eG,gZ]at h;rcases h with rfl|h
  ·simp
  ·exact List.mem_cons_of_mem _ (B7 h)
theorem He:∀{borns:List Nat} {kvs:List ab} {us:List Value},kvs.length=2*borns.length->us.length=kvs.length->∀{b:Nat},b∈borns->∃e∈eG borns us,e.born=b
 |[],_,_,_,_,b,af=>by simp at af
 |fa::dq,kvs,[],I,aa,b,af=>by rw[I]at aa;simp at aa
 |fa::dq,kvs,[_],I,aa,b,af=>by rw[I]at aa;simp at aa;omega
 |fa::dq,kvs,k::v::us,I,aa,b,af=>by
  rcases gZ.1 af with rfl|af
  ·exact⟨⟨k,v,b⟩,by simp[eG],rfl⟩
  ·obtain⟨e,g1,g2⟩:=He (kvs:=kvs.drop 2) (us:=us) (borns:=dq) (by simp at I⊢;omega) (by simp at I aa⊢;omega) af;exact⟨e,by simp[eG,g1],g2⟩
theorem JI{w:World}{ν:aC}:∀{borns:List Nat} {kvs:List ab} {us:List Value},kvs.length=2*borns.length->borns.Pairwise (· < ·)->bT w ν kvs us->∀{e:MapEntry},e∈eG borns us->∃k v,pk e.born borns kvs=some (.tuple [k,v])/\aw w ν k e.key/\aw w ν v e.val
 |[],_,_,_,_,_,e,h=>by simp[eG]at h
 |b::dq,[],us,I,_,_,e,_=>by simp at I
 |b::dq,[_],us,I,_,_,e,_=>by simp at I;omega
 |b::dq,k::v::kvs,us,I,aa,ak,e,h=>by
  simp only[bT]at ak;obtain⟨hY,Fg,rfl,eF,hP,oB,rfl,fy,kD⟩:=ak;simp only[eG,gZ]at h;rw[List.pairwise_cons]at aa;rcases h with rfl|h
  ·exact⟨k,v,by simp[pk],eF,fy⟩
  ·obtain⟨aW,v',g1,g2,g3⟩:=JI (by simp at I;omega) aa.2 kD h;have b5:b≠e.born:=Nat.ne_of_lt (aa.1 _ (B7 h));exact⟨aW,v',by simp[pk,b5,g1],g2,g3⟩
theorem Si{P:bm}{C:db}{st:aM}{a:Act}{w:World}{ν:aC}(hr:bK C st a w ν){o:Oper}{it:gY}(hA:o.op= .next it false){d:Nat}(aG:o.dst=some d)(o0:fZ C.N (some d)=true){v:ab}(aY:aw w ν v (a.eval it)){K:aM->Prop}(he:za st d v K)
  {kG:Act->World->Prop} {Q:Exit->Act->World->Prop} (cb:∀st' bG w' ν',K st'->bK C st' bG w' ν'->kG bG w'):o.wp P a w kG Q:=by
 unfold za at he;split at he
 ·rename_i jq;split at he
  ·rename_i since seen last mk jk;split at he
   ·rename_i clock borns kvs tK;obtain⟨⟨rfl,rfl⟩,CI,CJ⟩:=he;simp only[aw]at aY;obtain⟨bl,bO,bU⟩:=aY;obtain⟨fB,us,el,bL,ck,dd,du,cy⟩:=hr.good.box jq _ jk;rw[bO]at bL;cases bL;obtain⟨nq,ms,XH,m1,m2,m3,m4,m5⟩:=hr.good.box mk _ tK;simp only[gI,bT]at cy;obtain⟨u,a1,hu,⟨XG,eF,rfl⟩,rfl⟩:=cy;rw[m1]at eF;cases eF;simp only[hl,hu]at du;simp only[hl]at m4;simp only[gI]at m5;obtain⟨n,j0⟩:=TH (P:=P) (ty:=o.type) du m4 (fun e he=>m5.2.lt _ (B7 he));have il:∀v' w',(Instr.next (.pointer (some ⟨bl,0,none⟩)) false o.type).run P w= .ok v' w'->(execOp a.eval o).run P w= .ok (.value v') w':=by intro v' w' fu;obtain⟨dst,op,ty,pos,Bz,HS⟩:=o;simp only at hA fu;subst hA;simp only[execOp,bU];exact yF fu
    rcases j0 with⟨I,aa⟩|⟨e,I,aa,ak⟩
    ·refine iK (il _ _ aa) ?_;rw[aG];refine cb _ _ _ _ (CI fun b af=>?_) ((hr.drawn n).put o0 (p:= .tuple [.bool false]) (by simp[aw,bT]));obtain⟨e,f1,f2⟩:=He m5.2.len (A1 m5.1) af;rw[<-f2];exact I e f1
    ·obtain⟨k,v,f1,f2,f3⟩:=JI m5.2.len m5.2.inc m5.1 I;refine iK (il _ _ ak) ?_;rw[aG];have vj:=((hr.drawn n).setBox (w':={w with drawn:=n,heap:=w.heap.setIfInBounds bl (.mapIter (some nq) last (seen++[e.born]).toArray last)}) jk bO (cs':=[.hdi last (seen++[e.born]) last,.gmap mk]) (us:=us) (el:=el) rfl rfl rfl
      (fun j av=>Array.getElem?_setIfInBounds_ne (Ne.symm av)) Ψ (by simp[hl,hu,(Array.getElem?_eq_some_iff.1 du).1]) (by simp only[gI,bT];exact⟨_,_,hu,by simp only[aw];exact⟨nq,m1,rfl⟩,rfl⟩))
     refine cb _ _ _ _ (CJ e.born k v f1 aa) (vj.1.put o0 (p:= .tuple [.bool true,k,v]) ?_);simp only[aw];refine⟨_,rfl,?_⟩;simp only[bT];have j3:kh w ν {w with drawn:=n} ν:=⟨fun _ _ h=>⟨h,rfl⟩,fun _ _ _ h=>h,fun _ n u _ h=>⟨n,u,h,.inl ⟨rfl,rfl⟩⟩,fun _ _ _=>rfl,fun _ _ _ _ h=>h⟩;exact⟨_,_,rfl,by simp[aw],_,_,rfl,rb vj.2 (rb j3 f2),_,_,rfl,rb vj.2 (rb j3 f3),rfl⟩
   ·exact he.elim
  ·exact he.elim
 ·exact he.elim
theorem Hg{P:bm}{aQ:List (Nat×cm)}(au:dE P aQ=true){C:db}{st:aM}{a:Act}{w:World}{ν:aC}(hr:bK C st a w ν){i:cX}{o:Oper}(ag:pw C.N aQ i o=true){K:aM->Prop}(he:mW P C.ob st K i)
  {kG:Act->World->Prop} {Q:Exit->Act->World->Prop} (cb:∀st' bG w' ν',K st'->bK C st' bG w' ν'->kG bG w'):o.wp P a w kG Q:=by
 cases i with
 |s i=>
  simp only[mW]at he;split at he
  ·rename_i c st' ao;exact TL au hr (by simpa only[pw]using ag) ao he.1 fun bG w' ν' h=>cb _ _ _ _ he.2 h
  ·exact he.elim
 |next d x=>
  simp only[mW]at he;simp only[pw]at ag;split at ag
  ·rename_i it hA;simp only[bD,da,fQ]at ag;obtain⟨⟨I,aa⟩,ak⟩:=ag;exact Si hr hA I (by simpa[fZ]using aa) (c1 hr ak) he cb
  ·cases ag
 |call d f xs=>
  simp only[mW]at he;simp only[pw]at ag;split at ag
  ·rename_i gB args ts hA;simp only[bD,da]at ag;obtain⟨⟨⟨I,aa⟩,ak⟩,aJ⟩:=ag;split at he
   ·rename_i n cP aH;have:=c1 hr ak;rw[aH]at this;exact GG (dE.sz au) hr hA I aa this (uh hr aJ) he cb
   ·exact he.elim
  ·cases ag
 |opn d f xs=>
  simp only[mW]at he;simp only[pw]at ag;split at ag
  ·rename_i gB args ts hA;simp only[bD,da]at ag;obtain⟨⟨⟨I,aa⟩,ak⟩,aJ⟩:=ag;split at he
   ·rename_i n cP aH;have:=c1 hr ak;rw[aH]at this;exact SR (dE.sz au) hr hA I aa this (uh hr aJ) he cb
   ·exact he.elim
  ·cases ag
 |callb d f=>
  simp only[mW]at he;simp only[pw]at ag;split at ag
  ·rename_i gB ts hA;simp only[bD,da]at ag;obtain⟨⟨I,aa⟩,ak⟩:=ag;split at he
   ·rename_i n cP aH;have:=c1 hr ak;rw[aH]at this;obtain⟨nE,gf,hV⟩:=TA (P:=P) hA this he.1;exact GI hr I aa gf hV he.2 cb
   ·exact he.elim
  ·cases ag
theorem Er{C:db}{st:aM}{a:Act}{w:World}{ν:aC}(h:bK C st a w ν){s:Nat}{b:Bool}(ao:get s st.t= .bool b):bK C {st with t:=put s (.bool b) st.t} a w ν:=by
 refine⟨h.good,h.fr,h.defers,h.size,fun i=>?_,h.new,h.ext,h.obk⟩;have:=h.slot i;simp only[nc];split
 ·rename_i e;subst e;rw[<-ao];exact this
 ·exact this
theorem LY{C:db}{st:aM}{a:Act}{w:World}{ν:aC}(h:bK C st a w ν){ops:Array Oper}{j s:Nat}(av:(ops.toList[j]?).bind (·.dst)=some s)(ao:s<C.N):
  (∀b,get s st.t= .bool b->yielded ops a.tmps j=some b)/\(get s st.t= .tuple []->yielded ops a.tmps j=none):=by
 have b4:s<a.tmps.size:=by rw[h.size];exact ao
 have qQ:=h.slot s;have kU:a.tmps.getD s undef=a.tmps[s]:=by simp[Array.getD,b4]
 rw[kU]at qQ;have bs:yielded ops a.tmps j=match a.tmps[s]with| .bool b=>some b|_=>none:=by unfold yielded;rw[Array.getElem?_toList]at av;rw[av];simp only[Option.bind_some,l9 b4];cases a.tmps[s]<;>rfl
 constructor
 ·intro b af;rw[af]at qQ;simp only[aw]at qQ;rw[bs,qQ]
 ·intro af;rw[af]at qQ;simp only[aw,bT]at qQ;obtain⟨us,ai,aE⟩:=qQ;rw[bs,ai]
theorem Cg{P:bm}{aQ:List (Nat×cm)}(au:dE P aQ=true){C:db}{ops:Array Oper}{K:aM->Prop}{Q:Exit->Act->World->Prop}(n4:∀st' bG w' ν',K st'->bK C st' bG w' ν'->Q .normal bG w'):
  ∀(gs:List b3) (os:List Oper) (k:Nat),(∀j,os[j]? =ops[k+j]?)->hc C.N aQ ops.toList gs os=true->∀(st:aM) (a:Act) (w:World) (ν:aC),fm P C.ob gs st K->bK C st a w ν->wpOps P ops Q (List.range' k gs.length) a w
 |[],[],k,_,_,st,a,w,ν,he,hr=>by simp only[List.length_nil,List.range'_zero,wpOps];exact n4 _ _ _ _ he hr
 |[],_::_,_,_,J,_,_,_,_,_,_=>by simp[hc]at J
 |_::_,[],_,_,J,_,_,_,_,_,_=>by simp[hc]at J
 |g::gs,o::os,k,vg,J,st,a,w,ν,he,hr=>by
  simp only[hc,bD]at J;have bR:ops[k]? =some o:=by simpa using(vg 0).symm
  have zO:∀j,os[j]? =ops[k+1+j]?:=fun j=>by have:=vg (j+1);simpa[Nat.add_assoc,Nat.add_comm 1 j]using this
  simp only[mc,List.range'_succ,wpOps,bR];have a8:∀st' bG w' ν',fm P C.ob gs st' K->bK C st' bG w' ν'->wpOps P ops Q (List.range' (k+1) gs.length) bG w':=fun st' bG w' ν' I aa=>Cg au n4 gs os (k+1) zO J.2 st' bG w' ν' I aa;obtain⟨jJ,HU⟩:=g;have aL:=J.1;simp only[w7,bD]at aL;obtain⟨ln,xm⟩:=aL;cases jJ with
  |none=>
   cases dS:o.guard with
   |some x=>simp[dS]at ln
   |none=>
    have hw:ma o (yielded ops a.tmps)=true:=by simp[ma,dS]
    rw[if_pos hw];simp only[fm]at he;exact .inl (Hg au hr xm he a8)
  |some ur=>
   obtain⟨s,want⟩:=ur;cases dS:o.guard with
   |none=>simp[dS]at ln
   |some x=>
    obtain⟨j,fa⟩:=x;simp only[dS,bD,da,fQ]at ln;obtain⟨⟨⟨⟨rfl,aa⟩,ak⟩,aJ⟩,ba⟩:=ln;obtain⟨Fu,Fv⟩:=LY hr aa ak;simp only[fm]at he;split at he
    ·rename_i b af;have bs:=Fu b af;by_cases e:b=want
     ·subst e;have hw:ma o (yielded ops a.tmps)=true:=by simp[ma,dS,bs]
      rw[if_pos hw];exact .inl (Hg au (Er hr af) xm (he.1 rfl) a8)
     ·have hw:¬(ma o (yielded ops a.tmps)=true):=by simp[ma,dS,bs,e]
      rw[bh hw];have dM:b= !want:=by cases b<;>cases want<;>simp at e⊢
      have jm:bK C {st with t:=put s (.bool !want) st.t} a w ν:=Er hr (by rw[af,dM]);rw[aJ];exact a8 _ _ _ _ (he.2 dM) (jm.put ba (by simp[aw,bT,undef]))
    ·rename_i af;have bs:=Fv af;have hw:¬(ma o (yielded ops a.tmps)=true):=by simp[ma,dS,bs]
     rw[bh hw,aJ];exact a8 _ _ _ _ he (hr.put ba (by simp[aw,bT,undef]))
    ·exact he.elim
structure ch where
 t:Nat->ab
 b:aq->aR (List ab)
 e:aq->aR cp
 F:aq->Prop
structure iN where
 d:aR Nat
 p:ab
 bw:List (aq×List ab)
 ew:List (aq×cp)
 rm:aR aq
def hb{α:Type}(l:List (aq×α))(f:aq->aR α):aq->aR α:=fun k=>match look k l with|some x=>some x|none=>f k
def ch.do(A:ch)(x:iN):ch:={t:=fun i=>if x.d=some i then x.p else A.t i,b:=hb x.bw A.b,e:=hb x.ew A.e,F:=fun k=>A.F k/\x.rm≠some k}
structure iN.apart (x y:iN):Prop where
 d:∀i,x.d=some i->y.d≠some i
 b:∀k,(look k x.bw).isSome->look k y.bw=none
 e:∀k,(look k x.ew).isSome->look k y.ew=none
theorem ch.do_comm(A:ch){x y:iN}(h:x.apart y):(A.do x).do y=(A.do y).do x:=by
 simp only[ch.do,ch.mk.injEq];refine⟨?_,?_,?_,?_⟩
 ·funext i;by_cases I:x.d=some i
  ·have:=h.d i I;simp[I,this]
  ·simp[I]
 ·funext k;simp only[hb];cases ad:look k x.bw with
  |none=>cases look k y.bw<;>rfl
  |some u=>rw[h.b k (by simp[ad])]
 ·funext k;simp only[hb];cases ad:look k x.ew with
  |none=>cases look k y.ew<;>rfl
  |some u=>rw[h.e k (by simp[ad])]
 ·funext k;exact propext ⟨fun h=>⟨⟨h.1.1,h.2⟩,h.1.2⟩,fun h=>⟨⟨h.1.1,h.2⟩,h.1.2⟩⟩
def cw(t:Nat->ab):cl->ab
 | .t i=>t i
 | .c p=>p
def ph(b:aq->aR (List ab))(e:aq->aR cp)(agg:Bool)(sz:Nat):ab->aR (Prop×ab)
 | .rptr cB k n i f=>ui agg sz cB n i f (e k)
 | .ptr k off=>
  match b k with
  |some cs=>if agg then some (fp cs=true/\off+sz<=cs.length,.agg ((cs.drop off).take sz))else(cs[off]?).map fun p=>(fp cs=true,p)
  |none=>none
 | .eptr p=>if agg then some (isAgg sz p,p)else some (dK p=true/\cells p=[p],p)
 |_=>none
def tc(t:Nat->ab):List ab->List (Nat×Nat×cl)->aR (Prop×List ab)
 |cs,[]=>some (True,cs)
 |cs,(off,sz,x)::r=>
  match tc t (l6 cs off (cells (cw t x))) r with
  |some (c,cs')=>some ((dK (cw t x)=true/\(cells (cw t x)).length=sz/\off+sz<=cs.length)/\c,cs')
  |none=>none
def mN(t:Nat->ab)(b:aq->aR (List ab))(e:aq->aR cp):eW->aR (Prop×ab)
 | .mov x=>some (True,cw t x)
 | .pick c x y=>AI (cw t c) (cw t x) (cw t y)
 | .load agg sz x=>ph b e agg sz (cw t x)
 | .faddr off agg sz x=>mn off agg sz (cw t x)
 | .fld off agg sz x=>pV off agg sz (cw t x)
 | .iaddr sz x i=>vp sz (cw t x) (cw t i)
 | .sidx x i=>Be (cw t x) (cw t i)
 | .ssl x lo aD=>Bg (cw t x) (lo.map (cw t)) (aD.map (cw t))
 | .lsl sz x lo aD=>Ah sz (cw t x) (lo.map (cw t)) (aD.map (cw t))
 | .bin op wr x y=>jD op wr (cw t x) (cw t y)
 | .notB x=>Aw (cw t x)
 | .neg x=>Ar (cw t x)
 | .conv k x=>yY k (cw t x)
 | .ext i x=>zd i (cw t x)
 | .len x=>vy (cw t x)
 | .slen x=>yu (cw t x)
 | .build zero parts=>(tc t zero parts).map fun(c,cs)=>(c,.agg cs)
 | .nck x=>vG (cw t x)
 | .min2 x y=>Al (cw t x) (cw t y)
 | .mkf n xs=>some (True,.func n (xs.map (cw t)))
 | .mget bH zero ok x k=>nr b bH zero ok (cw t x) (cw t k)
 | .ment x=>vC b (cw t x)
 | .mlen x=>vE b (cw t x)
 | .beq neg cR x y=>yP neg cR (cw t x) (cw t y)
 | .max2 x y=>Aj (cw t x) (cw t y)
 | .mkif n x=>some (True,.iface n (cw t x))
 | .loadB agg sz x=>ph b (fun _=>none) agg sz (cw t x)
 | .mgetB bH zero ok x k=>nr b bH zero ok (cw t x) (cw t k)
 | .loadZ agg sz x=>w5 agg sz (cw t x)
 | .b2s x=>yM (cw t x)
 | .isn neg x=>zY neg (cw t x)
structure jC (st:aM) (A:ch):Prop where
 t:∀i,get i st.t=A.t i
 b:∀k,look k st.b=A.b k
 e:∀k,look k st.e=A.e k
theorem gA{st:aM}{A:ch}(h:jC st A)(x:cl):bg st.t x=cw A.t x:=by
 cases x
 ·exact h.t _
 ·rfl
theorem mZ{st:aM}{A:ch}(h:jC st A):bg st.t=cw A.t:=funext (gA h)
theorem RQ{st:aM}{A:ch}(h:jC st A)(agg:Bool)(sz:Nat)(p:ab):kz st.b st.e agg sz p=ph A.b A.e agg sz p:=by
 cases p<;>simp only[kz,ph]
 ·rw[h.b];try rfl
 ·rw[h.e]
theorem RR{st:aM}{A:ch}(h:jC st A)(agg:Bool)(sz:Nat)(p:ab):kz st.b [] agg sz p=ph A.b (fun _=>none) agg sz p:=by
 cases p<;>simp only[kz,ph]
 ·rw[h.b];try rfl
 ·rfl
theorem F6{st:aM}{A:ch}(h:jC st A):∀(parts:List (Nat×Nat×cl)) (cs:List ab),qx st.t cs parts=tc A.t cs parts
 |[],cs=>rfl
 |(off,sz,x)::r,cs=>by simp only[qx,tc,gA h,F6 h r];try rfl
theorem LF{st:aM}{A:ch}(h:jC st A)(i:eW):fs st i=mN A.t A.b A.e i:=by have af:(fun k=>look k st.b)=A.b:=funext h.b;cases i<;>simp only[fs,mN,mZ h,RQ h,RR h,F6 h,af]
def fe:cl->List Nat
 | .t i=>[i]
 | .c _=>[]
def Eg:aR cl->List Nat
 |some x=>fe x
 |none=>[]
def eW.looks:eW->List Nat
 | .mov x| .load _ _ x| .loadB _ _ x| .loadZ _ _ x| .faddr _ _ _ x| .fld _ _ _ x| .notB x| .neg x| .conv _ x| .ext _ x| .len x| .slen x| .nck x| .ment x| .mlen x| .mkif _ x| .b2s x| .isn _ x=>fe x
 | .pick c x y=>fe c++fe x++fe y
 | .iaddr _ x i| .sidx x i=>fe x++fe i
 | .ssl x lo aD| .lsl _ x lo aD=>fe x++Eg lo++Eg aD
 | .bin _ _ x y| .min2 x y| .max2 x y| .beq _ _ x y=>fe x++fe y
 | .build _ aX=>aX.flatMap fun p=>fe p.2.2
 | .mkf _ xs=>xs.flatMap fe
 | .mget _ _ _ x k| .mgetB _ _ _ x k=>fe x++fe k
def cW.looks:cW->List Nat
 | .v _ i=>i.looks
 | .box _ _ x=>fe x
 | .alloc _ _ _=>[]
 | .store _ x y=>fe x++fe y
 | .storeE _ x y=>fe x++fe y
 | .bsl _ _ _ xs=>xs.flatMap fe
 | .app _ _ _ x y=>fe x++fe y
 | .bslm _ _ _ _ xs=>xs.flatMap fe
 | .mks _ _ _ _ _ x=>fe x
 | .apps _ _ x y=>fe x++fe y
 | .appm _ _ _ _ x y=>fe x++fe y
 | .mkmap _ _=>[]
 | .mput _ x k y=>fe x++fe k++fe y
 | .range _ _ x=>fe x
def cX.looks:cX->List Nat
 | .s i=>i.looks
 | .call _ f xs=>fe f++xs.flatMap fe
 | .next _ x=>fe x
 | .opn _ f xs=>fe f++xs.flatMap fe
 | .callb _ f=>fe f
def b3.looks(g:b3):List Nat:=(match g.g with|some (s,_)=>[s]|none=>[])++g.i.looks
def mS(l:List Nat)(t t':Nat->ab):Prop:= ∀i∈l,t i=t' i
theorem e4{t t':Nat->ab}{x:cl}(h:mS (fe x) t t'):cw t x=cw t' x:=by
 cases x
 ·exact h _ (by simp[fe])
 ·rfl
theorem ij{l fU:List Nat}{t t':Nat->ab}(h:mS (l++fU) t t'):mS l t t'/\mS fU t t':=⟨fun i aD=>h i (by simp[aD]),fun i aD=>h i (by simp[aD])⟩
theorem zc{t t':Nat->ab}{x:aR cl}(h:mS (Eg x) t t'):x.map (cw t)=x.map (cw t'):=by
 cases x
 ·rfl
 ·simp[e4 h]
theorem F5{t t':Nat->ab}:∀{parts:List (Nat×Nat×cl)} {cs:List ab},mS (parts.flatMap fun p=>fe p.2.2) t t'->tc t cs parts=tc t' cs parts
 |[],cs,_=>rfl
 |(off,sz,x)::r,cs,h=>by simp only[List.flatMap_cons]at h;obtain⟨I,aa⟩:=ij h;simp only[tc,e4 I,F5 aa]
theorem xW{t t':Nat->ab}:∀{xs:List cl},mS (xs.flatMap fe) t t'->xs.map (cw t)=xs.map (cw t')
 |[],_=>rfl
 |x::xs,h=>by simp only[List.flatMap_cons]at h;obtain⟨I,aa⟩:=ij h;simp[e4 I,xW aa]
def eW.isLoad:eW->Bool
 | .load _ _ _=>true
 | .loadB _ _ _=>true
 | .mgetB _ _ _ _ _=>true
 | .mget _ _ _ _ _=>true
 | .ment _=>true
 | .mlen _=>true
 |_=>false
theorem Ui{t t':Nat->ab}{b fa:aq->aR (List ab)}{e fC:aq->aR cp}{i:eW}(h:mS i.looks t t')(af:i.isLoad=false):mN t b e i=mN t' fa fC i:=by
 cases i<;>simp only[eW.looks]at h<;>simp only[mN];case load agg sz x=>simp[eW.isLoad]at af
 case loadB agg sz x=>simp[eW.isLoad]at af
 case pick c x y=>obtain⟨I,ak⟩:=ij h;obtain⟨I,aa⟩:=ij I;rw[e4 I,e4 aa,e4 ak]
 case iaddr=>obtain⟨I,aa⟩:=ij h;rw[e4 I,e4 aa]
 case sidx=>obtain⟨I,aa⟩:=ij h;rw[e4 I,e4 aa]
 case ssl=>obtain⟨I,ak⟩:=ij h;obtain⟨I,aa⟩:=ij I;rw[e4 I,zc aa,zc ak]
 case lsl=>obtain⟨I,ak⟩:=ij h;obtain⟨I,aa⟩:=ij I;rw[e4 I,zc aa,zc ak]
 case bin=>obtain⟨I,aa⟩:=ij h;rw[e4 I,e4 aa]
 case min2=>obtain⟨I,aa⟩:=ij h;rw[e4 I,e4 aa]
 case build=>rw[F5 h]
 case mkf=>rw[xW h]
 case mget=>simp[eW.isLoad]at af
 case mgetB=>simp[eW.isLoad]at af
 case ment=>simp[eW.isLoad]at af
 case mlen=>simp[eW.isLoad]at af
 case max2=>obtain⟨I,aa⟩:=ij h;rw[e4 I,e4 aa]
 case beq=>obtain⟨I,aa⟩:=ij h;rw[e4 I,e4 aa]
 all_goals rw[e4 h]
def Sd(A:ch)(s aj:df)(rm:aR aq):Prop:=(∀k,(look k aj.b).isSome->(look k s.b).isSome\/rm=some k)/\(∀k,(look k aj.e).isSome->(look k s.e).isSome\/rm=some k)/\(∀k,(look k s.b).isSome->(look k aj.b).isSome)/\(∀k,(look k s.e).isSome->(look k aj.e).isSome)/\
 (∀k,rm=some k->(∃j,k= .obj j)/\A.F k/\A.b k=none/\A.e k=none/\((look k aj.b).isSome\/(look k aj.e).isSome))
def L5(P:bm)(n:Nat)(args:List ab)(A:ch)(d:aR Nat)(x:iN):Prop:=
 ∃s aj r rm,(∀k cs,look k s.b=some cs->A.b k=some cs/\kinL (aI s) cs)/\(∀k o,look k s.e=some o->A.e k=some o/\eD (aI s) o)/\gG s/\gG aj/\Sd A s aj rm/\kinL (aI s) args/\
  c8 P n args s (fun cr t'=>cr=r/\t'=aj)/\x=⟨d,r,aj.b,aj.e,rm⟩
def L6(P:bm)(n0 n:Nat)(args:List ab)(A:ch)(d:aR Nat)(x:iN):Prop:=
 ∃e7 r,d=some e7/\(A.F (.loc (n0+e7))/\A.b (.loc (n0+e7))=none/\A.e (.loc (n0+e7))=none)/\kinL (fun _=>cv) args/\
  FnK P n (n0+e7) args ⟨[],[]⟩ (fun cr t'=>cr=r/\t'=⟨[],[]⟩)/\x=⟨d,r,[],[],some (.loc (n0+e7))⟩
def tR:ab->Bool
 | .ptr (.loc _) _=>true
 | .eptr _=>true
 |_=>false
def eW.isB:eW->Bool
 | .loadB _ _ _=>true
 | .mgetB _ _ _ _ _=>true
 |_=>false
def eW.ptrOf(t:Nat->ab):eW->ab
 | .load _ _ x=>cw t x
 | .loadB _ _ x=>cw t x
 |_=>.junk
def cM(P:bm)(q:Bool)(n0:Nat):cX->ch->iN->Prop
 | .s (.v d i),A,x=> ∃c p,mN A.t A.b A.e i=some (c,p)/\c/\(i.isLoad=true->i.isB=true\/q=true\/tR (i.ptrOf A.t)=true)/\x=⟨some d,p,[],[],none⟩
 | .s (.box d none v),A,x=>(A.F (.loc (n0+d))/\A.b (.loc (n0+d))=none/\A.e (.loc (n0+d))=none)/\dK (cw A.t v)=true/\x=⟨some d,.ptr (.loc (n0+d)) 0,[(.loc (n0+d),cells (cw A.t v))],[],some (.loc (n0+d))⟩
 | .s (.alloc d none z),A,x=>(A.F (.loc (n0+d))/\A.b (.loc (n0+d))=none/\A.e (.loc (n0+d))=none)/\x=⟨some d,.ptr (.loc (n0+d)) 0,[(.loc (n0+d),cells z)],[],some (.loc (n0+d))⟩
 | .s (.store sz u v),A,x=> ∃k off cs,cw A.t u= .ptr k off/\A.b k=some cs/\(fp cs=true/\dK (cw A.t v)=true/\(cells (cw A.t v)).length=sz/\off+sz<=cs.length)/\x=⟨none,.junk,[(k,l6 cs off (cells (cw A.t v)))],[],none⟩
 | .s (.bsl d sz el xs),A,x=>(A.F (.loc (n0+d))/\A.b (.loc (n0+d))=none/\A.e (.loc (n0+d))=none)/\nT sz (xs.map (cw A.t))/\x=⟨some d,.slice sz (.own (.loc (n0+d))) (xs.map (cw A.t)),[],[(.loc (n0+d),⟨xs.length,el,sz,none⟩)],some (.loc (n0+d))⟩
 | .s (.app d sz el u v),A,x=> ∃tag xs fF ys,cw A.t u= .slice sz tag xs/\cw A.t v= .slice sz fF ys/\
   ((∃k o,tag= .own k/\A.e k=some o/\(o.xs=none/\o.n=xs.length/\o.el=el/\o.sz=sz/\xs.length+ys.length<=b0)/\x=⟨some d,.slice sz (.own k) (xs++ys),[],[(k,⟨xs.length+ys.length,el,sz,none⟩)],none⟩)\/
    (tag= .nil/\ys.length<=b0/\(A.F (.loc (n0+d))/\A.b (.loc (n0+d))=none/\A.e (.loc (n0+d))=none)/\x=⟨some d,.slice sz (.own (.loc (n0+d))) ys,[],[(.loc (n0+d),⟨ys.length,el,sz,none⟩)],some (.loc (n0+d))⟩))
 | .s (.bslm d (some m) sz el xs),A,x=>(A.F (.obj m)/\A.b (.obj m)=none/\A.e (.obj m)=none)/\nT sz (xs.map (cw A.t))/\x=⟨some d,.row sz (.obj m) xs.length,[],[(.obj m,⟨xs.length,el,sz,some (xs.map (cw A.t))⟩)],some (.obj m)⟩
 | .s (.appm d none sz el u v),A,x=> ∃k n xs fF ys,cw A.t u= .row sz k n/\cw A.t v= .slice sz fF ys/\A.e k=some ⟨n,el,sz,some xs⟩/\xs.length+ys.length<=b0/\x=⟨some d,.row sz k (xs.length+ys.length),[],[(k,⟨xs.length+ys.length,el,sz,some (xs++ys)⟩)],none⟩
 | .s (.appm d (some m) sz el u v),A,x=>(∃k n xs fF ys,cw A.t u= .row sz k n/\cw A.t v= .slice sz fF ys/\A.e k=some ⟨n,el,sz,some xs⟩/\xs.length+ys.length<=b0/\x=⟨some d,.row sz k (xs.length+ys.length),[],[(k,⟨xs.length+ys.length,el,sz,some (xs++ys)⟩)],none⟩)\/ ∃xs fF ys,cw A.t u= .slice sz .nil xs/\cw A.t v= .slice sz fF ys/\(A.F (.obj m)/\A.b (.obj m)=none/\A.e (.obj m)=none)/\(ys.length<=b0/\ys≠[])/\x=⟨some d,.row sz (.obj m) ys.length,[],[(.obj m,⟨ys.length,el,sz,some ys⟩)],some (.obj m)⟩
 | .s (.storeE sz u v),A,x=> ∃k n i f el cB xs q,cw A.t u= .rptr cB k n i f/\A.e k=some ⟨n,el,cB,some xs⟩/\xs[i]? =some q/\(dK q=true/\dK (cw A.t v)=true/\(cells (cw A.t v)).length=sz/\f+sz<=(cells q).length/\0<sz)/\x=⟨none,.junk,[],[(k,⟨n,el,cB,some (xs.set i (oq q f (cells (cw A.t v))))⟩)],none⟩
 | .s (.mkmap d (some m)),A,x=>(A.F (.obj m)/\A.b (.obj m)=none/\A.e (.obj m)=none)/\x=⟨some d,.gmap (.obj m),[(.obj m,[.hdm 0 []])],[],some (.obj m)⟩
 | .s (.mput bH u k v),A,x=> ∃m cs cs',cw A.t u= .gmap m/\A.b m=some cs/\po bH (cw A.t k) (cw A.t v) cs=some cs'/\x=⟨none,.junk,[(m,cs')],[],none⟩
 | .call d f xs,A,x=> ∃n cP,cw A.t f= .func n cP/\((L5 P n (bF (xs.map (cw A.t)++cP)) A d x/\(q=true->x.bw=[]/\x.ew=[]))\/L6 P n0 n (bF (xs.map (cw A.t)++cP)) A d x)
 |_,_,_=>cv
inductive wF where
 |v|l|n|s|w|a|c|m|r|k|z
 deriving DecidableEq
def cX.mode:cX->wF
 | .s (.v _ (.loadB _ _ _))=>.m
 | .s (.v _ (.mgetB _ _ _ _ _))=>.m
 | .s (.v _ i)=>if i.isLoad then .l else .v
 | .s (.storeE _ _ _)=>.r
 | .s (.box _ _ _)=>.n
 | .s (.alloc _ _ _)=>.n
 | .s (.store _ _ _)=>.w
 | .s (.bsl _ _ _ _)=>.s
 | .s (.app _ _ _ _ _)=>.a
 | .s (.bslm _ none _ _ _)=>.w
 | .s (.bslm _ (some _) _ _ _)=>.z
 | .s (.mks _ _ _ _ _ _)=>.w
 | .s (.apps _ _ _ _)=>.w
 | .s (.appm _ none _ _ _ _)=>.r
 | .s (.appm _ (some _) _ _ _ _)=>.z
 | .s (.mkmap _ _)=>.k
 | .s (.mput _ _ _ _)=>.w
 | .s (.range _ _ _)=>.w
 | .call _ _ _=>.c
 | .next _ _=>.w
 | .opn _ _ _=>.w
 | .callb _ _=>.w
structure Bw (q:Bool) (n0:Nat) (m:wF) (dst:aR Nat) (A:ch) (x:iN):Prop where
 d:x.d=dst
 b:∀k,(look k x.bw).isSome->(m= .n/\∃d,dst=some d/\k= .loc (n0+d)/\A.b k=none/\A.e k=none)\/m= .w\/(m= .c/\(∃j,k= .obj j)/\q=false)\/(m= .k/\(∃j,k= .obj j)/\A.b k=none/\A.e k=none)
 e:∀k,(look k x.ew).isSome->(m= .s/\∃d,dst=some d/\k= .loc (n0+d)/\A.b k=none/\A.e k=none)\/(m= .a/\(A.e k≠none\/ ∃d,dst=some d/\k= .loc (n0+d)/\A.b k=none/\A.e k=none))\/(m= .c/\(∃j,k= .obj j)/\q=false)\/(m= .r/\∃o,A.e k=some o/\o.xs≠none)\/m= .z
 r:∀k,x.rm=some k->(∃d,dst=some d/\k= .loc (n0+d))\/((m= .c\/m= .k\/m= .z)/\(∃j,k= .obj j)/\((look k x.bw).isSome\/(look k x.ew).isSome))
 ex:m= .a->∀k o,(look k x.ew).isSome->A.e k=some o->o.xs=none
 xn:m= .a\/m= .s->∀k o,look k x.ew=some o->o.xs=none
theorem p6{α:Type}{k aW:aq}{x:α}(h:(look k [(aW,x)]).isSome):k=aW:=by
 simp only[look]at h;split at h
 ·rename_i e;exact e.symm
 ·cases h
theorem DT{k aW:aq}{n el sz:Nat}{o:cp}(h:look k [(aW,(⟨n,el,sz,none⟩:cp))]=some o):o.xs=none:=by
 simp only[look]at h;split at h
 ·cases h;rfl
 ·cases h
theorem Lu{P:bm}{q:Bool}{n0:Nat}{i:cX}{A:ch}{x:iN}(h:cM P q n0 i A x):Bw q n0 i.mode i.dst A x:=by
 cases i with
 |s i=>
  cases i with
  |v d i=>simp only[cM]at h;obtain⟨c,p,_,_,_,rfl⟩:=h;exact⟨rfl,fun k J=>by simp[look]at J,fun k J=>by simp[look]at J,fun k J=>by simp at J,fun _ k o J=>by simp[look]at J,fun _ k o J=>by simp[look]at J⟩
  |box d key v=>
   cases key with
   |some m=>simp only[cM]at h
   |none=>simp only[cM]at h;obtain⟨⟨_,aa,ak⟩,_,rfl⟩:=h;exact⟨rfl,fun k J=>by obtain rfl:=p6 J;exact .inl ⟨rfl,d,rfl,rfl,aa,ak⟩,fun k J=>by simp[look]at J,fun k J=>by simp at J;exact .inl ⟨d,rfl,J.symm⟩,fun _ k o J=>by simp[look]at J,fun _ k o J=>by simp[look]at J⟩
  |alloc d key z=>
   cases key with
   |some m=>simp only[cM]at h
   |none=>simp only[cM]at h;obtain⟨⟨_,aa,ak⟩,rfl⟩:=h;exact⟨rfl,fun k J=>by obtain rfl:=p6 J;exact .inl ⟨rfl,d,rfl,rfl,aa,ak⟩,fun k J=>by simp[look]at J,fun k J=>by simp at J;exact .inl ⟨d,rfl,J.symm⟩,fun _ k o J=>by simp[look]at J,fun _ k o J=>by simp[look]at J⟩
  |store sz u v=>simp only[cM]at h;obtain⟨k,off,cs,_,_,_,rfl⟩:=h;exact⟨rfl,fun k J=>.inr (.inl rfl),fun k J=>by simp[look]at J,fun k J=>by simp at J,fun _ k o J=>by simp[look]at J,fun _ k o J=>by simp[look]at J⟩
  |bsl d sz el xs=>simp only[cM]at h;obtain⟨⟨_,aa,ak⟩,_,rfl⟩:=h;exact⟨rfl,fun k J=>by simp[look]at J,fun k J=>by obtain rfl:=p6 J;exact .inl ⟨rfl,d,rfl,rfl,aa,ak⟩,fun k J=>by simp at J;exact .inl ⟨d,rfl,J.symm⟩,fun e=>by simp[cX.mode]at e,fun _ k o J=>DT J⟩
  |app d sz el u v=>
   simp only[cM]at h;obtain⟨tag,xs,fF,ys,_,_,h⟩:=h;rcases h with⟨k,o,_,I,⟨gu,_⟩,rfl⟩|⟨_,_,⟨_,aa,ak⟩,rfl⟩
   ·exact⟨rfl,fun k J=>by simp[look]at J,fun k J=>by obtain rfl:=p6 J;exact .inr (.inl ⟨rfl,.inl (by rw[I];simp)⟩),fun k J=>by simp at J,fun _ aW o' J ag=>by obtain rfl:=p6 J;rw[I]at ag;cases ag;exact gu,fun _ k o J=>DT J⟩
   ·exact⟨rfl,fun k J=>by simp[look]at J,fun k J=>by obtain rfl:=p6 J;exact .inr (.inl ⟨rfl,.inr ⟨d,rfl,rfl,aa,ak⟩⟩),fun k J=>by simp at J;exact .inl ⟨d,rfl,J.symm⟩,fun _ aW o' J ag=>(by obtain rfl:=p6 J;rw[ak]at ag;cases ag),fun _ k o J=>DT J⟩
  |bslm d key sz el xs=>
   cases key with
   |none=>simp only[cM]at h
   |some m=>simp only[cM]at h;obtain⟨⟨_,aa,ak⟩,_,rfl⟩:=h;exact⟨rfl,fun k J=>by simp[look]at J,fun k J=>.inr (.inr (.inr (.inr rfl))),fun k J=>by simp at J;subst J;exact .inr ⟨.inr (.inr rfl),⟨m,rfl⟩,.inr (by simp[look])⟩,fun e=>by simp[cX.mode]at e,fun e=>by simp[cX.mode]at e⟩
  |mks d key sz el z x=>simp only[cM]at h
  |apps d el x y=>simp only[cM]at h
  |appm d key sz el u v=>
   cases key with
   |none=>simp only[cM]at h;obtain⟨k,n,xs,fF,ys,_,_,I,_,rfl⟩:=h;exact⟨rfl,fun k J=>by simp[look]at J,fun k J=>by obtain rfl:=p6 J;exact .inr (.inr (.inr (.inl ⟨rfl,_,I,Ψ⟩))),fun k J=>by simp at J,fun e=>by simp[cX.mode]at e,fun e=>by simp[cX.mode]at e⟩
   |some m=>
    simp only[cM]at h;rcases h with⟨k,n,xs,fF,ys,_,_,I,_,rfl⟩|⟨xs,fF,ys,_,_,⟨_,aa,ak⟩,_,rfl⟩
    ·exact⟨rfl,fun k J=>by simp[look]at J,fun k J=>.inr (.inr (.inr (.inr rfl))),fun k J=>by simp at J,fun e=>by simp[cX.mode]at e,fun e=>by simp[cX.mode]at e⟩
    exact⟨rfl,fun k J=>by simp[look]at J,fun k J=>.inr (.inr (.inr (.inr rfl))),fun k J=>by simp at J;subst J;exact .inr ⟨.inr (.inr rfl),⟨m,rfl⟩,.inr (by simp[look])⟩,fun e=>by simp[cX.mode]at e,fun e=>by simp[cX.mode]at e⟩
  |storeE sz u v=>simp only[cM]at h;obtain⟨k,n,i,f,el,cB,xs,q,_,I,_,_,rfl⟩:=h;exact⟨rfl,fun k J=>by simp[look]at J,fun k J=>by obtain rfl:=p6 J;exact .inr (.inr (.inr (.inl ⟨rfl,_,I,Ψ⟩))),fun k J=>by simp at J,fun e=>by simp[cX.mode]at e,fun e=>by simp[cX.mode]at e⟩
  |mkmap d key=>
   cases key with
   |none=>simp only[cM]at h
   |some m=>simp only[cM]at h;obtain⟨⟨_,aa,ak⟩,rfl⟩:=h;exact⟨rfl,fun k J=>by obtain rfl:=p6 J;exact .inr (.inr (.inr ⟨rfl,⟨m,rfl⟩,aa,ak⟩)),fun k J=>by simp[look]at J,fun k J=>by simp at J;subst J;exact .inr ⟨.inr (.inl rfl),⟨m,rfl⟩,.inl (by simp[look])⟩,fun e=>by simp[cX.mode]at e,fun e=>by simp[cX.mode]at e⟩
  |mput bH x k v=>simp only[cM]at h;obtain⟨m,cs,cs',_,_,_,rfl⟩:=h;exact⟨rfl,fun k J=>.inr (.inl rfl),fun k J=>by simp[look]at J,fun k J=>by simp at J,fun e=>by simp[cX.mode]at e,fun e=>by simp[cX.mode]at e⟩
  |range d key x=>simp only[cM]at h
 |next d x=>simp only[cM]at h
 |opn d f x=>simp only[cM]at h
 |callb d f=>simp only[cM]at h
 |call d f xs=>
  simp only[cM]at h;obtain⟨n,cP,_,h⟩:=h;rcases h with⟨⟨s,aj,r,rm,_,_,_,ag,IB,_,_,rfl⟩,bj⟩|⟨e7,r,rfl,_,_,_,rfl⟩;rotate_left
  ·exact⟨rfl,fun k J=>by simp[look]at J,fun k J=>by simp[look]at J,fun k J=>by simp at J;exact .inl ⟨e7,rfl,J.symm⟩,fun _ k o J=>by simp[look]at J,fun _ k o J=>by simp[look]at J⟩
  refine⟨rfl,fun k J=>.inr (.inr (.inl ⟨rfl,?_,?_⟩)),fun k J=>.inr (.inr (.inl ⟨rfl,?_,?_⟩)),fun k J=>.inr ⟨.inl rfl,(IB.2.2.2.2 k J).1,(IB.2.2.2.2 k J).2.2.2.2⟩,fun e=>by simp[cX.mode]at e,fun e=>by simp[cX.mode]at e⟩
  ·cases k with
   |loc m=>rw[ag.1 m]at J;cases J
   |obj m=>exact⟨m,rfl⟩
  ·cases q with
   |false=>rfl
   |true=>rw[(bj rfl).1]at J;simp[look]at J
  ·cases k with
   |loc m=>rw[ag.2 m]at J;cases J
   |obj m=>exact⟨m,rfl⟩
  ·cases q with
   |false=>rfl
   |true=>rw[(bj rfl).2]at J;simp[look]at J
theorem FH{P:bm}{q:Bool}{n0:Nat}{i:cX}{A A':ch}{x:iN}(h:cM P q n0 i A x)(au:mS i.looks A.t A'.t)
  (aB:i.mode= .l->∀k,(q=true\/ ∃m,k= .loc m)->A.b k≠none->A'.b k=A.b k) (sf:i.mode= .m->∀k,A.b k≠none->A'.b k=A.b k)
  (C7:i.mode= .l->q=true->∀k o,A.e k=some o->o.xs≠none->A'.e k=some o)
  (aU:∀d,i.dst=some d->(i.mode= .n\/i.mode= .s\/i.mode= .a\/i.mode= .c)->(A.F (.loc (n0+d))/\A.b (.loc (n0+d))=none/\A.e (.loc (n0+d))=none)->(A'.F (.loc (n0+d))/\A'.b (.loc (n0+d))=none/\A'.e (.loc (n0+d))=none))
  (b1:i.mode= .a->∀k o,A.e k=some o->A'.e k=some o) (hw:i.mode= .w->∀k,A'.b k=A.b k) (Dn:i.mode= .z->(∀m,(A.F (.obj m)/\A.b (.obj m)=none/\A.e (.obj m)=none)->(A'.F (.obj m)/\A'.b (.obj m)=none/\A'.e (.obj m)=none))/\∀k,A'.e k=A.e k) (zU:i.mode= .k->∀m,(A.F (.obj m)/\A.b (.obj m)=none/\A.e (.obj m)=none)->(A'.F (.obj m)/\A'.b (.obj m)=none/\A'.e (.obj m)=none)) (xE:i.mode= .r->∀k o,A.e k=some o->o.xs≠none->A'.e k=some o)
  (aA:i.mode= .c->∀m,A'.b (.obj m)=A.b (.obj m)/\A'.e (.obj m)=A.e (.obj m)/\(A.F (.obj m)->A'.F (.obj m))):cM P q n0 i A' x:=by
 cases i with
 |s i=>
  cases i with
  |v d i=>
   simp only[cM]at h⊢;obtain⟨c,p,I,aa,ak,aJ⟩:=h;by_cases hB:∃agg sz y,i= .loadB agg sz y
   ·obtain⟨agg,sz,y,rfl⟩:=hB;simp only[cX.looks,cW.looks,eW.looks]at au;have qK:=e4 au;refine⟨c,p,?_,aa,fun _=>.inl rfl,aJ⟩;rw[<-I];simp only[mN,<-qK];have hm:=sf (by simp[cX.mode]);simp only[mN]at I;cases aV:cw A.t y<;>simp only[ph];rename_i key off;rw[aV]at I;simp only[ph]at I;cases af:A.b key with
    |none=>simp[af]at I
    |some cs=>have:A'.b key=A.b key:=hm key (by rw[af];simp);rw[this,af]
   by_cases zr:∃bH zero ok y z,i= .mgetB bH zero ok y z
   ·obtain⟨bH,zero,ok,y,z,rfl⟩:=zr;simp only[cX.looks,cW.looks,eW.looks]at au;obtain⟨t1,t2⟩:=ij au;refine⟨c,p,?_,aa,fun _=>.inl rfl,aJ⟩;simp only[mN]at I⊢;rw[<-e4 t1,<-e4 t2];exact JN (sf (by simp[cX.mode])) I
   replace ak:i.isLoad=true->q=true\/tR (i.ptrOf A.t)=true:=fun im=>(ak im).resolve_left (fun af=>by cases i<;>simp[eW.isB]at af;exact hB ⟨_,_,_,rfl⟩;exact zr ⟨_,_,_,_,_,rfl⟩);have QM:i.isLoad=true->(cX.s (.v d i)).mode= .l:=by intro im;cases i<;>simp only[eW.isLoad]at im<;>first|(cases im;done)|(simp[cX.mode,eW.isLoad];done)|exact absurd ⟨_,_,_,rfl⟩ hB|exact absurd ⟨_,_,_,_,_,rfl⟩ zr
   by_cases im:i.isLoad=true
   ·have bj:∀(aV:tR (i.ptrOf A.t)=false),∀k,A.b k≠none->A'.b k=A.b k:=fun aV k J=>aB (QM im) k (.inl ((ak im).resolve_right (by rw[aV];simp))) J;cases i<;>simp only[eW.isLoad]at im<;>try(cases im;done)
    case mget bH zero ok y z=>simp only[cX.looks,cW.looks,eW.looks]at au;obtain⟨t1,t2⟩:=ij au;refine⟨c,p,?_,aa,fun _=>.inr (ak rfl),aJ⟩;simp only[mN]at I⊢;rw[<-e4 t1,<-e4 t2];exact JN (bj rfl) I
    case ment y=>simp only[cX.looks,cW.looks,eW.looks]at au;refine⟨c,p,?_,aa,fun _=>.inr (ak rfl),aJ⟩;simp only[mN]at I⊢;rw[<-e4 au];exact R0 (bj rfl) I
    case mlen y=>simp only[cX.looks,cW.looks,eW.looks]at au;refine⟨c,p,?_,aa,fun _=>.inr (ak rfl),aJ⟩;simp only[mN]at I⊢;rw[<-e4 au];exact R4 (bj rfl) I
    case loadB agg sz y=>exact absurd ⟨_,_,_,rfl⟩ hB
    case mgetB=>exact absurd ⟨_,_,_,_,_,rfl⟩ zr
    rename_i agg sz y;simp only[cX.looks,cW.looks,eW.looks]at au;have qK:=e4 au;refine⟨c,p,?_,aa,fun _=>.inr (by have:=ak rfl;simpa only[eW.ptrOf,<-qK]using this),aJ⟩;rw[<-I];simp only[mN,<-qK];have hm:=aB (by simp[cX.mode,eW.isLoad]);simp only[mN]at I;have xa:=ak rfl;simp only[eW.ptrOf]at xa;cases aV:cw A.t y<;>simp only[ph]
    ·rename_i key off;rw[aV]at I xa;simp only[ph]at I;cases af:A.b key with
     |none=>simp[af]at I
     |some cs=>have:A'.b key=A.b key:=hm key (by rcases xa with h|h;exact .inl h;cases key;exact .inr ⟨_,rfl⟩;simp[tR]at h) (by rw[af];simp);rw[this,af]
    ·rename_i cB key n i f;rw[aV]at I xa;simp only[ph]at I;have QZ:q=true:=xa.resolve_right (by simp[tR]);unfold ui at I;split at I
     ·rename_i n' el gJ xs he;rw[he,C7 (by simp[cX.mode,eW.isLoad]) QZ key _ he Ψ]
     ·cases I
   ·have im:i.isLoad=false:=by simpa using im
    refine⟨c,p,?_,aa,(fun e=>by rw[im]at e;cases e),aJ⟩;rw[<-I];exact(Ui (by simpa only[cX.looks,cW.looks]using au) im).symm
  |box d key v=>
   cases key with
   |some m=>simp only[cM]at h
   |none=>simp only[cM,cX.looks,cW.looks]at h au⊢;obtain⟨I,aa,ak⟩:=h;rw[<-e4 au];exact⟨aU d rfl (.inl rfl) I,aa,ak⟩
  |alloc d key z=>
   cases key with
   |some m=>simp only[cM]at h
   |none=>simp only[cM]at h⊢;exact⟨aU d rfl (.inl rfl) h.1,h.2⟩
  |store sz u v=>simp only[cM,cX.looks,cW.looks]at h au⊢;obtain⟨I,aa⟩:=ij au;rw[<-e4 I,<-e4 aa];obtain⟨k,off,cs,g1,g2,g3,g4⟩:=h;exact⟨k,off,cs,g1,by rw[hw rfl];exact g2,g3,g4⟩
  |bsl d sz el xs=>simp only[cM,cX.looks,cW.looks]at h au⊢;rw[<-xW au];exact⟨aU d rfl (.inr (.inl rfl)) h.1,h.2⟩
  |app d sz el u v=>
   simp only[cM,cX.looks,cW.looks]at h au⊢;obtain⟨I,aa⟩:=ij au;rw[<-e4 I,<-e4 aa];obtain⟨tag,xs,fF,ys,g1,g2,h⟩:=h;refine⟨tag,xs,fF,ys,g1,g2,?_⟩;rcases h with⟨k,o,ai,aE,bb⟩|⟨ai,aE,bb,b9⟩
   ·exact .inl ⟨k,o,ai,b1 rfl k o aE,bb⟩
   ·exact .inr ⟨ai,aE,aU d rfl (.inr (.inr (.inl rfl))) bb,b9⟩
  |bslm d key sz el xs=>
   cases key with
   |none=>simp only[cM]at h
   |some m=>simp only[cM,cX.looks,cW.looks]at h au⊢;rw[<-xW au];exact⟨(Dn rfl).1 m h.1,h.2⟩
  |mks d key sz el z x=>simp only[cM]at h
  |apps d el x y=>simp only[cM]at h
  |appm d key sz el u v=>
   cases key with
   |none=>simp only[cM,cX.looks,cW.looks]at h au⊢;obtain⟨I,aa⟩:=ij au;rw[<-e4 I,<-e4 aa];obtain⟨k,n,xs,fF,ys,g1,g2,g3,g4,g5⟩:=h;exact⟨k,n,xs,fF,ys,g1,g2,xE rfl k _ g3 Ψ,g4,g5⟩
   |some m=>
    simp only[cM,cX.looks,cW.looks]at h au⊢;obtain⟨I,aa⟩:=ij au;rw[<-e4 I,<-e4 aa];rcases h with⟨k,n,xs,fF,ys,g1,g2,g3,g4,g5⟩|⟨xs,fF,ys,g1,g2,g3,g4⟩
    ·exact .inl ⟨k,n,xs,fF,ys,g1,g2,by rw[(Dn rfl).2];exact g3,g4,g5⟩
    ·exact .inr ⟨xs,fF,ys,g1,g2,(Dn rfl).1 m g3,g4⟩
  |storeE sz u v=>simp only[cM,cX.looks,cW.looks]at h au⊢;obtain⟨I,aa⟩:=ij au;rw[<-e4 I,<-e4 aa];obtain⟨k,n,i,f,el,cB,xs,q,g1,g2,g3⟩:=h;exact⟨k,n,i,f,el,cB,xs,q,g1,xE rfl k _ g2 Ψ,g3⟩
  |mkmap d key=>
   cases key with
   |none=>simp only[cM]at h
   |some m=>simp only[cM]at h⊢;exact⟨zU rfl m h.1,h.2⟩
  |mput bH u k v=>simp only[cM,cX.looks,cW.looks]at h au⊢;obtain⟨t1,t3⟩:=ij au;obtain⟨t1,t2⟩:=ij t1;obtain⟨m,cs,cs',g1,g2,g3,g4⟩:=h;rw[<-e4 t1,<-e4 t2,<-e4 t3];exact⟨m,cs,cs',g1,by rw[hw rfl];exact g2,g3,g4⟩
  |range d key x=>simp only[cM]at h
 |next d x=>simp only[cM]at h
 |opn d f x=>simp only[cM]at h
 |callb d f=>simp only[cM]at h
 |call d f xs=>
  simp only[cM,cX.looks]at h au⊢;obtain⟨I,aa⟩:=ij au;rw[<-e4 I,<-xW aa];obtain⟨n,cP,g1,h⟩:=h;rcases h with⟨⟨s,aj,r,rm,cJ,c2,c3,c4,c5,ml⟩,g3⟩|⟨e7,r,rfl,cJ,c2⟩;rotate_left
  ·exact⟨n,cP,g1,.inr ⟨e7,r,rfl,aU e7 rfl (.inr (.inr (.inr rfl))) cJ,c2⟩⟩
  refine⟨n,cP,g1,.inl ⟨⟨s,aj,r,rm,fun k cs J=>?_,fun k o J=>?_,c3,c4,⟨c5.1,c5.2.1,c5.2.2.1,c5.2.2.2.1,fun k J=>?_⟩,ml⟩,g3⟩⟩
  ·cases k with
   |loc m=>rw[c3.1 m]at J;cases J
   |obj m=>rw[(aA rfl m).1];exact cJ _ _ J
  ·cases k with
   |loc m=>rw[c3.2 m]at J;cases J
   |obj m=>rw[(aA rfl m).2.1];exact c2 _ _ J
  ·obtain⟨⟨j,rfl⟩,d2,d3,d4,d5⟩:=c5.2.2.2.2 k J;exact⟨⟨j,rfl⟩,(aA rfl j).2.2 d2,by rw[(aA rfl j).1];exact d3,by rw[(aA rfl j).2.1];exact d4,d5⟩
def jz(d:aR Nat):iN:=⟨d,.tuple [],[],[],none⟩
def iO(P:bm)(q:Bool)(n0:Nat)(g:b3)(A:ch)(x:iN):Prop:=
 match g.g with
 |none=>cM P q n0 g.i A x
 |some (s,w)=>match A.t s with
  | .bool b=>(b=w/\cM P q n0 g.i A x)\/(b= !w/\x=jz g.i.dst)
  | .tuple []=>x=jz g.i.dst
  |_=>cv
def dC:wF->wF->Bool
 | .v,_=>true
 |_,.v=>true
 | .l,.l| .l,.n| .l,.s| .l,.a| .l,.c=>true
 | .n,.n| .n,.s| .n,.a| .n,.c=>true
 | .s,.l| .s,.n| .s,.s| .s,.c=>true
 | .a,.l| .a,.n| .a,.s=>true
 | .c,.l| .c,.n| .c,.s=>true
 | .l,.m| .m,.l| .m,.m| .m,.n| .m,.s| .m,.a| .s,.m| .a,.m=>true
 | .l,.k| .m,.k| .n,.k| .s,.k=>true
 | .m,.r| .r,.m| .r,.n| .r,.s| .n,.r| .s,.r| .r,.w| .w,.r=>true
 | .m,.z| .z,.m| .z,.n=>true
 |_,_=>false
def b3.dst(g:b3):aR Nat:=g.i.dst
def u0(g h:b3):Bool:=(match g.i.dst with|some d=> !(h.looks.contains d)&&h.i.dst !=some d|none=>true)&&(match h.i.dst with|some d=> !(g.looks.contains d)|none=>true)&&dC g.i.mode h.i.mode
theorem Lv(q:Bool)(n0:Nat)(m:wF)(d:aR Nat)(A:ch):Bw q n0 m d A (jz d):=⟨rfl,fun k J=>by simp[jz,look]at J,fun k J=>by simp[jz,look]at J,fun k J=>by simp[jz]at J,fun _ k o J=>by simp[jz,look]at J,fun _ k o J=>by simp[jz,look]at J⟩
theorem E6{P:bm}{q:Bool}{n0:Nat}{g:b3}{A:ch}{x:iN}(h:iO P q n0 g A x):Bw q n0 g.i.mode g.i.dst A x:=by
 unfold iO at h;split at h
 ·exact Lu h
 ·split at h
  ·rcases h with⟨_,h⟩|⟨_,rfl⟩
   ·exact Lu h
   ·exact Lv _ _ _ _ _
  ·subst h;exact Lv _ _ _ _ _
  ·exact h.elim
theorem oO{A:ch}{x:iN}{k:aq}(h:look k x.bw=none):(A.do x).b k=A.b k:=by simp[ch.do,hb,h]
theorem mV{A:ch}{x:iN}{k:aq}(h:look k x.ew=none):(A.do x).e k=A.e k:=by simp[ch.do,hb,h]
theorem y0{A:ch}{x:iN}{k:aq}(h:(A.do x).b k=none):A.b k=none:=by
 simp only[ch.do,hb]at h;split at h
 ·cases h
 ·exact h
theorem y1{A:ch}{x:iN}{k:aq}(h:(A.do x).e k=none):A.e k=none:=by
 simp only[ch.do,hb]at h;split at h
 ·cases h
 ·exact h
theorem iq{α:Type}{o:aR α}(h:¬o.isSome):o=none:=by cases o<;>simp at h⊢
theorem FJ{P:bm}{q:Bool}{n0:Nat}{g:b3}{A A':ch}{x:iN}(h:iO P q n0 g A x)(au:mS g.looks A.t A'.t)(hm:cM P q n0 g.i A x->cM P q n0 g.i A' x):iO P q n0 g A' x:=by
 unfold iO at h⊢;cases aL:g.g with
 |none=>simp only[aL]at h⊢;exact hm h
 |some ur=>
  obtain⟨s,w⟩:=ur;have:A.t s=A'.t s:=au s (by simp[b3.looks,aL]);simp only[aL,this]at h⊢;split at h
  ·rcases h with⟨I,aa⟩|h
   ·exact .inl ⟨I,hm aa⟩
   ·exact .inr h
  ·exact h
  ·exact h
theorem T4{P:bm}{q:Bool}{n0:Nat}{g h:b3}(Is:u0 g h=true){A:ch}{x y:iN}(ad:iO P q n0 g A x)(bs:iO P q n0 h (A.do x) y):
  iO P q n0 h A y/\iO P q n0 g (A.do y) x/\x.apart y:=by
 simp only[u0,bD]at Is;obtain⟨⟨sb,vc⟩,hm⟩:=Is;have b2:=E6 ad;have b5:∀d ik,g.i.dst=some d->h.i.dst=some ik->d≠ik:=by intro d ik ai aE e;simp only[ai,bD,bne_iff_ne]at sb;exact sb.2 (by rw[aE,e])
 have zt:mS h.looks (A.do x).t A.t:=by intro i aD;simp only[ch.do];rw[bh];intro e;rw[b2.d]at e;simp only[e,bD,oF,List.contains_eq_mem,decide_eq_false_iff_not]at sb;exact sb.1 aD
 have sg:∀k,(look k x.bw).isSome->_:=b2.b;have hle:∀k,(look k x.ew).isSome->_:=b2.e;have Jn:iO P q n0 h A y:=by
  refine FJ bs zt fun oZ=>FH oZ (fun i aD=>zt i (by simp[b3.looks,aD])) (fun e k J af=>?_) (fun e k af=>?_) (fun e bj k o ag gu=>?_) (fun d aG CV hx=>?_) (fun e k o ag=>?_) (fun e k=>?_) (fun e=>⟨fun m hx=>⟨hx.1.1,y0 hx.2.1,y1 hx.2.2⟩,fun k=>?_⟩) (fun e m hx=>⟨hx.1.1,y0 hx.2.1,y1 hx.2.2⟩) (fun e k o ag gu=>?_) (fun e m=>?_)
  ·rw[oO (iq fun ao=>?_)];rcases sg k ao with⟨ai,_⟩|ai|⟨ai,⟨j,aE⟩,bb⟩|⟨ai,_⟩;rotate_left 3
   ·rw[e,ai]at hm;simp[dC]at hm
   ·rw[e,ai]at hm;simp[dC]at hm
   ·rw[e,ai]at hm;simp[dC]at hm
   ·rcases J with J|⟨m,J⟩
    ·rw[J]at bb;cases bb
    ·rw[J]at aE;cases aE
  ·rw[oO (iq fun ao=>?_)];rcases sg k ao with⟨ai,_⟩|ai|⟨ai,_⟩|⟨ai,_⟩<;>(rw[e,ai]at hm;simp[dC]at hm)
  ·rw[e]at hm;cases fT:look k x.ew with
   |none=>rw[mV fT]at ag;exact ag
   |some o'=>
    exfalso;have CZ:(A.do x).e k=some o':=by simp[ch.do,hb,fT]
    rw[CZ]at ag;cases ag;rcases hle k (by simp[fT])with⟨ai,_⟩|⟨ai,_⟩|⟨ai,_,bb⟩|⟨ai,_⟩|ai
    ·exact gu (b2.xn (.inr ai) k _ fT)
    ·exact gu (b2.xn (.inl ai) k _ fT)
    ·rw[bj]at bb;cases bb
    ·rw[ai]at hm;simp[dC]at hm
    ·rw[ai]at hm;simp[dC]at hm
  ·exact⟨hx.1.1,y0 hx.2.1,y1 hx.2.2⟩
  ·rw[mV (iq fun ao=>?_)]at ag
   ·exact ag
   ·rw[e]at hm;rcases hle k ao with⟨ai,_⟩|⟨ai,_⟩|⟨ai,_⟩|⟨ai,_⟩|ai<;>(rw[ai]at hm;simp[dC]at hm)
  ·rw[oO (iq fun ao=>?_)];rw[e]at hm;rcases sg k ao with⟨ai,_⟩|ai|⟨ai,_⟩|⟨ai,_⟩<;>(rw[ai]at hm;simp[dC]at hm)
  ·rw[mV (iq fun ao=>?_)];rw[e]at hm;rcases hle k ao with⟨ai,_⟩|⟨ai,_⟩|⟨ai,_⟩|⟨ai,_⟩|ai<;>(rw[ai]at hm;simp[dC]at hm)
  ·rw[e]at hm;cases fT:look k x.ew with
   |none=>rw[mV fT]at ag;exact ag
   |some o'=>
    exfalso;have CZ:(A.do x).e k=some o':=by simp[ch.do,hb,fT]
    rw[CZ]at ag;cases ag;rcases hle k (by simp[fT])with⟨ai,_⟩|⟨ai,_⟩|⟨ai,_⟩|⟨ai,_⟩|ai
    ·exact gu (b2.xn (.inr ai) k _ fT)
    ·rw[ai]at hm;simp[dC]at hm
    ·rw[ai]at hm;simp[dC]at hm
    ·rw[ai]at hm;simp[dC]at hm
    ·rw[ai]at hm;simp[dC]at hm
  ·rw[e]at hm;refine⟨?_,?_,fun ev=>ev.1⟩
   ·rw[oO (iq fun ao=>?_)];rcases sg _ ao with⟨ai,d,_,aE,_⟩|ai|⟨ai,_⟩|⟨ai,_⟩;rotate_left 3
    ·rw[ai]at hm;simp[dC]at hm
    ·cases aE
    ·rw[ai]at hm;simp[dC]at hm
    ·rw[ai]at hm;simp[dC]at hm
   ·rw[mV (iq fun ao=>?_)];rcases hle _ ao with⟨ai,d,_,aE,_⟩|⟨ai,_⟩|⟨ai,_⟩|⟨ai,_⟩|ai
    ·cases aE
    ·rw[ai]at hm;simp[dC]at hm
    ·rw[ai]at hm;simp[dC]at hm
    ·rw[ai]at hm;simp[dC]at hm
    ·rw[ai]at hm;simp[dC]at hm
 have ty:=E6 Jn;have Ii:mS g.looks A.t (A.do y).t:=by intro i aD;simp only[ch.do];rw[bh];intro e;rw[ty.d]at e;simp only[e,oF,List.contains_eq_mem,decide_eq_false_iff_not]at vc;exact vc aD
 refine⟨Jn,?_,?_⟩
 ·refine FJ ad Ii fun oZ=>FH oZ (fun i aD=>Ii i (by simp[b3.looks,aD])) (fun e k J af=>?_) (fun e k af=>?_) (fun e bj k o ag gu=>?_) (fun d aG CV hx=>?_) (fun e k o ag=>?_) (fun e k=>?_) (fun e=>⟨fun m hx=>?_,fun k=>?_⟩) (fun e m hx=>?_) (fun e k o ag gu=>?_) (fun e m=>?_)
  ·refine oO (iq fun ao=>?_);rcases ty.b k ao with⟨ai,d,_,_,aE,_⟩|ai|⟨ai,⟨j,aE⟩,bb⟩|⟨_,_,aE,_⟩;rotate_left 3
   ·exact af aE
   ·exact af aE
   ·rw[e,ai]at hm;simp[dC]at hm
   ·rcases J with J|⟨m,J⟩
    ·rw[J]at bb;cases bb
    ·rw[J]at aE;cases aE
  ·refine oO (iq fun ao=>?_);rcases ty.b k ao with⟨ai,d,_,_,aE,_⟩|ai|⟨ai,_⟩|⟨_,_,aE,_⟩;rotate_left 3
   ·exact af aE
   ·exact af aE
   ·rw[e,ai]at hm;simp[dC]at hm
   ·rw[e,ai]at hm;simp[dC]at hm
  ·rw[mV (iq fun ao=>?_)]
   ·exact ag
   ·rcases ty.e k ao with⟨ai,d,_,_,_,aE⟩|⟨ai,aE⟩|⟨ai,_,bb⟩|⟨ai,_⟩|ai
    ·rw[aE]at ag;cases ag
    ·exact gu (ty.ex ai k o ao ag)
    ·rw[bj]at bb;cases bb
    ·rw[e,ai]at hm;simp[dC]at hm
    ·rw[e,ai]at hm;simp[dC]at hm
  ·refine⟨⟨hx.1,fun oQ=>?_⟩,?_,?_⟩
   ·rcases ty.r _ oQ with⟨ik,ai,aE⟩|⟨_,⟨j,aE⟩,_⟩
    ·simp only[aq.loc.injEq]at aE;exact b5 d ik aG ai Ω
    ·cases aE
   ·rw[oO (iq fun ao=>?_)]
    ·exact hx.2.1
    ·rcases ty.b _ ao with⟨ai,ik,aE,bb,_⟩|ai|⟨ai,⟨j,aE⟩,_⟩|⟨ai,⟨j,aE⟩,_⟩;rotate_left 3
     ·cases aE
     ·simp only[aq.loc.injEq]at bb;exact b5 d ik aG aE Ω
     ·rcases CV with aE|aE|aE|aE<;>(rw[ai,aE]at hm;simp[dC]at hm)
     ·cases aE
   ·rw[mV (iq fun ao=>?_)]
    ·exact hx.2.2
    ·rcases ty.e _ ao with⟨ai,ik,aE,bb,_⟩|⟨ai,aE⟩|⟨ai,⟨j,aE⟩,_⟩|⟨ai,o,aE,_⟩|ai;rotate_left 4
     ·rcases CV with aE|aE|aE|aE<;>(rw[ai,aE]at hm;simp[dC]at hm)
     ·simp only[aq.loc.injEq]at bb;exact b5 d ik aG aE Ω
     ·rcases aE with aE|⟨ik,aE,bb,_⟩
      ·exact aE hx.2.2
      ·simp only[aq.loc.injEq]at bb;exact b5 d ik aG aE Ω
     ·cases aE
     ·rw[hx.2.2]at aE;cases aE
  ·rw[mV (iq fun ao=>?_)]
   ·exact ag
   ·rw[e]at hm;rcases ty.e k ao with⟨ai,d,_,_,_,aE⟩|⟨ai,_⟩|⟨ai,_⟩|⟨ai,_⟩|ai
    ·rw[aE]at ag;cases ag
    ·rw[ai]at hm;simp[dC]at hm
    ·rw[ai]at hm;simp[dC]at hm
    ·rw[ai]at hm;simp[dC]at hm
    ·rw[ai]at hm;simp[dC]at hm
  ·refine oO (iq fun ao=>?_);rw[e]at hm;rcases ty.b k ao with⟨ai,_⟩|ai|⟨ai,_⟩|⟨ai,_⟩<;>(rw[ai]at hm;simp[dC]at hm)
  ·rw[e]at hm;refine⟨⟨hx.1,fun oQ=>?_⟩,?_,?_⟩
   ·rcases ty.r _ oQ with⟨ik,ai,aE⟩|⟨ai|ai|ai,_⟩
    ·cases aE
    ·rw[ai]at hm;simp[dC]at hm
    ·rw[ai]at hm;simp[dC]at hm
    ·rw[ai]at hm;simp[dC]at hm
   ·rw[oO (iq fun ao=>?_)]
    ·exact hx.2.1
    ·rcases ty.b _ ao with⟨ai,d,_,aE,_⟩|ai|⟨ai,_⟩|⟨ai,_⟩
     ·cases aE
     all_goals(rw[ai]at hm;simp[dC]at hm)
   ·rw[mV (iq fun ao=>?_)]
    ·exact hx.2.2
    ·rcases ty.e _ ao with⟨ai,_⟩|⟨ai,_⟩|⟨ai,_⟩|⟨ai,_⟩|ai<;>(rw[ai]at hm;simp[dC]at hm)
  ·rw[mV (iq fun ao=>?_)];rw[e]at hm;rcases ty.e _ ao with⟨ai,_⟩|⟨ai,_⟩|⟨ai,_⟩|⟨ai,_⟩|ai<;>(rw[ai]at hm;simp[dC]at hm)
  ·rw[e]at hm;refine⟨⟨hx.1,fun oQ=>?_⟩,?_,?_⟩
   ·rcases ty.r _ oQ with⟨ik,ai,aE⟩|⟨ai|ai|ai,_⟩
    ·cases aE
    ·rw[ai]at hm;simp[dC]at hm
    ·rw[ai]at hm;simp[dC]at hm
    ·rw[ai]at hm;simp[dC]at hm
   ·rw[oO (iq fun ao=>?_)]
    ·exact hx.2.1
    ·rcases ty.b _ ao with⟨ai,_⟩|ai|⟨ai,_⟩|⟨ai,_⟩<;>(rw[ai]at hm;simp[dC]at hm)
   ·rw[mV (iq fun ao=>?_)]
    ·exact hx.2.2
    ·rcases ty.e _ ao with⟨ai,_⟩|⟨ai,_⟩|⟨ai,_⟩|⟨ai,o,aE,_⟩|ai
     ·rw[ai]at hm;simp[dC]at hm
     ·rw[ai]at hm;simp[dC]at hm
     ·rw[ai]at hm;simp[dC]at hm
     ·rw[hx.2.2]at aE;cases aE
     ·rw[ai]at hm;simp[dC]at hm
  ·rw[mV (iq fun ao=>?_)]
   ·exact ag
   ·rw[e]at hm;rcases ty.e k ao with⟨ai,d,_,_,_,aE⟩|⟨ai,_⟩|⟨ai,_⟩|⟨ai,_⟩|ai
    ·rw[aE]at ag;cases ag
    ·rw[ai]at hm;simp[dC]at hm
    ·rw[ai]at hm;simp[dC]at hm
    ·rw[ai]at hm;simp[dC]at hm
    ·rw[ai]at hm;simp[dC]at hm
  ·rw[e]at hm;refine⟨?_,?_,fun ev=>⟨ev,fun oQ=>?_⟩⟩;rotate_left 2
   ·rcases ty.r _ oQ with⟨ik,_,aE⟩|⟨aE|aE|aE,_⟩
    ·cases aE
    ·rw[aE]at hm;simp[dC]at hm
    ·rw[aE]at hm;simp[dC]at hm
    ·rw[aE]at hm;simp[dC]at hm
   ·refine oO (iq fun ao=>?_);rcases ty.b _ ao with⟨ai,d,_,aE,_⟩|ai|⟨ai,_⟩|⟨ai,_⟩;rotate_left 3
    ·rw[ai]at hm;simp[dC]at hm
    ·cases aE
    ·rw[ai]at hm;simp[dC]at hm
    ·rw[ai]at hm;simp[dC]at hm
   ·refine mV (iq fun ao=>?_);rcases ty.e _ ao with⟨ai,d,_,aE,_⟩|⟨ai,_⟩|⟨ai,_⟩|⟨ai,_⟩|ai
    ·cases aE
    ·rw[ai]at hm;simp[dC]at hm
    ·rw[ai]at hm;simp[dC]at hm
    ·rw[ai]at hm;simp[dC]at hm
    ·rw[ai]at hm;simp[dC]at hm
 ·refine⟨fun i aD e=>?_,fun k J=>iq fun ao=>?_,fun k J=>iq fun ao=>?_⟩
  ·rw[b2.d]at aD;rw[ty.d]at e;exact b5 i i aD e rfl
  ·rcases sg k J with⟨bt,d,a2,a3,_⟩|bt|⟨bt,⟨j,a2⟩,_⟩|⟨bt,_⟩<;>rcases ty.b k ao with⟨bO,ik,bU,fj,_⟩|bO|⟨bO,⟨dc,bU⟩,_⟩|⟨bO,⟨dc,bU⟩,_⟩;all_goals first|(rw[bt,bO]at hm;simp[dC]at hm;done)|skip
   ·rw[a3]at fj;simp only[aq.loc.injEq]at fj;exact b5 d ik a2 bU Ω
   ·rw[a3]at bU;cases bU
   ·rw[a3]at bU;cases bU
   ·rw[a2]at fj;cases fj
  ·rcases hle k J with⟨bt,d,a2,a3,_,a4⟩|⟨bt,a2⟩|⟨bt,⟨j,a2⟩,_⟩|⟨bt,j7,a2,_⟩|bt<;>rcases ty.e k ao with⟨bO,ik,bU,fj,_,BD⟩|⟨bO,bU⟩|⟨bO,⟨dc,bU⟩,_⟩|⟨bO,iG,bU,_⟩|bO;all_goals first|(rw[bt,bO]at hm;simp[dC]at hm;done)|skip
   ·rw[a3]at fj;simp only[aq.loc.injEq]at fj;exact b5 d ik a2 bU Ω
   ·rw[a3]at bU;cases bU
   ·rw[a4]at bU;cases bU
   ·rcases a2 with a2|⟨d,a2,a3,_⟩
    ·exact a2 BD
    ·rw[a3]at fj;simp only[aq.loc.injEq]at fj;exact b5 d ik a2 bU Ω
   ·rw[a2]at fj;cases fj
   ·rw[BD]at a2;cases a2
def pN(C:db)(A:ch)(a:Act)(w:World):Prop:= ∃st ν,jC st A/\(∀k,A.F k->fresh st.n st.o k)/\bK C st a w ν
theorem DN{st:aM}{A:ch}(h:jC st A)(d:Nat)(p:ab):jC {st with t:=put d p st.t} (A.do ⟨some d,p,[],[],none⟩):=by
 refine⟨fun i=>?_,fun k=>?_,fun k=>?_⟩
 ·simp only[ch.do,nc,dp,h.t]
 ·simpa[ch.do,hb,look]using h.b k
 ·simpa[ch.do,hb,look]using h.e k
theorem JB{st:aM}{A:ch}(h:jC st A)(d:Nat)(p:ab)(o':List aq)(rm:aR aq):jC {st with t:=put d p st.t,o:=o'} (A.do ⟨some d,p,[],[],rm⟩):=by have:=DN h d p;exact⟨this.t,this.b,this.e⟩
theorem LR{α:Type}{β:Type}:∀l:List (aq×α),bA ([]:List (aq×β)) l=l
 |[]=>rfl
 |(k,x)::r=>by simp[bA,look,LR r]
theorem vz{st:aM}{A:ch}(h:jC st A)(d:Nat)(p:ab)(κ:aq)(cs:List ab)(n':Nat)(o':List aq)(rm:aR aq):jC ⟨put d p st.t,cu κ cs st.b,st.e,n',o'⟩ (A.do ⟨some d,p,[(κ,cs)],[],rm⟩):=by
 refine⟨fun i=>?_,fun k=>?_,fun k=>?_⟩
 ·simp only[ch.do,nc,dp,h.t]
 ·simp only[ch.do,hb,look,hD,h.b];by_cases e:κ=k<;>simp[e]
 ·simpa[ch.do,hb,look]using h.e k
theorem Ae{st:aM}{A:ch}(h:jC st A)(κ:aq)(cs:List ab)(p:ab):jC {st with b:=cu κ cs st.b} (A.do ⟨none,p,[(κ,cs)],[],none⟩):=by
 refine⟨fun i=>?_,fun k=>?_,fun k=>?_⟩
 ·simpa[ch.do]using h.t i
 ·simp only[ch.do,hb,look,hD,h.b];by_cases e:κ=k<;>simp[e]
 ·simpa[ch.do,hb,look]using h.e k
theorem mE{st:aM}{A:ch}(h:jC st A)(d:Nat)(p:ab)(κ:aq)(o:cp)(n':Nat)(o':List aq)(rm:aR aq):jC ⟨put d p st.t,st.b,cu κ o st.e,n',o'⟩ (A.do ⟨some d,p,[],[(κ,o)],rm⟩):=by
 refine⟨fun i=>?_,fun k=>?_,fun k=>?_⟩
 ·simp only[ch.do,nc,dp,h.t]
 ·simpa[ch.do,hb,look]using h.b k
 ·simp only[ch.do,hb,look,hD,h.e];by_cases e:κ=k<;>simp[e]
theorem JA{st:aM}{A:ch}(h:jC st A)(κ:aq)(o:cp)(p:ab):jC {st with e:=cu κ o st.e} (A.do ⟨none,p,[],[(κ,o)],none⟩):=by
 refine⟨fun i=>?_,fun k=>?_,fun k=>?_⟩
 ·simpa[ch.do]using h.t i
 ·simpa[ch.do,hb,look]using h.b k
 ·simp only[ch.do,hb,look,hD];by_cases e:κ=k<;>simp[e,h.e]
theorem DW{α:Type}{k:aq}:∀{l:List (aq×α)},k∈l.map (·.1)->(look k l).isSome
 |[],h=>by simp at h
 |(i,x)::r,h=>by
  simp only[look];split
  ·rfl
  ·rename_i e;simp only[ig,gZ]at h;rcases h with h|h
   ·exact absurd h.symm e
   ·exact DW h
theorem pX{n:Nat}{o:List aq}{κ:aq}:∀j,fresh n (κ::o) j->fresh n o j/\j≠κ:=by intro j av;simp only[fresh,gZ,not_or]at av⊢;exact⟨⟨av.1,av.2.2⟩,av.2.1⟩
theorem Pm{n:Nat}{o:List aq}{κ j:aq}(h:fresh n o j)(av:some κ≠some j):fresh n (κ::o) j:=by simp only[fresh,gZ,not_or]at h⊢;exact⟨h.1,fun e=>av (by rw[e]),h.2⟩
theorem FI{P:bm}{aQ:List (Nat×cm)}(au:dE P aQ=true){C:db}{q:Bool}{n0:Nat}{i:cX}{o:Oper}(ag:pw C.N aQ i o=true){A:ch}{x:iN}(ad:cM P q n0 i A x){a:Act}{w:World}(hr:pN C A a w)
  {K:Act->World->Prop} {Q:Exit->Act->World->Prop} (cb:∀bG w',pN C (A.do x) bG w'->K bG w'):o.wp P a w K Q:=by
 obtain⟨st,ν,aB,ev,hr⟩:=hr;have r6:∀(t:List (Nat×ab)) (b:List (aq×List ab)) (e:List (aq×cp)) (d:aR Nat) (p:ab) (bw:List (aq×List ab)) (ew:List (aq×cp)),∀k,(A.do ⟨d,p,bw,ew,none⟩).F k->fresh st.n st.o k:=fun t b e d p bw ew k J=>ev k J.1;have kP:∀(d:aR Nat) (p:ab) (bw:List (aq×List ab)) (ew:List (aq×cp)) (κ:aq),∀k,(A.do ⟨d,p,bw,ew,some κ⟩).F k->fresh st.n (κ::st.o) k:=fun d p bw ew κ k J=>Pm (ev k J.1) J.2;cases i with
 |s i=>
  have fM:ot C.N aQ i o=true:=by simpa only[pw]using ag
  cases i with
  |v d i=>simp only[cM]at ad;obtain⟨c,p,I,aa,_,rfl⟩:=ad;rw[<-LF aB]at I;refine hn (κ:= .loc 0) (n':=0) (o₁:=[]) au hr fM (fun h=>by simp[cW.makes]at h) (fun h=>by simp[cW.makes]at h) (st':={st with t:=put d p st.t}) (by simp only[de,I]) aa fun bG w' ν' cD=>cb _ _ ⟨_,ν',DN aB d p,fun k J=>ev k J.1,cD⟩
  |box d key v=>
   cases key with
   |some m=>simp only[cM]at ad
   |none=>simp only[cM]at ad;obtain⟨⟨I,_⟩,aa,rfl⟩:=ad;rw[<-gA aB]at aa;refine hn (κ:= .loc (n0+d)) (n':=st.n) (o₁:= .loc (n0+d)::st.o) au hr fM (fun _=>ev _ I) (fun _=>pX) (st':=⟨put d (.ptr (.loc (n0+d)) 0) st.t,cu (.loc (n0+d)) (cells (bg st.t v)) st.b,st.e,st.n,.loc (n0+d)::st.o⟩) (by simp only[de]) aa fun bG w' ν' cD=>cb _ _ ⟨_,ν',?_,kP _ _ _ _ _,cD⟩;rw[gA aB];exact vz aB d _ _ _ _ _ _
  |alloc d key z=>
   cases key with
   |some m=>simp only[cM]at ad
   |none=>simp only[cM]at ad;obtain⟨⟨I,_⟩,rfl⟩:=ad;refine hn (κ:= .loc (n0+d)) (n':=st.n) (o₁:= .loc (n0+d)::st.o) au hr fM (fun _=>ev _ I) (fun _=>pX) (st':=⟨put d (.ptr (.loc (n0+d)) 0) st.t,cu (.loc (n0+d)) (cells z) st.b,st.e,st.n,.loc (n0+d)::st.o⟩) (by simp only[de]) trivial fun bG w' ν' cD=>cb _ _ ⟨_,ν',vz aB d _ _ _ _ _ _,kP _ _ _ _ _,cD⟩
  |store sz u v=>simp only[cM]at ad;obtain⟨k,off,cs,I,aa,ak,rfl⟩:=ad;rw[<-gA aB]at I ak;rw[<-aB.b]at aa;refine hn (κ:= .loc 0) (n':=0) (o₁:=[]) au hr fM (fun h=>by simp[cW.makes]at h) (fun h=>by simp[cW.makes]at h) (st':={st with b:=cu k (l6 cs off (cells (bg st.t v))) st.b}) (by simp only[de,I,aa]) ak fun bG w' ν' cD=>cb _ _ ⟨{st with b:=cu k (l6 cs off (cells (bg st.t v))) st.b},ν',by rw[gA aB];exact Ae aB k _ _,fun k J=>ev k J.1,cD⟩
  |bsl d sz el xs=>simp only[cM]at ad;obtain⟨⟨I,_⟩,aa,rfl⟩:=ad;rw[<-mZ aB]at aa;refine hn (κ:= .loc (n0+d)) (n':=st.n) (o₁:= .loc (n0+d)::st.o) au hr fM (fun _=>ev _ I) (fun _=>pX) (st':=⟨put d (.slice sz (.own (.loc (n0+d))) (xs.map (bg st.t))) st.t,st.b,cu (.loc (n0+d)) ⟨xs.length,el,sz,none⟩ st.e,st.n,.loc (n0+d)::st.o⟩) (by simp only[de]) aa fun bG w' ν' cD=>cb _ _ ⟨_,ν',?_,kP _ _ _ _ _,cD⟩;rw[mZ aB];exact mE aB d _ _ _ _ _ _
  |app d sz el u v=>
   simp only[cM]at ad;obtain⟨tag,xs,fF,ys,I,aa,ad⟩:=ad;rw[<-gA aB]at I aa;rcases ad with⟨k,ow,rfl,ak,aJ,rfl⟩|⟨rfl,ak,⟨aJ,_⟩,rfl⟩
   ·rw[<-aB.e]at ak;refine hn (κ:= .loc 0) (n':=0) (o₁:=[]) au hr fM (fun h=>by simp[cW.makes,I]at h) (fun h=>by simp[cW.makes,I]at h) (st':=⟨put d (.slice sz (.own k) (xs++ys)) st.t,st.b,cu k ⟨xs.length+ys.length,el,sz,none⟩ st.e,st.n,st.o⟩) (by simp only[de,I,aa,ak,and_self,if_true]) aJ.2 fun bG w' ν' cD=>cb _ _ ⟨_,ν',mE aB d _ _ _ _ _ _,fun k J=>ev k J.1,cD⟩
   ·refine hn (κ:= .loc (n0+d)) (n':=st.n) (o₁:= .loc (n0+d)::st.o) au hr fM (fun _=>ev _ aJ) (fun _=>pX) (st':=⟨put d (.slice sz (.own (.loc (n0+d))) ys) st.t,st.b,cu (.loc (n0+d)) ⟨ys.length,el,sz,none⟩ st.e,st.n,.loc (n0+d)::st.o⟩) (by simp only[de,I,aa,and_self,if_true]) ak fun bG w' ν' cD=>cb _ _ ⟨_,ν',mE aB d _ _ _ _ _ _,kP _ _ _ _ _,cD⟩
  |bslm d key sz el xs=>
   cases key with
   |none=>simp only[cM]at ad
   |some m=>simp only[cM]at ad;obtain⟨⟨I,_⟩,aa,rfl⟩:=ad;rw[<-mZ aB]at aa;refine hn (κ:= .obj m) (n':=st.n) (o₁:= .obj m::st.o) au hr fM (fun _=>ev _ I) (fun _=>pX) (st':=⟨put d (.row sz (.obj m) xs.length) st.t,st.b,cu (.obj m) ⟨xs.length,el,sz,some (xs.map (bg st.t))⟩ st.e,st.n,.obj m::st.o⟩) (by simp only[de]) aa fun bG w' ν' cD=>cb _ _ ⟨_,ν',?_,kP _ _ _ _ _,cD⟩;rw[mZ aB];exact mE aB d _ _ _ _ _ _
  |mks d key sz el z x=>simp only[cM]at ad
  |apps d el x y=>simp only[cM]at ad
  |appm d key sz el u v=>
   cases key with
   |some m=>
    simp only[cM]at ad;rcases ad with⟨k,n,xs,fF,ys,I,aa,ak,aJ,rfl⟩|⟨xs,fF,ys,I,aa,⟨ak,_⟩,aJ,rfl⟩
    ·rw[<-gA aB]at I aa;rw[<-aB.e]at ak;exact hn (κ:= .loc 0) (n':=0) (o₁:=[]) au hr fM (fun h=>by simp[cW.makes,I]at h) (fun h=>by simp[cW.makes,I]at h) (st':=⟨put d (.row sz k (xs.length+ys.length)) st.t,st.b,cu k ⟨xs.length+ys.length,el,sz,some (xs++ys)⟩ st.e,st.n,st.o⟩) (by simp only[de,kk,I,aa,ak,and_self,if_true]) aJ fun bG w' ν' cD=>cb _ _ ⟨_,ν',mE aB d _ _ _ _ _ _,fun k J=>ev k J.1,cD⟩
    rw[<-gA aB]at I aa;refine hn (κ:= .obj m) (n':=st.n) (o₁:= .obj m::st.o) au hr fM (fun _=>ev _ ak) (fun _=>pX) (st':=⟨put d (.row sz (.obj m) ys.length) st.t,st.b,cu (.obj m) ⟨ys.length,el,sz,some ys⟩ st.e,st.n,.obj m::st.o⟩) (by simp only[de,kk,I,aa,and_self,if_true]) aJ fun bG w' ν' cD=>cb _ _ ⟨_,ν',mE aB d _ _ _ _ _ _,kP _ _ _ _ _,cD⟩
   |none=>
   simp only[cM]at ad;obtain⟨k,n,xs,fF,ys,I,aa,ak,aJ,rfl⟩:=ad;rw[<-gA aB]at I aa;rw[<-aB.e]at ak;refine hn (κ:= .loc 0) (n':=0) (o₁:=[]) au hr fM (fun h=>by simp[cW.makes,I]at h) (fun h=>by simp[cW.makes,I]at h) (st':=⟨put d (.row sz k (xs.length+ys.length)) st.t,st.b,cu k ⟨xs.length+ys.length,el,sz,some (xs++ys)⟩ st.e,st.n,st.o⟩) (by simp only[de,kk,I,aa,ak,and_self,if_true]) aJ fun bG w' ν' cD=>cb _ _ ⟨_,ν',mE aB d _ _ _ _ _ _,fun k J=>ev k J.1,cD⟩
  |storeE sz u v=>simp only[cM]at ad;obtain⟨k,n,i,f,el,cB,xs,q,I,aa,ak,aJ,rfl⟩:=ad;rw[<-gA aB]at I aJ;rw[<-aB.e]at aa;refine hn (κ:= .loc 0) (n':=0) (o₁:=[]) au hr fM (fun h=>by simp[cW.makes]at h) (fun h=>by simp[cW.makes]at h) (st':={st with e:=cu k ⟨n,el,cB,some (xs.set i (oq q f (cells (bg st.t v))))⟩ st.e}) (by simp only[de,ov,I,aa,ak,and_self,if_true]) aJ fun bG w' ν' cD=>cb _ _ ⟨{st with e:=cu k ⟨n,el,cB,some (xs.set i (oq q f (cells (bg st.t v))))⟩ st.e},ν',by rw[gA aB];exact JA aB k _ _,fun k J=>ev k J.1,cD⟩
  |mkmap d key=>
   cases key with
   |none=>simp only[cM]at ad
   |some m=>simp only[cM]at ad;obtain⟨⟨I,_⟩,rfl⟩:=ad;refine hn (κ:= .obj m) (n':=st.n) (o₁:= .obj m::st.o) (hB:=fun e=>F3 fM (by cases e;rfl)) au hr fM (fun _=>ev _ I) (fun _=>pX) (st':=⟨put d (.gmap (.obj m)) st.t,cu (.obj m) [.hdm 0 []] st.b,st.e,st.n,.obj m::st.o⟩) (by simp only[de]) trivial fun bG w' ν' cD=>cb _ _ ⟨_,ν',vz aB d _ _ _ _ _ _,kP _ _ _ _ _,cD⟩
  |mput bH u k v=>simp only[cM]at ad;obtain⟨m,cs,cs',I,aa,ak,rfl⟩:=ad;rw[<-gA aB]at I;rw[<-gA aB,<-gA aB]at ak;rw[<-aB.b]at aa;exact hn (κ:= .loc 0) (n':=0) (o₁:=[]) au hr fM (fun h=>by simp[cW.makes]at h) (fun h=>by simp[cW.makes]at h) (st':={st with b:=cu m cs' st.b}) (by simp only[de,I,aa,ak]) trivial fun bG w' ν' cD=>cb _ _ ⟨{st with b:=cu m cs' st.b},ν',Ae aB m _ _,fun k J=>ev k J.1,cD⟩
  |range d key x=>simp only[cM]at ad
 |next d x=>simp only[cM]at ad
 |opn d f x=>simp only[cM]at ad
 |callb d f=>simp only[cM]at ad
 |call d f xs=>
  simp only[cM]at ad;obtain⟨n,cP,I,ad⟩:=ad;rw[<-gA aB]at I;rcases ad with⟨⟨s,aj,r,rm,cJ,c2,c3,c4,c5,ml,wQ,rfl⟩,_⟩|⟨e7,r,rfl,cJ,c2,c3,rfl⟩;rotate_left
  ·rw[<-mZ aB]at c2 c3;simp only[pw]at ag;split at ag
   ·rename_i gB args ts hA;simp only[bD,da]at ag;obtain⟨⟨⟨ai,aE⟩,bb⟩,b9⟩:=ag;have ks:=c1 hr bb;rw[I]at ks;obtain⟨nE,gf,ht⟩:=EE (dE.sz au) hA ks (uh hr b9);refine GH hr ai aE gf ht (K:=fun st'=>st'={st with t:=put e7 r st.t,o:= .loc (n0+e7)::st.o}) ⟨⟨[],[]⟩,_,some (n0+e7),st.n,fun _=>.loc (n0+e7)::st.o,fun k cs J=>by simp[look]at J,fun k cs J=>by simp[look]at J,⟨fun _=>rfl,fun _=>rfl⟩,lv (fun _ h=>h.elim) _ c2,c3,fun m hm=>?_,fun k cr aj bj J=>?_,?_⟩ ?_
    ·cases hm;exact ev _ cJ.1
    ·obtain⟨_,rfl⟩:=bj;have:=pX k J;exact⟨by simpa[ds]using this.1,fun m hm=>by cases hm;exact this.2⟩
    ·rintro cr l5 ⟨rfl,rfl⟩;refine⟨⟨fun m hm=>by simp[look]at hm,fun m hm=>by simp[look]at hm⟩,?_⟩;simp[after,LR,eB]
    ·rintro st' bG w' ν' rfl cD;exact cb _ _ ⟨_,ν',JB aB e7 r _ _,kP _ _ _ _ _,cD⟩
   ·cases ag
  rw[<-mZ aB]at ml wQ;simp only[pw]at ag;split at ag
  ·rename_i gB args ts hA;simp only[bD,da]at ag;obtain⟨⟨⟨ai,aE⟩,bb⟩,b9⟩:=ag;have ks:=c1 hr bb;rw[I]at ks;obtain⟨ct,cN,gF,jt,oe⟩:=c5;refine GG (dE.sz au) hr hA ai aE ks (uh hr b9) (K:=fun st'=>st'=after st s aj d r) (.inl ⟨s,_,fun k cs J=>⟨by rw[aB.b];exact(cJ k cs J).1,.inl (by simp[J]),(cJ k cs J).2⟩,fun k o' J=>⟨by rw[aB.e];exact(c2 k o' J).1,.inr (by simp[J]),(c2 k o' J).2⟩,c3,ml,wQ,?_⟩) ?_
   ·rintro cr l5 ⟨rfl,rfl⟩;refine⟨⟨fun m hm=>?_,fun m hm=>?_⟩,rfl⟩
    ·rcases ct _ hm with h|h
     ·exact .inl h
     ·exact .inr (ev _ (oe _ h).2.1).2
    ·rcases cN _ hm with h|h
     ·exact .inl h
     ·exact .inr (ev _ (oe _ h).2.1).2
   ·rintro st' bG w' ν' rfl cD;refine cb _ _ ⟨_,ν',⟨fun i=>?_,fun k=>?_,fun k=>?_⟩,fun k J=>?_,cD⟩
    ·simp only[after,ch.do];cases d with
     |none=>simpa[eB]using aB.t i
     |some d=>simp only[eB,nc,dp,aB.t]
    ·simp only[after,ch.do,hb,kA,pj];by_cases ao:(look k s.b).isSome
     ·have:=gF k ao;obtain⟨y,bs⟩:=eb.1 this;simp[ao,bs]
     ·cases aU:look k aj.b with
      |none=>simp only[ao,aB.b];cases A.b k<;>simp
      |some y=>
       rcases ct k (by simp[aU])with h|h
       ·exact absurd h ao
       ·have:=oe k h;simp[ao,aB.b,this]
    ·simp only[after,ch.do,hb,kA,pj];by_cases ao:(look k s.e).isSome
     ·have:=jt k ao;obtain⟨y,bs⟩:=eb.1 this;simp[ao,bs]
     ·cases aU:look k aj.e with
      |none=>simp only[ao,aB.e];cases A.e k<;>simp
      |some y=>
       rcases cN k (by simp[aU])with h|h
       ·exact absurd h ao
       ·have:=oe k h;simp[ao,aB.e,this]
    ·have CL:=ev k J.1;have h4:=hr.lookNone CL;simp only[after];refine⟨CL.1,fun hM=>?_⟩;rcases hp.1 hM with hM|hM
     ·exact CL.2 hM
     ·rcases hp.1 hM with hM|hM
      ·rcases ct k (DW hM)with h|h
       ·obtain⟨y,bs⟩:=eb.1 h;have:=(cJ k y bs).1;rw[<-aB.b,h4.1]at this;cases this
       ·exact J.2 h
      ·rcases cN k (DW hM)with h|h
       ·obtain⟨y,bs⟩:=eb.1 h;have:=(c2 k y bs).1;rw[<-aB.e,h4.2]at this;cases this
       ·exact J.2 h
  ·cases ag
theorem FK{P:bm}{aQ:List (Nat×cm)}(au:dE P aQ=true){C:db}{q:Bool}{n0:Nat}{ops:Array Oper}{g:b3}{o:Oper}{j:Nat}(av:ops[j]? =some o)(ag:w7 C.N aQ ops.toList g o=true){A:ch}{x:iN}(ad:iO P q n0 g A x){a:Act}{w:World}(hr:pN C A a w)
  {K:Act->World->Prop} {Q:Exit->Act->World->Prop} (cb:∀bG w',pN C (A.do x) bG w'->K bG w'):wpOp P ops Q j K a w:=by
 unfold wpOp;rw[av];simp only;simp only[w7,bD]at ag;obtain⟨ln,xm⟩:=ag;unfold iO at ad;cases xo:g.g with
 |none=>
  cases dS:o.guard with
  |some x=>simp[dS,xo]at ln
  |none=>
   have hw:ma o (yielded ops a.tmps)=true:=by simp[ma,dS]
   rw[if_pos hw];simp only[xo]at ad;exact .inl (FI au xm ad hr cb)
 |some ur=>
  obtain⟨s,want⟩:=ur;cases dS:o.guard with
  |none=>simp[dS,xo]at ln
  |some UU=>
   obtain⟨Xg,fa⟩:=UU;simp only[dS,xo,bD,da,fQ]at ln;obtain⟨⟨⟨⟨rfl,aa⟩,ak⟩,aJ⟩,ba⟩:=ln;obtain⟨st,ν,aB,ev,bJ⟩:=id hr;obtain⟨Fu,Fv⟩:=LY bJ aa ak;simp only[xo]at ad;have IX:∀(h:x=jz g.i.dst),K (a.put o.dst undef) w:=by
    rintro rfl;rw[aJ];refine cb _ _ ⟨_,ν,?_,fun k J=>?_,bJ.put ba (p:= .tuple []) (by simp[aw,bT,undef])⟩
    ·refine⟨fun i=>?_,fun k=>?_,fun k=>?_⟩
     ·simp only[ch.do,jz];cases g.i.dst with
      |none=>simpa[eB]using aB.t i
      |some d=>simp only[eB,nc,dp,aB.t]
     ·simpa[ch.do,hb,look,jz]using aB.b k
     ·simpa[ch.do,hb,look,jz]using aB.e k
    ·exact ev k J.1
   split at ad
   ·rename_i b af;have bs:=Fu b (by rw[aB.t];exact af);rcases ad with⟨rfl,ad⟩|⟨rfl,ad⟩
    ·have hw:ma o (yielded ops a.tmps)=true:=by simp[ma,dS,bs]
     rw[if_pos hw];exact .inl (FI au xm ad hr cb)
    ·have hw:¬(ma o (yielded ops a.tmps)=true):=by simp[ma,dS,bs]
     rw[bh hw];exact IX ad
   ·rename_i af;have bs:=Fv (by rw[aB.t];exact af);have hw:¬(ma o (yielded ops a.tmps)=true):=by simp[ma,dS,bs]
    rw[bh hw];exact IX ad
   ·exact ad.elim
def pQ(P:bm)(q:Bool)(n0:Nat)(K:ch->Prop):List (Nat×b3)->ch->Prop
 |[],A=>K A
 |(_,g)::r,A=> ∃x,iO P q n0 g A x/\pQ P q n0 K r (A.do x)
theorem BE{P:bm}{q:Bool}{n0:Nat}{K:ch->Prop}{i:Nat}{g:b3}:∀(kg kH:List (Nat×b3)) (A:ch),(∀x∈kg,u0 x.2 g=true)->pQ P q n0 K (kg++(i,g)::kH) A->∃x,iO P q n0 g A x/\pQ P q n0 K (kg++kH) (A.do x)
 |[],kH,A,_,h=>h
 |(j,HW)::kg,kH,A,aA,h=>by simp only[eP,pQ]at h;obtain⟨y,bs,h⟩:=h;obtain⟨x,ad,h⟩:=BE kg kH (A.do y) (fun z eZ=>aA z (List.mem_cons_of_mem _ eZ)) h;obtain⟨s1,s2,EJ⟩:=T4 (aA _ (List.mem_cons_self ..)) bs ad;refine⟨x,s1,y,s2,?_⟩;rw[<-ch.do_comm A EJ];exact h
def rem(listed:Array Bool):Nat->List b3->List (Nat×b3)
 |_,[]=>[]
 |k,g::r=>if listed.getD k false then rem listed (k+1) r else(k,g)::rem listed (k+1) r
theorem KG{l fU:Array Bool}:∀(gs:List b3) (k:Nat),(∀j,k<=j->l.getD j false=fU.getD j false)->rem l k gs=rem fU k gs
 |[],_,_=>rfl
 |g::r,k,h=>by simp only[rem,h k (cx _),KG r (k+1) fun j av=>h j Ω]
theorem r0{l:Array Bool}{i j:Nat}(h:i<l.size):(l.setIfInBounds i true).getD j false=if i=j then true else l.getD j false:=by
 simp only[l8];by_cases e:i=j
 ·subst e;simp[h]
 ·simp[e]
theorem yf{l:Array Bool}{i:Nat}(aD:i<l.size)(aU:l.getD i false=false):∀(gs:List b3) (k:Nat),k<=i->i<k+gs.length->∃kg kH g,gs[i-k]? =some g/\rem l k gs=kg++(i,g)::kH/\rem (l.setIfInBounds i true) k gs=kg++kH/\
  ∀x∈kg,gs[x.1-k]? =some x.2/\k<=x.1/\x.1<i/\l.getD x.1 false=false
 |[],k,I,aa=>by simp at aa;omega
 |g::r,k,I,aa=>by
  by_cases e:k=i
  ·subst e;refine⟨[],rem l (k+1) r,g,Ψ,by simp[rem,aU],?_,fun x ad=>by simp at ad⟩;simp only[rem,r0 aD,if_true,fA];exact KG r (k+1) fun j av=>by rw[r0 aD,bh Ω]
  ·obtain⟨kg,kH,dF,ai,aE,bb,b9⟩:=yf aD aU r (k+1) Ω (by simp at aa;omega);have jk:i-k=(i-(k+1))+1:=Ω
   have kU:(l.setIfInBounds i true).getD k false=l.getD k false:=by rw[r0 aD,bh Ω]
   by_cases J:l.getD k false=true
   ·refine⟨kg,kH,dF,by rw[jk];simpa using ai,by simp only[rem,J,if_true,aE],by simp only[rem,kU,J,if_true,bb],fun x ad=>?_⟩;obtain⟨f1,f2,f3,f4⟩:=b9 x ad;refine⟨?_,Ω,f3,f4⟩;have:x.1-k=(x.1-(k+1))+1:=Ω
    rw[this];simpa using f1
   ·have J:l.getD k false=false:=by simpa using J
    refine⟨(k,g)::kg,kH,dF,by rw[jk];simpa using ai,by simp[rem,J,aE],by simp[rem,kU,J,bb],fun x ad=>?_⟩;rcases gZ.1 ad with rfl|ad
    ·exact⟨Ψ,cx _,by simp;omega,J⟩
    ·obtain⟨f1,f2,f3,f4⟩:=b9 x ad;refine⟨?_,Ω,f3,f4⟩;have:x.1-k=(x.1-(k+1))+1:=Ω
     rw[this];simpa using f1
def qZ(acc:List Nat):List Edge->Nat
 |[]=>0
 |e::r=>if pG .any e then(2 ^ e.on)|||(acc.getD e.on 0)|||qZ acc r else qZ acc r
def lx(acc:List Nat):List Oper->List Nat
 |[]=>acc
 |o::os=>lx (acc++[qZ acc o.after.toList]) os
def yl(m:Nat)(h:b3):Nat->List b3->Bool
 |_,[]=>true
 |i,g::r=>(m.testBit i||u0 g h)&&yl m h (i+1) r
def sL:List b3->List b3->List Nat->Bool
 |_,[],_=>true
 |pre,h::r,m::ms=>yl m h 0 pre&&sL (pre++[h]) r ms
 |_,_,[]=>false
def qA:Nat->List Oper->Bool
 |_,[]=>true
 |k,o::os=>o.after.toList.all (fun e=> !pG .any e||decide (e.on<k))&&qA (k+1) os
def wM(gs:List b3)(ops:List Oper):Bool:=qA 0 ops&&sL [] gs (lx [] ops)
theorem DU{acc:List Nat}{j:Nat}:∀{es:List Edge},(qZ acc es).testBit j=true->∃e∈es,pG .any e=true/\(j=e.on\/(acc.getD e.on 0).testBit j=true)
 |[],h=>by simp[qZ]at h
 |e::r,h=>by
  simp only[qZ]at h;split at h
  ·rename_i af;simp only[Nat.testBit_or,Bool.or_eq_true]at h;rcases h with(h|h)|h
   ·refine⟨e,Ψ,af,.inl ?_⟩;rw[Nat.testBit_two_pow]at h;have cD:e.on=j:=by simpa using h
    exact cD.symm
   ·exact⟨e,Ψ,af,.inr h⟩
   ·obtain⟨fC,I,aa⟩:=DU h;exact⟨fC,by simp[I],aa⟩
  ·obtain⟨fC,I,aa⟩:=DU h;exact⟨fC,by simp[I],aa⟩
theorem DV:∀(os:List Oper) (acc:List Nat) (k:Nat),k<acc.length->(lx acc os)[k]? =acc[k]?
 |[],acc,k,_=>rfl
 |o::os,acc,k,h=>by simp only[lx];rw[DV os _ k (by simp;omega),nI h]
theorem JH:∀(os:List Oper) (acc:List Nat) (k:Nat) (o:Oper),os[k]? =some o->∃qu,(lx acc os)[acc.length+k]? =some (qZ qu o.after.toList)/\qu.length=acc.length+k/\∀i,i<qu.length->qu[i]? =(lx acc os)[i]?
 |[],acc,k,o,h=>by simp at h
 |o'::os,acc,0,o,h=>by
  simp only[List.getElem?_cons_zero,dp]at h;subst h;refine⟨acc,?_,Ψ,fun i aD=>?_⟩
  ·simp only[lx,Nat.add_zero];rw[DV os _ _ Ψ];simp
  ·simp only[lx];rw[DV os _ i (by simp;omega),nI aD]
 |o'::os,acc,k+1,o,h=>by simp only[List.getElem?_cons_succ]at h;obtain⟨qu,I,aa,ak⟩:=JH os (acc++[qZ acc o'.after.toList]) k o h;refine⟨qu,?_,by rw[aa];simp;omega,fun i aD=>by rw[ak i aD];rfl⟩;simp only[lx];rw[show acc.length+(k+1)=(acc++[qZ acc o'.after.toList]).length+k from by simp;omega];exact I
def rG(ops:Array Oper)(listed:Array Bool):Prop:= ∀k o,ops[k]? =some o->listed.getD k false=true->∀e∈o.after.toList,pG .any e=true->listed.getD e.on false=true
theorem Ai{ops:Array Oper}{listed:Array Bool}(aG:rG ops listed):∀(k:Nat) (o:Oper),ops[k]? =some o->(∀e∈o.after.toList,pG .any e=true->listed.getD e.on false=true)->∀j,((lx [] ops.toList).getD k 0).testBit j=true->listed.getD j false=true:=by
 intro k;induction k using Nat.strongRecOn with
 |_ k a8=>
  intro o ag aB j av;obtain⟨qu,I,aa,ak⟩:=JH ops.toList [] k o (by simpa using ag);simp only[List.length_nil,Nat.zero_add]at I aa;rw[List.getD_eq_getElem?_getD,I]at av;obtain⟨e,he,af,bn⟩:=DU av;rcases bn with rfl|bn
  ·exact aB e he af
  ·by_cases b4:e.on<qu.length
   ·have hm:qu.getD e.on 0=(lx [] ops.toList).getD e.on 0:=by rw[List.getD_eq_getElem?_getD,ak _ b4,List.getD_eq_getElem?_getD]
    have J:k<ops.size:=(Array.getElem?_eq_some_iff.1 ag).1;have fM:ops[e.on]? =some ops[e.on]:=l9 Ω;rw[hm]at bn;exact a8 e.on Ω _ fM (fun fC xk dM=>aG e.on _ fM (aB e he af) fC xk dM) j bn
   ·rw[List.getD_eq_getElem?_getD,List.getElem?_eq_none Ω]at bn;simp at bn
theorem KU{m:Nat}{h:b3}:∀{gs:List b3} {i0:Nat},yl m h i0 gs=true->∀i g,gs[i]? =some g->m.testBit (i0+i)=true\/u0 g h=true
 |[],i0,_,i,g,aL=>by simp at aL
 |dF::r,i0,hr,0,g,aL=>by simp only[yl,bD,Bool.or_eq_true]at hr;simp only[List.getElem?_cons_zero,dp]at aL;subst aL;simpa using hr.1
 |dF::r,i0,hr,i+1,g,aL=>by simp only[yl,bD]at hr;have:=KU hr.2 i g (by simpa using aL);rwa[show i0+1+i=i0+(i+1)from by omega]at this
theorem Ei:∀{gs pre:List b3} {ms:List Nat},sL pre gs ms=true->∀j h,gs[j]? =some h->∀i g,i<pre.length+j->(pre++gs)[i]? =some g->(ms.getD j 0).testBit i=true\/u0 g h=true
 |[],pre,ms,_,j,h,av,_,_,_,_=>by simp at av
 |cD::r,pre,[],aV,j,h,av,_,_,_,_=>by simp[sL]at aV
 |cD::r,pre,m::ms,aV,j,h,av,i,g,aD,aL=>by
  simp only[sL,bD]at aV;cases j with
  |zero=>simp only[List.getElem?_cons_zero,dp]at av;subst av;rw[nI Ω]at aL;simpa using KU aV.1 i g aL
  |succ j=>have:=Ei aV.2 j h (by simpa using av) i g (by simp;omega) (by simpa using aL);simpa using this
theorem y5:∀{os:List Oper} {k:Nat},qA k os=true->∀i o,os[i]? =some o->∀e∈o.after.toList,pG .any e=true->e.on<k+i
 |[],k,_,i,o,ag,_,_,_=>by simp at ag
 |o'::os,k,h,0,o,ag,e,he,af=>by simp only[qA,bD,kd]at h;simp only[List.getElem?_cons_zero,dp]at ag;subst ag;have:=h.1 e he;simpa[af]using this
 |o'::os,k,h,i+1,o,ag,e,he,af=>by simp only[qA,bD]at h;have:=y5 h.2 i o (by simpa using ag) e he af;omega
theorem Cr{N:Nat}{aQ:List (Nat×cm)}{ops:List Oper}:∀{gs:List b3} {os:List Oper},hc N aQ ops gs os=true->∀(i:Nat) (g:b3),gs[i]? =some g->∃o,os[i]? =some o/\w7 N aQ ops g o=true
 |[],[],_,i,g,h=>by simp at h
 |[],_::_,h,_,_,_=>by simp[hc]at h
 |_::_,[],h,_,_,_=>by simp[hc]at h
 |dF::gs,o::os,h,0,g,aL=>by simp only[hc,bD]at h;simp only[List.getElem?_cons_zero,dp]at aL;subst aL;exact⟨o,Ψ,h.1⟩
 |dF::gs,o::os,h,i+1,g,aL=>by simp only[hc,bD]at h;obtain⟨o',I,aa⟩:=Cr h.2 i g (by simpa using aL);exact⟨o',by simpa using I,aa⟩
theorem w9{N:Nat}{aQ:List (Nat×cm)}{ops:List Oper}:∀{gs:List b3} {os:List Oper},hc N aQ ops gs os=true->gs.length=os.length
 |[],[],_=>rfl
 |[],_::_,h=>by simp[hc]at h
 |_::_,[],h=>by simp[hc]at h
 |g::gs,o::os,h=>by simp only[hc,bD]at h;simp[w9 h.2]
theorem Es{l:Array Bool}:∀(gs:List b3) (k:Nat),rem l k gs=[]\/ ∃i g,i<gs.length/\gs[i]? =some g/\l.getD (k+i) false=false/\∀j,j<i->l.getD (k+j) false=true
 |[],_=>.inl rfl
 |g::r,k=>by
  by_cases h:l.getD k false=true
  ·rcases Es (l:=l) r (k+1)with I|⟨i,dF,I,aa,ak,aJ⟩
   ·left;simp only[rem,h,if_true,I]
   ·refine .inr ⟨i+1,dF,by simp;omega,by simpa using aa,by rw[show k+(i+1)=k+1+i from by omega];exact ak,fun j av=>?_⟩;cases j with
    |zero=>simpa using h
    |succ j=>rw[show k+(j+1)=k+1+j from by omega];exact aJ j Ω
  ·exact .inr ⟨0,g,Ψ,Ψ,by simpa using h,fun j av=>Ω⟩
theorem Mh{P:bm}{aQ:List (Nat×cm)}(au:dE P aQ=true){C:db}{q:Bool}{n0:Nat}{ops:Array Oper}{gs:List b3}(gb:hc C.N aQ ops.toList gs ops.toList=true)(zu:wM gs ops.toList=true){K:ch->Prop}{Q:Exit->Act->World->Prop}
  (n4:∀A a w,K A->pN C A a w->Q .normal a w):∀(fuel:Nat) (listed:Array Bool) (A:ch) (a:Act) (w:World),listed.size=ops.size->rG ops listed->(rem listed 0 gs).length<=fuel->pQ P q n0 K (rem listed 0 gs) A->pN C A a w->wpAny P .any ops Q fuel listed a w:=by
 simp only[wM,bD]at zu;obtain⟨p0,xA⟩:=zu;have hlen:gs.length=ops.size:=by simpa using w9 gb
 have Io:∀(listed:Array Bool) (A:ch) (a:Act) (w:World),listed.size=ops.size->pQ P q n0 K (rem listed 0 gs) A->pN C A a w->pH .any ops listed=[]->Q .normal a w:=by
  intro listed A a w cE ji hr zN;rcases Es (l:=listed) gs 0 with h|⟨i,g,I,aa,ak,aJ⟩
  ·rw[h]at ji;exact n4 A a w ji hr
  ·exfalso;have aD:i<ops.size:=Ω
   have hM:i∈pH .any ops listed:=by
    unfold pH;simp only[List.mem_filter,List.mem_range,bD,oF];refine⟨aD,?_,?_⟩
    ·rw[Nat.zero_add]at ak;simp only[l8]at ak⊢;rw[l9 Ω]at ak⊢;simpa using ak
    ·rw[l9 aD];simp only[mP,oG];rw[<-Array.all_toList,kd];intro e he;by_cases af:pG .any e=true
     ·have b4:=y5 p0 i ops[i] (by simp[aD]) e he af;have:=aJ e.on Ω;rw[Nat.zero_add]at this;simp[this]
     ·simp[af]
   rw[zN]at hM;simp at hM
 intro fuel;induction fuel with
 |zero=>
  intro listed A a w cE aG aH ji hr;have o9:rem listed 0 gs=[]:=pK Ω;have zN:pH .any ops listed=[]:=by
   rw[List.eq_nil_iff_forall_not_mem];intro i aD;unfold pH at aD;simp only[List.mem_filter,List.mem_range,bD,oF]at aD;obtain⟨I,aa,_⟩:=aD;have aU:listed.getD i false=false:=by simp only[l8]at aa⊢;rw[l9 Ω]at aa⊢;simpa using aa
   obtain⟨kg,kH,g,_,aE,_⟩:=yf Ω aU gs 0 Ω Ω;rw[o9]at aE;simp at aE
  exact⟨zN,Io listed A a w cE ji hr zN⟩
 |succ fuel a8=>
  intro listed A a w cE aG aH ji hr;refine⟨Io listed A a w cE ji hr,fun i aD=>?_⟩;unfold pH at aD;simp only[List.mem_filter,List.mem_range,bD,oF]at aD;obtain⟨I,aa,ak⟩:=aD;have aU:listed.getD i false=false:=by simp only[l8]at aa⊢;rw[l9 Ω]at aa⊢;simpa using aa
  have ag:ops[i]? =some ops[i]:=l9 I;have sc:∀e∈ops[i].after.toList,pG .any e=true->listed.getD e.on false=true:=by rw[ag]at ak;simp only[mP,oG]at ak;rw[<-Array.all_toList,kd]at ak;intro e he af;simpa[af]using ak e he
  obtain⟨kg,kH,g,ai,aE,bb,b9⟩:=yf Ω aU gs 0 Ω Ω;simp only[Nat.sub_zero]at ai b9;rw[aE]at ji;obtain⟨x,ad,CB⟩:=BE kg kH A (fun y bs=>by
   obtain⟨f1,f2,f3,f4⟩:=b9 y bs;rcases Ei xA i g ai y.1 y.2 (by simpa using f3) (by simpa using f1)with h|h
   ·have:=Ai aG i ops[i] ag sc y.1 h;rw[f4]at this;cases this
   ·exact h) ji
  obtain⟨o',g1,g2⟩:=Cr gb i g ai;have:o'=ops[i]:=by rw[Array.getElem?_toList,ag]at g1;exact(iL g1).symm
  subst this;refine FK au ag g2 ad hr fun bG w' bJ=>?_;refine a8 (listed.setIfInBounds i true) (A.do x) bG w' (by simpa using cE) ?_ ?_ (by rw[bb];exact CB) bJ
  ·intro k o J aB e he af;rw[r0 Ω]at aB⊢;split
   ·rfl
   ·by_cases jk:i=k
    ·subst jk;rw[ag]at J;cases J;exact sc e he af
    ·rw[bh jk]at aB;exact aG k o J aB e he af
  ·rw[bb];rw[aE]at aH;simp at aH⊢;omega
def tz(n0 d:Nat)(st:aM):Prop:= .loc (n0+d)∉st.o/\look (.loc (n0+d)) st.b=none/\look (.loc (n0+d)) st.e=none
def eW.loadO(q:Bool)(t:List (Nat×ab)):eW->Prop
 | .load _ _ x=>q=true\/tR (bg t x)=true
 | .loadB _ _ _=>True
 | .mgetB _ _ _ _ _=>True
 | .mget _ _ _ _ _=>q=true
 | .ment _=>q=true
 | .mlen _=>q=true
 |_=>True
def iU(q:Bool)(nw:List Nat)(n0:Nat)(st:aM):cW->Prop
 | .v _ i=>i.loadO q st.t
 | .box d none _=>tz n0 d st
 | .alloc d none _=>tz n0 d st
 | .box _ (some _) _=>cv
 | .alloc _ (some _) _=>cv
 | .store _ x _=>match bg st.t x with| .ptr _ _=>True|_=>cv
 | .bslm _ none _ _ _=>cv
 | .bslm _ (some m) _ _ _=>m∈nw/\look (.obj m) st.b=none/\look (.obj m) st.e=none
 | .mks _ _ _ _ _ _=>cv
 | .apps _ _ _ _=>cv
 | .appm _ none _ _ x _=>match bg st.t x with| .row _ _ _=>True|_=>cv
 | .appm _ (some m) _ _ x _=>match bg st.t x with| .row _ _ _=>True| .slice _ .nil _=>m∈nw/\look (.obj m) st.b=none/\look (.obj m) st.e=none|_=>cv
 | .storeE _ _ _=>True
 | .mkmap _ none=>cv
 | .mkmap _ (some m)=>m∈nw/\look (.obj m) st.b=none/\look (.obj m) st.e=none
 | .mput _ _ _ _=>True
 | .range _ _ _=>cv
 | .bsl d _ _ _=>tz n0 d st
 | .app d _ _ x _=>match bg st.t x with
  | .slice _ .nil _=>tz n0 d st
  | .slice _ (.own k) _=>(look k st.e).bind (·.xs)=none
  |_=>True
def lh(n0:Nat):cW->aq
 | .mkmap _ (some m)=>.obj m
 | .appm _ (some m) _ _ _ _=>.obj m
 | .bslm _ (some m) _ _ _=>.obj m
 | .v d _| .box d _ _| .alloc d _ _| .bsl d _ _ _| .app d _ _ _ _| .bslm d _ _ _ _| .appm d _ _ _ _ _| .mkmap d _| .range d _ _| .mks d _ _ _ _ _| .apps d _ _ _=>.loc (n0+d)
 | .store _ _ _| .mput _ _ _ _| .storeE _ _ _=>.loc n0
def RL(nw:List Nat)(st:aM)(s aj:df)(rm:aR aq):Prop:=(∀k,(look k aj.b).isSome->(look k s.b).isSome\/rm=some k)/\(∀k,(look k aj.e).isSome->(look k s.e).isSome\/rm=some k)/\(∀k,(look k s.b).isSome->(look k aj.b).isSome)/\(∀k,(look k s.e).isSome->(look k aj.e).isSome)/\
 (∀k,rm=some k->(∃j,j∈nw/\k= .obj j)/\look k st.b=none/\look k st.e=none/\((look k aj.b).isSome\/(look k aj.e).isSome))
def mQ(P:bm)(q:Bool)(nw:List Nat)(n:Nat)(args:List ab)(st:aM)(d:aR Nat)(K:aM->Prop):Prop:=
 (∃e7 r,d=some e7/\tz st.n e7 st/\kinL (fun _=>cv) args/\FnK P n (st.n+e7) args ⟨[],[]⟩ (fun cr t'=>cr=r/\t'=⟨[],[]⟩)/\K {st with t:=put e7 r st.t,o:= .loc (st.n+e7)::st.o})\/
 ∃s aj r rm,mK (aI s) s.b st.b/\nC (aI s) s.e st.e/\gG s/\gG aj/\RL nw st s aj rm/\kinL (aI s) args/\c8 P n args s (fun cr t'=>cr=r/\t'=aj)/\(q=true->aj.b=[]/\aj.e=[])/\K {after st s aj d r with o:=st.o}
def hq(P:bm)(q:Bool)(nw:List Nat)(n0:Nat)(st:aM)(K:aM->Prop):cX->Prop
 | .s i=>match de (lh n0 i) st.n (lh n0 i::st.o) st i with
  |some (c,st')=>iU q nw n0 st i/\c/\K st'
  |none=>cv
 | .call d f xs=>match bg st.t f with
  | .func n cP=>mQ P q nw n (bF (xs.map (bg st.t)++cP)) st d K
  |_=>cv
 | .next _ _=>cv
 | .opn _ _ _=>cv
 | .callb _ _=>cv
def fI(P:bm)(q:Bool)(nw:List Nat)(n0:Nat):List b3->aM->(aM->Prop)->Prop
 |[],st,K=>K st
 |⟨none,i⟩::r,st,K=>hq P q nw n0 st (fun st'=>fI P q nw n0 r st' K) i
 |⟨some (s,want),i⟩::r,st,K=>match get s st.t with
  | .bool b=>(b=want->hq P q nw n0 {st with t:=put s (.bool want) st.t} (fun st'=>fI P q nw n0 r st' K) i)/\(b= !want->fI P q nw n0 r {st with t:=eB i.dst (.tuple []) (put s (.bool !want) st.t)} K)
  | .tuple []=>fI P q nw n0 r {st with t:=eB i.dst (.tuple []) st.t} K
  |_=>cv
structure nK (nw:List Nat) (n0 N:Nat) (k5:List aq) (st:aM) (A:ch):Prop where
 like:jC st A
 n:st.n=n0
 F:∀k,fresh n0 st.o k->(∀j∈nw,k≠ .obj j)->A.F k
 o:∀k∈st.o,k∈k5\/(∃d,d<N/\k= .loc (n0+d))\/ ∃j∈nw,k= .obj j
def wG(nw:List Nat)(A:ch):Prop:= ∀j∈nw,A.b (.obj j)=none->A.e (.obj j)=none->A.F (.obj j)
theorem wG.do{P:bm}{q:Bool}{n0:Nat}{nw:List Nat}{A:ch}(h:wG nw A){g:b3}{x:iN}(ad:iO P q n0 g A x):wG nw (A.do x):=by
 intro j av af he;refine⟨h j av (y0 af) (y1 he),fun oQ=>?_⟩;rcases(E6 ad).r _ oQ with⟨d,_,e⟩|⟨_,_,ao⟩
 ·cases e
 ·rcases ao with ao|ao
  ·obtain⟨y,bs⟩:=eb.1 ao;simp[ch.do,hb,bs]at af
  ·obtain⟨y,bs⟩:=eb.1 ao;simp[ch.do,hb,bs]at he
theorem Hh{P:bm}{q:Bool}{nw:List Nat}{n0 N:Nat}{k5:List aq}{i:cX}(aG:∀d,i.dst=some d->d<N){st:aM}{A:ch}(h:nK nw n0 N k5 st A)(jZ:wG nw A){K:aM->Prop}(he:hq P q nw n0 st K i):∃x st',cM P q n0 i A x/\K st'/\nK nw n0 N k5 st' (A.do x):=by
 have aB:=h.like;have o3:∀d,tz n0 d st->(A.F (.loc (n0+d))/\A.b (.loc (n0+d))=none/\A.e (.loc (n0+d))=none):=fun d aH=>⟨h.F _ ⟨Ψ,aH.1⟩ (fun _ _ e=>by cases e),by rw[<-aB.b];exact aH.2.1,by rw[<-aB.e];exact aH.2.2⟩;have kP:∀(d:aR Nat) (p:ab) (bw:List (aq×List ab)) (ew:List (aq×cp)) (κ:aq),∀k,fresh n0 (κ::st.o) k->(∀j∈nw,k≠ .obj j)->(A.do ⟨d,p,bw,ew,some κ⟩).F k:=fun d p bw ew κ k J av=>⟨h.F k (pX k J).1 av,fun e=>(pX k J).2 (iL e).symm⟩;have r6:∀(d:aR Nat) (p:ab) (bw:List (aq×List ab)) (ew:List (aq×cp)),∀k,fresh n0 st.o k->(∀j∈nw,k≠ .obj j)->(A.do ⟨d,p,bw,ew,none⟩).F k:=fun d p bw ew k J av=>⟨h.F k J av,Ψ⟩;have xz:∀d,d<N->∀k∈aq.loc (n0+d)::st.o,k∈k5\/(∃d,d<N/\k= .loc (n0+d))\/ ∃j∈nw,k= .obj j:=fun d aG k J=>by
  rcases gZ.1 J with rfl|J
  ·exact .inr (.inl ⟨d,aG,rfl⟩)
  ·exact h.o k J
 cases i with
 |s i=>
  cases i with
  |v d i=>
   simp only[hq,de]at he;cases aY:fs st i with
   |none=>simp[aY]at he
   |some Nh=>
    obtain⟨c,p⟩:=Nh;simp only[aY]at he;obtain⟨I,aa,ak⟩:=he;refine⟨⟨some d,p,[],[],none⟩,_,⟨c,p,by rw[<-LF aB];exact aY,aa,fun im=>?_,rfl⟩,ak,DN aB d p,h.n,r6 _ _ _ _,h.o⟩;cases i<;>simp only[eW.isLoad]at im<;>try(cases im;done)
    case mget=>exact .inr (.inl I)
    case ment=>exact .inr (.inl I)
    case mlen=>exact .inr (.inl I)
    case loadB=>exact .inl rfl
    case mgetB=>exact .inl rfl
    simp only[iU,eW.loadO,gA aB]at I;exact .inr (by simpa only[eW.ptrOf]using I)
  |box d key v=>
   cases key with
   |some m=>simp only[hq,de,iU,false_and]at he
   |none=>simp only[hq,de,iU,lh]at he;obtain⟨I,aa,ak⟩:=he;rw[gA aB]at aa;refine⟨_,_,⟨o3 d I,aa,rfl⟩,ak,?_,h.n,kP _ _ _ _ _,xz d (aG d rfl)⟩;rw[gA aB];exact vz aB d _ _ _ _ _ _
  |alloc d key z=>
   cases key with
   |some m=>simp only[hq,de,iU,false_and]at he
   |none=>simp only[hq,de,iU,lh]at he;obtain⟨I,aa,ak⟩:=he;exact⟨_,_,⟨o3 d I,rfl⟩,ak,vz aB d _ _ _ _ _ _,h.n,kP _ _ _ _ _,xz d (aG d rfl)⟩
  |store sz u v=>
   simp only[hq,de]at he;cases hu:bg st.t u with
   |ptr k off=>
    cases af:look k st.b with
    |none=>simp[hu,af]at he
    |some cs=>simp only[hu,af]at he;obtain⟨I,aa,ak⟩:=he;rw[gA aB]at aa hu;refine⟨⟨none,.junk,[(k,l6 cs off (cells (cw A.t v)))],[],none⟩,_,⟨k,off,cs,hu,by rw[<-aB.b];exact af,aa,rfl⟩,ak,?_,h.n,r6 _ _ _ _,h.o⟩;rw[gA aB];exact Ae aB k _ _
   |_=>
    exfalso;simp only[hu]at he;split at he
    ·have:=he.1;simp[iU,hu]at this
    ·exact he
  |bsl d sz el xs=>simp only[hq,de,iU,lh]at he;obtain⟨I,aa,ak⟩:=he;rw[mZ aB]at aa;refine⟨_,_,⟨o3 d I,aa,rfl⟩,ak,?_,h.n,kP _ _ _ _ _,xz d (aG d rfl)⟩;rw[mZ aB];exact mE aB d _ _ _ _ _ _
  |app d sz el u v=>
   simp only[hq,de]at he;cases hu:bg st.t u with
   |slice cB tag xs=>
    cases aY:bg st.t v with
    |slice gJ fF ys=>
     simp only[hu,aY]at he;by_cases dT:cB=sz/\gJ=sz
     ·obtain⟨rfl,rfl⟩:=dT;rw[gA aB]at hu aY;cases tag with
      |no=>simp at he
      |tr k j=>simp at he
      |lo k=>simp at he
      |nil=>simp only[and_self,if_true,iU,gA aB,hu,lh]at he;obtain⟨I,aa,ak⟩:=he;exact⟨_,_,⟨.nil,xs,fF,ys,hu,aY,.inr ⟨rfl,aa,o3 d I,rfl⟩⟩,ak,mE aB d _ _ _ _ _ _,h.n,kP _ _ _ _ _,xz d (aG d rfl)⟩
      |own k=>
       cases J:look k st.e with
       |none=>simp[J]at he
       |some o=>simp only[and_self,if_true,J]at he;obtain⟨I,aa,ak⟩:=he;exact⟨_,_,⟨.own k,xs,fF,ys,hu,aY,.inl ⟨k,o,rfl,by rw[<-aB.e];exact J,⟨by simpa[iU,gA aB,hu,J]using I,aa⟩,rfl⟩⟩,ak,mE aB d _ _ _ _ _ _,h.n,r6 _ _ _ _,h.o⟩
     ·simp[dT]at he
    |_=>simp[hu,aY]at he
   |_=>simp[hu]at he
  |bslm d key sz el xs=>
   cases key with
   |none=>simp only[hq,de,iU,false_and]at he
   |some m=>
    simp only[hq,de,iU,lh]at he;obtain⟨⟨bR,I,aa⟩,aJ,ak⟩:=he;rw[aB.b]at I;rw[aB.e]at aa;rw[mZ aB]at aJ;refine⟨_,_,⟨⟨jZ m bR I aa,I,aa⟩,aJ,rfl⟩,ak,?_,h.n,kP _ _ _ _ _,fun k J=>?_⟩
    ·rw[mZ aB];exact mE aB d _ _ _ _ _ _
    rcases gZ.1 J with rfl|J
    ·exact .inr (.inr ⟨m,bR,rfl⟩)
    ·exact h.o k J
  |mks d key sz el z x=>simp only[hq,de,iU,false_and]at he;split at he<;>simp at he
  |apps d el x y=>simp only[hq,de,iU,false_and]at he;split at he<;>simp at he
  |appm d key sz el u v=>
   cases key with
   |some m=>
    simp only[hq,de]at he;cases hu:bg st.t u with
    |slice cB tag xs=>
     cases tag with
     |nil=>
      cases aY:bg st.t v with
      |slice gJ fF ys=>
       simp only[hu,aY,kk]at he;by_cases dT:cB=sz/\gJ=sz
       ·obtain⟨rfl,rfl⟩:=dT;simp only[and_self,if_true,iU,hu,lh]at he;rw[gA aB]at hu aY;obtain⟨⟨bR,I,aa⟩,aJ,ak⟩:=he;rw[aB.b]at I;rw[aB.e]at aa;refine⟨_,_,.inr ⟨xs,fF,ys,hu,aY,⟨jZ m bR I aa,I,aa⟩,aJ,rfl⟩,ak,mE aB d _ _ _ _ _ _,h.n,kP _ _ _ _ _,fun k J=>?_⟩;rcases gZ.1 J with rfl|J
        ·exact .inr (.inr ⟨m,bR,rfl⟩)
        ·exact h.o k J
       ·simp[dT]at he
      |_=>simp[hu,aY,kk]at he
     |_=>simp[hu,kk]at he
    |row cB k n=>
     cases aY:bg st.t v with
     |slice gJ fF ys=>
      simp only[hu,aY,kk]at he;by_cases dT:cB=sz/\gJ=sz
      ·obtain⟨rfl,rfl⟩:=dT;rw[gA aB]at hu aY;simp only[and_self,if_true]at he;cases J:look k st.e with
       |none=>simp[J]at he
       |some o=>
        obtain⟨n',dL,qg,x5⟩:=o;cases x5 with
        |none=>simp[J]at he
        |some xs=>
         simp only[J]at he;by_cases n5:n'=n/\dL=el/\qg=gJ
         ·obtain⟨rfl,rfl,rfl⟩:=n5;simp only[and_self,if_true]at he;obtain⟨I,aa,ak⟩:=he;exact⟨_,_,.inl ⟨k,n',xs,fF,ys,hu,aY,by rw[<-aB.e];exact J,aa,rfl⟩,ak,mE aB d _ _ _ _ _ _,h.n,r6 _ _ _ _,h.o⟩
         ·simp[n5]at he
      ·simp[dT]at he
     |_=>simp[hu,aY,kk]at he
    |_=>simp[hu,kk]at he
   |none=>
   simp only[hq,de]at he;cases hu:bg st.t u with
   |row cB k n=>
    cases aY:bg st.t v with
    |slice gJ fF ys=>
     simp only[hu,aY,kk]at he;by_cases dT:cB=sz/\gJ=sz
     ·obtain⟨rfl,rfl⟩:=dT;rw[gA aB]at hu aY;simp only[and_self,if_true]at he;cases J:look k st.e with
      |none=>simp[J]at he
      |some o=>
       obtain⟨n',dL,qg,x5⟩:=o;cases x5 with
       |none=>simp[J]at he
       |some xs=>
        simp only[J]at he;by_cases n5:n'=n/\dL=el/\qg=gJ
        ·obtain⟨rfl,rfl,rfl⟩:=n5;simp only[and_self,if_true]at he;obtain⟨I,aa,ak⟩:=he;exact⟨_,_,⟨k,n',xs,fF,ys,hu,aY,by rw[<-aB.e];exact J,aa,rfl⟩,ak,mE aB d _ _ _ _ _ _,h.n,r6 _ _ _ _,h.o⟩
        ·simp[n5]at he
     ·simp[dT]at he
    |_=>simp[hu,aY,kk]at he
   |slice cB tag xs=>
    exfalso;simp only[hu]at he;split at he
    ·have:=he.1;simp[iU,hu]at this
    ·exact he
   |_=>simp[hu,kk]at he
  |storeE sz u v=>
   simp only[hq,de]at he;cases hu:bg st.t u with
   |rptr cB k n i f=>
    cases J:look k st.e with
    |none=>simp[hu,ov,J]at he
    |some o=>
     obtain⟨n',el,qg,x5⟩:=o;cases x5 with
     |none=>simp[hu,ov,J]at he
     |some xs=>
      simp only[hu,ov,J]at he;by_cases n5:n'=n/\qg=cB
      ·obtain⟨rfl,rfl⟩:=n5;simp only[and_self,if_true]at he;cases bj:xs[i]? with
       |none=>simp[bj]at he
       |some q=>simp only[bj]at he;obtain⟨I,aa,ak⟩:=he;rw[gA aB]at aa hu;refine⟨⟨none,.junk,[],[(k,⟨n',el,qg,some (xs.set i (oq q f (cells (cw A.t v))))⟩)],none⟩,_,⟨k,n',i,f,el,qg,xs,q,hu,by rw[<-aB.e];exact J,bj,aa,rfl⟩,ak,?_,h.n,r6 _ _ _ _,h.o⟩;rw[gA aB];exact JA aB k _ _
      ·simp[n5]at he
   |_=>simp[hu,ov]at he
  |mkmap d key=>
   cases key with
   |none=>simp only[hq,de,iU,false_and]at he
   |some m=>
    simp only[hq,de,iU,lh]at he;obtain⟨⟨bR,I,aa⟩,_,ak⟩:=he;rw[aB.b]at I;rw[aB.e]at aa;refine⟨_,_,⟨⟨jZ m bR I aa,I,aa⟩,rfl⟩,ak,vz aB d _ _ _ _ _ _,h.n,kP _ _ _ _ _,fun k J=>?_⟩;rcases gZ.1 J with rfl|J
    ·exact .inr (.inr ⟨m,bR,rfl⟩)
    ·exact h.o k J
  |mput bH u k v=>
   simp only[hq,de,iU]at he;cases hu:bg st.t u with
   |gmap m=>
    cases af:look m st.b with
    |none=>simp[hu,af]at he
    |some cs=>
     cases hm:po bH (bg st.t k) (bg st.t v) cs with
     |none=>simp[hu,af,hm]at he
     |some cs'=>simp only[hu,af,hm]at he;rw[gA aB]at hu;rw[gA aB,gA aB]at hm;exact⟨⟨none,.junk,[(m,cs')],[],none⟩,_,⟨m,cs,cs',hu,by rw[<-aB.b];exact af,hm,rfl⟩,he.2.2,Ae aB m _ _,h.n,r6 _ _ _ _,h.o⟩
   |_=>simp[hu]at he
  |range d key x=>simp only[hq,iU,false_and]at he;split at he<;>exact he.elim
 |next d x=>simp only[hq]at he
 |opn d f x=>simp only[hq]at he
 |callb d f=>simp only[hq]at he
 |call d f xs=>
  simp only[hq]at he;cases aH:bg st.t f with
  |func n cP=>
   simp only[aH]at he;rw[gA aB]at aH;rcases he with⟨e7,r,rfl,cJ,c2,c3,c4⟩|⟨s,aj,r,rm,cJ,c2,c3,c4,c5,ml,wQ,Mv,c9⟩
   ·rw[mZ aB]at c2 c3;have aU:=h.n;subst aU;refine⟨⟨some e7,r,[],[],some (.loc (st.n+e7))⟩,_,⟨n,cP,aH,.inr ⟨e7,r,rfl,o3 e7 cJ,c2,c3,rfl⟩⟩,c4,JB aB e7 r _ _,rfl,kP _ _ _ _ _,xz e7 (aG e7 rfl)⟩
   rw[mZ aB]at ml wQ;obtain⟨ct,cN,gF,jt,oe⟩:=c5;refine⟨⟨d,r,aj.b,aj.e,rm⟩,_,⟨n,cP,aH,.inl ⟨⟨s,aj,r,rm,fun k cs J=>⟨by rw[<-aB.b];exact(cJ k cs J).1,(cJ k cs J).2.2⟩,fun k o J=>⟨by rw[<-aB.e];exact(c2 k o J).1,(c2 k o J).2.2⟩,c3,c4,⟨ct,cN,gF,jt,fun k J=>?_⟩,ml,wQ,rfl⟩,Mv⟩⟩,c9,⟨fun i=>?_,fun k=>?_,fun k=>?_⟩,h.n,fun k J av=>⟨h.F k J av,fun oQ=>?_⟩,h.o⟩
   ·obtain⟨⟨j,av,rfl⟩,aE,bb,b9⟩:=oe k J;rw[aB.b]at aE;rw[aB.e]at bb;exact⟨⟨j,rfl⟩,jZ j av aE bb,aE,bb,b9⟩
   ·simp only[after,ch.do];cases d with
    |none=>simpa[eB]using aB.t i
    |some d=>simp only[eB,nc,dp,aB.t]
   ·simp only[after,ch.do,hb,kA,pj];by_cases ao:(look k s.b).isSome
    ·have:=gF k ao;obtain⟨y,bs⟩:=eb.1 this;simp[ao,bs]
    ·cases aU:look k aj.b with
     |none=>simp only[ao,aB.b];cases A.b k<;>simp
     |some y=>
      rcases ct k (by simp[aU])with h|h
      ·exact absurd h ao
      ·have:=oe k h;simp[ao,this]
   ·simp only[after,ch.do,hb,kA,pj];by_cases ao:(look k s.e).isSome
    ·have:=jt k ao;obtain⟨y,bs⟩:=eb.1 this;simp[ao,bs]
    ·cases aU:look k aj.e with
     |none=>simp only[ao,aB.e];cases A.e k<;>simp
     |some y=>
      rcases cN k (by simp[aU])with h|h
      ·exact absurd h ao
      ·have:=oe k h;simp[ao,this]
   ·obtain⟨⟨j,jL,rfl⟩,_⟩:=oe k oQ;exact av j jL rfl
  |_=>simp[aH]at he
def rS(N:Nat):List b3->Bool
 |[]=>true
 |g::r=>fZ N g.i.dst&&rS N r
def rE:Nat->List b3->List (Nat×b3)
 |_,[]=>[]
 |k,g::r=>(k,g)::rE (k+1) r
theorem FV{nw:List Nat}{n0 N:Nat}{k5:List aq}{st:aM}{A:ch}(h:nK nw n0 N k5 st A){s:Nat}{p:ab}(ao:get s st.t=p):nK nw n0 N k5 {st with t:=put s p st.t} A:=by
 refine⟨⟨fun i=>?_,h.like.b,h.like.e⟩,h.n,h.F,h.o⟩;simp only[nc];split
 ·rename_i e;subst e;rw[<-ao];exact h.like.t _
 ·exact h.like.t i
theorem FW{nw:List Nat}{n0 N:Nat}{k5:List aq}{st:aM}{A:ch}(h:nK nw n0 N k5 st A)(d:aR Nat):nK nw n0 N k5 {st with t:=eB d (.tuple []) st.t} (A.do (jz d)):=by
 refine⟨⟨fun i=>?_,fun k=>?_,fun k=>?_⟩,h.n,fun k J av=>⟨h.F k J av,by simp[jz]⟩,h.o⟩
 ·simp only[ch.do,jz];cases d with
  |none=>simpa[eB]using h.like.t i
  |some d=>simp only[eB,nc,dp,h.like.t]
 ·simpa[ch.do,hb,look,jz]using h.like.b k
 ·simpa[ch.do,hb,look,jz]using h.like.e k
theorem uS{P:bm}{q:Bool}{nw:List Nat}{n0 N:Nat}{k5:List aq}{K:aM->Prop}:∀(gs:List b3) (k:Nat),rS N gs=true->∀(st:aM) (A:ch),nK nw n0 N k5 st A->wG nw A->fI P q nw n0 gs st K->pQ P q n0 (fun A'=> ∃st',K st'/\nK nw n0 N k5 st' A') (rE k gs) A
 |[],k,_,st,A,h,_,he=>⟨st,he,h⟩
 |⟨jJ,i⟩::r,k,aG,st,A,h,jZ,he=>by
  simp only[rS,bD]at aG;have fD:∀d,i.dst=some d->d<N:=fun d e=>by have:=aG.1;rw[e]at this;simpa[fZ]using this
  simp only[rE,pQ];cases jJ with
  |none=>simp only[fI]at he;obtain⟨x,st',I,aa,ak⟩:=Hh fD h jZ he;have aL:iO P q n0 ⟨none,i⟩ A x:=I;exact⟨x,aL,uS r (k+1) aG.2 st' _ ak (jZ.do aL) aa⟩
  |some ur=>
   obtain⟨s,want⟩:=ur;simp only[fI]at he;split at he
   ·rename_i b af;by_cases e:b=want
    ·subst e;obtain⟨x,st',I,aa,ak⟩:=Hh fD (FV h af) jZ (he.1 rfl);have aL:iO P q n0 ⟨some (s,b),i⟩ A x:=by unfold iO;simp only[<-h.like.t,af];exact .inl ⟨trivial,I⟩
     exact⟨x,aL,uS r (k+1) aG.2 st' _ ak (jZ.do aL) aa⟩
    ·have dM:b= !want:=by cases b<;>cases want<;>simp at e⊢
     subst dM;have aL:iO P q n0 ⟨some (s,want),i⟩ A (jz i.dst):=by unfold iO;simp only[<-h.like.t,af];exact .inr ⟨trivial,trivial⟩
     exact⟨jz i.dst,aL,uS r (k+1) aG.2 _ _ (FW (FV h af) i.dst) (jZ.do aL) (he.2 rfl)⟩
   ·rename_i af;have aL:iO P q n0 ⟨some (s,want),i⟩ A (jz i.dst):=by unfold iO;simp only[<-h.like.t,af]
    exact⟨jz i.dst,aL,uS r (k+1) aG.2 _ _ (FW h i.dst) (jZ.do aL) he⟩
   ·exact he.elim
theorem ye:∀(gs:List b3) (l:Array Bool) (k:Nat),(∀j,l.getD j false=false)->rem l k gs=rE k gs
 |[],_,_,_=>rfl
 |g::r,l,k,h=>by simp only[rem,h k,rE,ye r l (k+1) h];simp
def mf(n:Nat)(o:List aq)(K:aM->Prop)(st:aM):Prop:=K {st with n:=n,o:=o}
theorem Good.like{pr:Nat->Prop}{w:World}{ν:aC}{b fa:List (aq×List ab)}{e fC:List (aq×cp)}(h:Good pr w ν b e)(af:∀k,look k fa=look k b)(he:∀k,look k fC=look k e):Good pr w ν fa fC:=
 ⟨h.alt,fun k cs J=>h.box k cs (by rw[<-af];exact J),fun k aW bl I aa=>h.inj k aW bl (by rw[<-af];exact I) (by rw[<-af];exact aa),fun g o aL=>h.own g o (by rw[<-he];exact aL),
  fun g dF n n' v v' bl I aa=>h.oinj g dF n n' v v' bl (by rw[<-he];exact I) (by rw[<-he];exact aa),fun g k n v bl I aa=>h.obx g k n v bl (by rw[<-he];exact I) (by rw[<-af];exact aa),h.one,
  fun bl au=>h.otr bl (au.imp (fun⟨k,bt,a2⟩=>⟨k,by rw[<-af];exact bt,a2⟩) (fun⟨g,n,v,bt,a2⟩=>⟨g,n,v,by rw[<-he];exact bt,a2⟩))⟩
theorem Hi{P:bm}(hm:P.follows .mixedOrders=true){aQ:List (Nat×cm)}(au:dE P aQ=true){C:db}{q:Bool}{nw:List Nat}{id:Nat}{ops:Array Oper}{gs:List b3}(gb:hc C.N aQ ops.toList gs ops.toList=true)(zu:wM gs ops.toList=true)(fJ:rS C.N gs=true)
  {K:aM->Prop} {Q:Exit->Act->World->Prop} (n4:∀st' bG w' ν',K st'->bK C st' bG w' ν'->Q .normal bG w') {st:aM} {a:Act} {w:World} {ν:aC} (CX:∀j∈nw,.obj j∉st.o) (he:fI P q nw st.n gs st (mf (st.n+C.N) (nw.map aq.obj++st.o) K)) (hr:bK C st a w ν):(Code.region id ops true).wp P Q a w:=by
 refine wp_region_any hm ?_;have bJ:bK C st a {w with drawn:=w.drawn+1} ν:=hr.drawn _;let A:ch:=⟨fun i=>get i st.t,fun k=>look k st.b,fun k=>look k st.e,fresh st.n st.o⟩
 have lk:nK nw st.n C.N st.o st A:=⟨⟨fun _=>rfl,fun _=>rfl,fun _=>rfl⟩,rfl,fun k J _=>J,fun k J=>.inl J⟩;have ji:=uS gs 0 fJ st A lk (fun j av _ _=>⟨trivial,CX j av⟩) he;have h4:∀j,(nG ops.size false).getD j false=false:=fun j=>by simp[l8,Array.getElem?_replicate];split<;>rfl
 refine Mh au gb zu (q:=q) (n0:=st.n) (K:=fun A'=> ∃st',mf (st.n+C.N) (nw.map aq.obj++st.o) K st'/\nK nw st.n C.N st.o st' A') ?_ ops.size _ A a _ Ψ ?_ ?_ (by rw[ye gs _ 0 h4];exact ji) ⟨st,ν,lk.like,fun k J=>J,bJ⟩
 ·rintro A' bG w' ⟨st',J,b1⟩ ⟨TY,ν',hd,Cu,jm⟩;refine n4 _ bG w' ν' J ⟨jm.good.like (fun k=>by rw[hd.b,<-b1.like.b]) (fun k=>by rw[hd.e,<-b1.like.e]),jm.fr,jm.defers,jm.size,fun i=>?_,fun k nh=>?_,jm.ext,fun m hm aH=>bJ.obk m hm (n3 (Nat.le_add_right _ _) (fun _ h=>iw _ h) aH)⟩
  ·have:=jm.slot i;rw[hd.t,<-b1.like.t]at this;exact this
  ·refine jm.new k (Cu k (b1.F k ?_ fun j av e=>nh.2 (by subst e;exact kf _ (List.mem_map_of_mem av))));simp only at nh;refine⟨(n3 (Nat.le_add_right st.n C.N) (fun _ h=>h) nh).1,fun hM=>?_⟩;rcases b1.o k hM with h|⟨d,aG,rfl⟩|⟨j,av,rfl⟩;rotate_left 2
   ·exact nh.2 (kf _ (List.mem_map_of_mem av))
   ·exact nh.2 (iw _ h)
   ·have:=nh.1;simp at this;omega
 ·intro k o J aB;rw[h4]at aB;cases aB
 ·rw[ye gs _ 0 h4];have:∀(gs:List b3) k,(rE k gs).length=gs.length:=by
   intro gs;induction gs with
   |nil=>intro k;rfl
   |cons g r a8=>intro k;simp[rE,a8]
  rw[this];have:=w9 gb;simp at this;omega
mutual
def tn:ab->List (aq×Nat)
 | .slice _ tag _=>match tag with| .tr k i=>[(k,i)]|_=>[]
 | .agg cs=>tnL cs
 |_=>[]
def tnL:List ab->List (aq×Nat)
 |[]=>[]
 |x::xs=>tn x++tnL xs
end
mutual
def dt:ab->Prop
 | .int _ _=>True
 | .bool _=>True
 | .str _=>True
 | .slice _ tag xs=>match tag with| .tr k _=>k≠dj|_=>xs=[]
 | .agg cs=>ej cs
 |_=>cv
def ej:List ab->Prop
 |[]=>True
 |x::xs=>dt x/\ej xs
end
def iF(ν:aC)(l:List (aq×Nat))(b:Nat):Prop:= ∃k i,(k,i)∈l/\ν.tr k i b
theorem vI{ν:aC}{l fU:List (aq×Nat)}(h:∀x∈l,x∈fU)(b:Nat)(af:iF ν l b):iF ν fU b:=by obtain⟨k,i,I,aa⟩:=af;exact⟨k,i,h _ I,aa⟩
theorem D3{ν:aC}(eC:∀k j aW dc b,ν.tr k j b->ν.tr aW dc b->k=aW/\j=dc){l fU:List (aq×Nat)}(h:(l++fU).Nodup)(b:Nat)(I:iF ν l b):¬iF ν fU b:=by rintro⟨aW,jo,ak,aJ⟩;obtain⟨k,i,I,aa⟩:=I;obtain⟨rfl,rfl⟩:=eC k i aW jo b aa aJ;rw[pM]at h;exact h.2.2 _ I _ ak rfl
mutual
theorem Az{w:World}{ν:aC}(eC:∀k j aW dc b,ν.tr k j b->ν.tr aW dc b->k=aW/\j=dc):∀(p:ab) (v:Value),aw w ν p v->dt p->(tn p).Nodup->bS true w ν.A (iF ν (tn p)) (bC p) v
 | .int k n,v,h,_,_=>by simpa only[aw,bC,bS]using h
 | .bool b,v,h,_,_=>by simpa only[aw,bC,bS]using h
 | .str s,v,h,_,_=>by simpa only[aw,bC,bS]using h
 | .slice sz tag xs,v,h,ag,_=>by
  simp only[aw]at h;obtain⟨⟨a,cap,I,aa,ak,aJ⟩,_,_,hK,_⟩:=h;by_cases au:∃k i,tag= .tr k i
  ·obtain⟨k,i,rfl⟩:=au;refine zn _ _ v (pY (fun _ _ h=>⟨h,rfl⟩) (fun _ _ _=>rfl) _ _ _ v (fun b af=>?_) (hK k i rfl));exact⟨k,i,by simp[tn],af⟩
  ·have ad:xs=[]:=by
    simp only[dt]at ag;split at ag
    ·exact absurd ⟨_,_,rfl⟩ au
    ·exact ag
   subst ad;simp only[bC,bF,bS];exact⟨a,cap,I,aa,ak,.inl trivial⟩
 | .agg cs,v,h,ag,aU=>by simp only[aw,dt,tn,bC,bS]at h ag aU⊢;obtain⟨us,I,aa⟩:=h;exact⟨us,I,J3 eC cs _ aa ag aU⟩
 | .junk,_,_,ag,_=>by simp[dt]at ag
 | .ptr _ _,_,_,ag,_=>by simp[dt]at ag
 | .eptr _,_,_,ag,_=>by simp[dt]at ag
 | .iface _ _,_,_,ag,_=>by simp[dt]at ag
 | .nilp,_,_,ag,_=>by simp[dt]at ag
 | .tuple _,_,_,ag,_=>by simp[dt]at ag
 | .func _ _,_,_,ag,_=>by simp[dt]at ag
 | .gmap _,_,_,ag,_=>by simp[dt]at ag
 | .row _ _ _,_,_,ag,_=>by simp[dt]at ag
 | .rptr _ _ _ _ _,_,_,ag,_=>by simp[dt]at ag
 | .hdm _ _,_,_,ag,_=>by simp[dt]at ag
 | .hdi _ _ _,_,_,ag,_=>by simp[dt]at ag
 | .cst _,_,_,ag,_=>by simp[dt]at ag
theorem J3{w:World}{ν:aC}(eC:∀k j aW dc b,ν.tr k j b->ν.tr aW dc b->k=aW/\j=dc):∀(cs:List ab) (us:List Value),bV w ν cs us->ej cs->(tnL cs).Nodup->h1 true w ν.A (iF ν (tnL cs)) (bF cs) us
 |[],us,h,_,_=>by simpa only[bV,bF,h1]using h
 |c::cs,us,h,ag,aU=>by simp only[bV,ej,tnL,bF,h1]at h ag aU⊢;obtain⟨u,a1,I,⟨aa,ak⟩,aJ⟩:=h;have gT:=pM.1 aU;exact⟨u,a1,iF ν (tn c),iF ν (tnL cs),I,⟨vI (fun x ad=>kf _ ad),vI (fun x ad=>iw _ ad),fun _ b af=>D3 eC aU b af⟩,⟨Az eC c u aa ag.1 gT.1,ak⟩,J3 eC cs a1 aJ ag.2 gT.2.1⟩
end
theorem Eb{w:World}{ν:aC}(eC:∀k j aW dc b,ν.tr k j b->ν.tr aW dc b->k=aW/\j=dc){sz:Nat}:∀(cs:List ab) (us:List Value),cd w ν sz cs us->ej cs->(tnL cs).Nodup->hs true w ν.A (iF ν (tnL cs)) sz (bF cs) us
 |[],us,h,_,_=>by simpa only[cd,bF,hs]using h
 |c::cs,us,h,ag,aU=>by simp only[cd,ej,tnL,bF,hs]at h ag aU⊢;obtain⟨u,a1,I,⟨aa,ak⟩,aJ⟩:=h;have gT:=pM.1 aU;exact⟨u,a1,iF ν (tn c),iF ν (tnL cs),I,⟨vI (fun x ad=>kf _ ad),vI (fun x ad=>iw _ ad),fun _ b af=>D3 eC aU b af⟩,⟨Az eC c u aa ag.1 gT.1,ak⟩,Eb eC cs a1 aJ ag.2 gT.2.1⟩
mutual
theorem zm{t:Bool}{w:World}{A:Nat->Nat->Prop}{ν:aC}(aN:∀b o,A b o->ν.A b o):∀(p:ab) (F:Nat->Prop) (v:Value),bS t w A F p v->aw w ν (bC p) v
 | .int k n,_,_,h=>by simpa only[aw,bC,bS]using h
 | .bool b,_,_,h=>by simpa only[aw,bC,bS]using h
 | .str s,_,_,h=>by simpa only[aw,bC,bS]using h
 | .slice sz tag xs,F,v,h=>by
  simp only[bS,bC,aw]at h⊢;obtain⟨a,cap,I,aa,ak,aJ⟩:=h;refine⟨⟨a,cap,by rw[j8];exact I,by rw[j8];exact aa,by rw[j8];exact ak,?_⟩,fun e=>(by cases e),fun g e=>(by cases e),fun _ _ e=>(by cases e),fun _ e=>(by cases e)⟩;rcases aJ with rfl|⟨b,off,us,G,ai,_,_,b9,_,dz⟩
  ·exact .inl rfl
  ·exact .inr ⟨b,off,us,ai,sC (fun b o h=>⟨aN b o h,rfl⟩) _ _ b9,HC aN xs G us dz⟩
 | .agg cs,F,v,h=>by simp only[bS,bC,aw]at h⊢;obtain⟨us,I,aa⟩:=h;exact⟨us,I,HE aN cs F _ aa⟩
 | .junk,_,_,h=>by simp[bS]at h
 | .ptr _ _,_,_,h=>by simp[bS]at h
 | .eptr _,_,_,h=>by simp[bS]at h
 | .iface _ _,_,_,h=>by simp[bS]at h
 | .nilp,_,_,h=>by simp[bS]at h
 | .tuple _,_,_,h=>by simp[bS]at h
 | .func _ _,_,_,h=>by simp[bS]at h
 | .gmap _,_,_,h=>by simp[bS]at h
 | .row _ _ _,_,_,h=>by simp[bS]at h
 | .rptr _ _ _ _ _,_,_,h=>by simp[bS]at h
 | .hdm _ _,_,_,h=>by simp[bS]at h
 | .hdi _ _ _,_,_,h=>by simp[bS]at h
 | .cst _,_,_,h=>by simp[bS]at h
theorem HE{t:Bool}{w:World}{A:Nat->Nat->Prop}{ν:aC}(aN:∀b o,A b o->ν.A b o):∀(cs:List ab) (F:Nat->Prop) (us:List Value),h1 t w A F cs us->bV w ν (bF cs) us
 |[],_,_,h=>by simpa only[h1,bF,bV]using h
 |c::cs,F,us,h=>by simp only[h1,bF,bV]at h⊢;obtain⟨u,a1,e1,e2,I,_,⟨ba,cq⟩,dR⟩:=h;exact⟨u,a1,I,⟨zm aN c e1 u ba,cq⟩,HE aN cs e2 a1 dR⟩
theorem HC{t:Bool}{w:World}{A:Nat->Nat->Prop}{ν:aC}(aN:∀b o,A b o->ν.A b o){sz:Nat}:∀(cs:List ab) (F:Nat->Prop) (us:List Value),hs t w A F sz cs us->cd w ν sz (bF cs) us
 |[],_,_,h=>by simpa only[hs,bF,cd]using h
 |c::cs,F,us,h=>by simp only[hs,bF,cd]at h⊢;obtain⟨u,a1,e1,e2,I,_,⟨ba,cq⟩,dR⟩:=h;exact⟨u,a1,I,⟨zm aN c e1 u ba,cq⟩,HC aN cs e2 a1 dR⟩
end
mutual
theorem EY:∀p:ab,bC (bC p)=bC p
 | .slice _ _ xs=>by simp[bC,pC xs]
 | .agg cs=>by simp[bC,pC cs]
 | .tuple vs=>by simp[bC,pC vs]
 | .eptr x=>by simp[bC,EY x]
 | .iface t x=>by simp[bC,EY x]
 | .func f cP=>by simp[bC,pC cP]
 | .junk=>rfl
 | .int _ _=>rfl
 | .bool _=>rfl
 | .str _=>rfl
 | .ptr _ _=>rfl
 | .nilp=>rfl
 | .gmap _=>rfl
 | .row _ _ _=>rfl
 | .rptr _ _ _ _ _=>rfl
 | .hdm _ _=>rfl
 | .hdi _ _ _=>rfl
 | .cst _=>rfl
theorem pC:∀xs:List ab,bF (bF xs)=bF xs
 |[]=>rfl
 |x::xs=>by simp[bF,EY x,pC xs]
end
mutual
def bW:ab->List aq
 | .slice _ tag _=>match tag with| .own k=>[k]|_=>[]
 | .row _ k _=>[k]
 | .agg cs=>di cs
 | .tuple cs=>di cs
 |_=>[]
def di:List ab->List aq
 |[]=>[]
 |x::xs=>bW x++di xs
end
def rh(e:List (aq×cp))(k:aq):List ab:=((look k e).bind (·.xs)).getD []
mutual
def cc(e:List (aq×cp)):ab->List (aq×Nat)
 | .slice _ tag xs=>match tag with| .tr k i=>[(k,i)]| .own _=>tnL xs|_=>[]
 | .row _ k _=>tnL (rh e k)
 | .agg cs=>dm e cs
 | .tuple cs=>dm e cs
 |_=>[]
def dm(e:List (aq×cp)):List ab->List (aq×Nat)
 |[]=>[]
 |x::xs=>cc e x++dm e xs
end
mutual
def cI(e:List (aq×cp)):ab->Prop
 | .int _ _=>True
 | .bool _=>True
 | .str _=>True
 | .slice sz tag xs=>match tag with| .tr k _=>k≠dj| .own k=>True/\(∃el,look k e=some ⟨xs.length,el,sz,none⟩)/\ej xs/\0<sz|_=>xs=[]
 | .row sz k n=>True/\(∃xs el,look k e=some ⟨n,el,sz,some xs⟩/\ej xs)/\0<sz
 | .agg cs=>dZ e cs
 | .tuple cs=>dZ e cs
 |_=>cv
def dZ(e:List (aq×cp)):List ab->Prop
 |[]=>True
 |x::xs=>cI e x/\dZ e xs
end
mutual
def eg:ab->Nat
 | .slice _ _ _=>1
 | .row _ _ _=>1
 | .agg cs=>eY cs
 | .tuple cs=>eY cs
 |_=>0
def eY:List ab->Nat
 |[]=>0
 |x::xs=>eg x+eY xs
end
mutual
def fold(κ:Nat)(e:List (aq×cp)):Nat->ab->ab
 |j,.slice sz _ xs=>.slice sz (.tr (.loc κ) j) (bF xs)
 |j,.row sz k _=>.slice sz (.tr (.loc κ) j) (bF (rh e k))
 |j,.agg cs=>.agg (eh κ e j cs)
 |j,.tuple cs=>.tuple (eh κ e j cs)
 |_,p=>p
def eh(κ:Nat)(e:List (aq×cp)):Nat->List ab->List ab
 |_,[]=>[]
 |j,x::xs=>fold κ e j x::eh κ e (j+eg x) xs
end
def iH(ν:aC)(k:aq)(b:Nat):Prop:= ∃n v,ν.ow k=some (n,v)/\v.ownBlock=some b
mutual
def dV(ν:aC)(R:Nat->Prop)(e:List (aq×cp)):ab->List (Nat->Prop)
 | .slice _ tag xs=>match tag with| .tr k i=>[fun b=>ν.tr k i b/\¬R b]| .own k=>[fun b=>iH ν k b\/(iF ν (tnL xs) b/\¬R b)]|_=>[fun _=>cv]
 | .row _ k _=>[fun b=>iH ν k b\/(iF ν (tnL (rh e k)) b/\¬R b)]
 | .agg cs=>lC ν R e cs
 | .tuple cs=>lC ν R e cs
 |_=>[]
def lC(ν:aC)(R:Nat->Prop)(e:List (aq×cp)):List ab->List (Nat->Prop)
 |[]=>[]
 |x::xs=>dV ν R e x++lC ν R e xs
end
mutual
theorem uq(ν:aC)(R:Nat->Prop)(e:List (aq×cp)):∀p,(dV ν R e p).length=eg p
 | .slice _ tag _=>by cases tag<;>simp[dV,eg]
 | .row _ k _=>by simp[dV,eg]
 | .agg cs=>by simp[dV,eg,EU ν R e cs]
 | .tuple cs=>by simp[dV,eg,EU ν R e cs]
 | .int _ _=>rfl
 | .bool _=>rfl
 | .str _=>rfl
 | .junk=>rfl
 | .ptr _ _=>rfl
 | .eptr _=>rfl
 | .iface _ _=>rfl
 | .nilp=>rfl
 | .func _ _=>rfl
 | .gmap _=>rfl
 | .rptr _ _ _ _ _=>rfl
 | .hdm _ _=>rfl
 | .hdi _ _ _=>rfl
 | .cst _=>rfl
theorem EU(ν:aC)(R:Nat->Prop)(e:List (aq×cp)):∀p,(lC ν R e p).length=eY p
 |[]=>rfl
 |x::xs=>by simp[lC,eY,uq ν R e x,EU ν R e xs]
end
def zj(ν:aC)(R:Nat->Prop)(ns:List (aq×Nat))(rw:List aq)(b:Nat):Prop:=(∃k∈rw,iH ν k b)\/(iF ν ns b/\¬R b)
mutual
theorem wk{ν:aC}{R:Nat->Prop}{e:List (aq×cp)}:∀(p:ab) (i:Nat) (S:Nat->Prop),(dV ν R e p)[i]? =some S->∀b,S b->zj ν R (cc e p) (bW p) b
 | .slice _ tag _,i,S,h,b,af=>by
  cases tag<;>(simp only[dV]at h;cases i<;>simp at h;subst h);all_goals first|exact af.elim|skip
  ·rcases af with af|af
   ·exact .inl ⟨_,by simp[bW],af⟩
   ·exact .inr (by simpa only[cc]using af)
  ·exact .inr ⟨⟨_,_,by simp[cc],af.1⟩,af.2⟩
 | .row _ k _,i,S,h,b,af=>by
  simp only[dV]at h;cases i<;>simp at h;subst h;rcases af with af|af
  ·exact .inl ⟨k,by simp[bW],af⟩
  ·exact .inr (by simpa only[cc]using af)
 | .agg cs,i,S,h,b,af=>by simp only[dV,cc,bW]at h⊢;exact yv cs i S h b af
 | .tuple cs,i,S,h,b,af=>by simp only[dV,cc,bW]at h⊢;exact yv cs i S h b af
 | .int _ _,_,_,h,_,_=>by simp[dV]at h
 | .bool _,_,_,h,_,_=>by simp[dV]at h
 | .str _,_,_,h,_,_=>by simp[dV]at h
 | .junk,_,_,h,_,_=>by simp[dV]at h
 | .ptr _ _,_,_,h,_,_=>by simp[dV]at h
 | .eptr _,_,_,h,_,_=>by simp[dV]at h
 | .iface _ _,_,_,h,_,_=>by simp[dV]at h
 | .nilp,_,_,h,_,_=>by simp[dV]at h
 | .func _ _,_,_,h,_,_=>by simp[dV]at h
 | .gmap _,_,_,h,_,_=>by simp[dV]at h
 | .rptr _ _ _ _ _,_,_,h,_,_=>by simp[dV]at h
 | .hdm _ _,_,_,h,_,_=>by simp[dV]at h
 | .hdi _ _ _,_,_,h,_,_=>by simp[dV]at h
 | .cst _,_,_,h,_,_=>by simp[dV]at h
theorem yv{ν:aC}{R:Nat->Prop}{e:List (aq×cp)}:∀(p:List ab) (i:Nat) (S:Nat->Prop),(lC ν R e p)[i]? =some S->∀b,S b->zj ν R (dm e p) (di p) b
 |[],i,S,h,b,af=>by simp[lC]at h
 |x::xs,i,S,h,b,af=>by
  simp only[lC]at h;simp only[dm,di];by_cases aD:i<(dV ν R e x).length
  ·rw[nI aD]at h;rcases wk x i S h b af with⟨k,I,aa⟩|⟨I,aa⟩
   ·exact .inl ⟨k,kf _ I,aa⟩
   ·exact .inr ⟨vI (fun _ h=>kf _ h) b I,aa⟩
  ·rw[List.getElem?_append_right Ω]at h;rcases yv xs _ S h b af with⟨k,I,aa⟩|⟨I,aa⟩
   ·exact .inl ⟨k,iw _ I,aa⟩
   ·exact .inr ⟨vI (fun _ h=>iw _ h) b I,aa⟩
end
structure uA (ν:aC) (R:Nat->Prop) (rw:List aq):Prop where
 trd:∀k j aW dc b,ν.tr k j b->ν.tr aW dc b->k=aW/\j=dc
 inj:∀k aW b,k∈rw->aW∈rw->iH ν k b->iH ν aW b->k=aW
 R:∀k b,k∈rw->iH ν k b->R b
theorem HA{ν:aC}{R:Nat->Prop}{rw:List aq}(he:uA ν R rw){e9 eA:List (aq×Nat)}{eF fy:List aq}(aU:(e9++eA).Nodup)(hr:(eF++fy).Nodup)(I:∀k∈eF,k∈rw)(aa:∀k∈fy,k∈rw)(b:Nat)(af:zj ν R e9 eF b):¬zj ν R eA fy b:=by
 rintro dM;rcases af with⟨k,ct,cN⟩|⟨ct,cN⟩<;>rcases dM with⟨aW,fx,fV⟩|⟨fx,fV⟩
 ·have:=he.inj k aW b (I k ct) (aa aW fx) cN fV;subst this;exact(pM.1 hr).2.2 _ ct _ fx rfl
 ·exact fV (he.R k b (I k ct) cN)
 ·exact cN (he.R aW b (aa aW fx) fV)
 ·exact D3 he.trd aU b ct fx
mutual
theorem EV{ν:aC}{R:Nat->Prop}{rw:List aq}(he:uA ν R rw){e:List (aq×cp)}:∀(p:ab),(cc e p).Nodup->(bW p).Nodup->(∀k∈bW p,k∈rw)->∀(i jo:Nat) (S iQ:Nat->Prop),(dV ν R e p)[i]? =some S->(dV ν R e p)[jo]? =some iQ->∀b,S b->iQ b->i=jo
 | .slice sz tag xs,_,_,_,i,jo,S,iQ,h,cD,b,_,_=>by have aB:(dV ν R e (.slice sz tag xs)).length=1:=uq ν R e _;have:=(gp.1 h).1;have:=(gp.1 cD).1;omega
 | .row sz k n,_,_,_,i,jo,S,iQ,h,cD,b,_,_=>by have aB:(dV ν R e (.row sz k n)).length=1:=uq ν R e _;have:=(gp.1 h).1;have:=(gp.1 cD).1;omega
 | .agg cs,aU,hr,J,i,jo,S,iQ,h,cD,b,af,dM=>by simp only[dV,cc,bW]at h cD aU hr J;exact ET he cs aU hr J i jo S iQ h cD b af dM
 | .tuple cs,aU,hr,J,i,jo,S,iQ,h,cD,b,af,dM=>by simp only[dV,cc,bW]at h cD aU hr J;exact ET he cs aU hr J i jo S iQ h cD b af dM
 | .int _ _,_,_,_,_,_,_,_,h,_,_,_,_=>by simp[dV]at h
 | .bool _,_,_,_,_,_,_,_,h,_,_,_,_=>by simp[dV]at h
 | .str _,_,_,_,_,_,_,_,h,_,_,_,_=>by simp[dV]at h
 | .junk,_,_,_,_,_,_,_,h,_,_,_,_=>by simp[dV]at h
 | .ptr _ _,_,_,_,_,_,_,_,h,_,_,_,_=>by simp[dV]at h
 | .eptr _,_,_,_,_,_,_,_,h,_,_,_,_=>by simp[dV]at h
 | .iface _ _,_,_,_,_,_,_,_,h,_,_,_,_=>by simp[dV]at h
 | .nilp,_,_,_,_,_,_,_,h,_,_,_,_=>by simp[dV]at h
 | .func _ _,_,_,_,_,_,_,_,h,_,_,_,_=>by simp[dV]at h
 | .gmap _,_,_,_,_,_,_,_,h,_,_,_,_=>by simp[dV]at h
 | .rptr _ _ _ _ _,_,_,_,_,_,_,_,h,_,_,_,_=>by simp[dV]at h
 | .hdm _ _,_,_,_,_,_,_,_,h,_,_,_,_=>by simp[dV]at h
 | .hdi _ _ _,_,_,_,_,_,_,_,h,_,_,_,_=>by simp[dV]at h
 | .cst _,_,_,_,_,_,_,_,h,_,_,_,_=>by simp[dV]at h
theorem ET{ν:aC}{R:Nat->Prop}{rw:List aq}(he:uA ν R rw){e:List (aq×cp)}:∀(p:List ab),(dm e p).Nodup->(di p).Nodup->(∀k∈di p,k∈rw)->∀(i jo:Nat) (S iQ:Nat->Prop),(lC ν R e p)[i]? =some S->(lC ν R e p)[jo]? =some iQ->∀b,S b->iQ b->i=jo
 |[],_,_,_,i,jo,S,iQ,h,_,_,_,_=>by simp[lC]at h
 |x::xs,aU,hr,J,i,jo,S,iQ,h,cD,b,af,dM=>by
  simp only[lC]at h cD;simp only[dm]at aU;simp only[di]at hr J;have ct:∀k∈bW x,k∈rw:=fun k bn=>J k (kf _ bn);have cN:∀k∈di xs,k∈rw:=fun k bn=>J k (iw _ bn);by_cases aD:i<(dV ν R e x).length<;>by_cases zD:jo<(dV ν R e x).length
  ·rw[nI aD]at h;rw[nI zD]at cD;exact EV he x (pM.1 aU).1 (pM.1 hr).1 ct i jo S iQ h cD b af dM
  ·rw[nI aD]at h;rw[List.getElem?_append_right Ω]at cD;exact absurd (yv xs _ iQ cD b dM) (HA he aU hr ct cN b (wk x i S h b af))
  ·rw[List.getElem?_append_right Ω]at h;rw[nI zD]at cD;exact absurd (yv xs _ S h b af) (HA he aU hr ct cN b (wk x jo iQ cD b dM))
  ·rw[List.getElem?_append_right Ω]at h cD;have:=ET he xs (pM.1 aU).2.1 (pM.1 hr).2.1 cN _ _ S iQ h cD b af dM;omega
end
end
section
open Go Go.RowKit
theorem Bl{w:World}{μ:aC}{k:aq}{j sz:Nat}{tag:iR}{ys:List ab}{v:Value}(h:bS true w μ.A (μ.tr k j) (.slice sz tag ys) v)(bs:bF ys=ys):aw w μ (.slice sz (.tr k j) ys) v:=by have I:=zm (ν:=μ) (fun _ _ h=>h) _ _ _ h;simp only[bC,bs]at I;simp only[aw]at I⊢;refine⟨I.1,fun e=>(by cases e),fun _ e=>(by cases e),fun aW dc e=>?_,fun _ e=>(by cases e)⟩;cases e;simp only[bS]at h⊢;exact h
section
variable {pr:Nat->Prop} {w:World} {ν μ:aC} {B:List (aq×List ab)} {e:List (aq×cp)} {R:Nat->Prop} {rw:List aq} {κ:Nat}
 (aL:Good pr w ν B e) (he:uA ν R rw) (bI:∀b,R b->∀k j,¬ν.tr k j b) (xd:∀b o,ν.A b o->μ.A b o) (Ia:∀k∈rw,∀own,look k e=some own->∀b,iH ν k b->∀o,o<own.n*own.sz->μ.A b o)
include aL he bI xd Ia
mutual
theorem zi:∀(p:ab) (v:Value) (j:Nat),aw w ν p v->cI e p->(cc e p).Nodup->(∀k∈bW p,k∈rw)->(∀i S,(dV ν R e p)[i]? =some S->∀b,S b->μ.tr (.loc κ) (j+i) b)->aw w μ (fold κ e j p) v
 | .int k n,v,_,h,_,_,_,_=>by simpa only[aw,fold]using h
 | .bool b,v,_,h,_,_,_,_=>by simpa only[aw,fold]using h
 | .str s,v,_,h,_,_,_,_=>by simpa only[aw,fold]using h
 | .slice sz tag xs,v,j,h,ag,aU,J,ao=>by
  simp only[aw]at h;obtain⟨⟨a,cap,I,aa,ak,aJ⟩,_,dR,hK,_⟩:=h;simp only[fold];refine Bl (tag:= .no) ?_ (pC xs);by_cases au:∃k i,tag= .tr k i
  ·obtain⟨k,i,rfl⟩:=au;have aH:=w6 .no v (hK k i rfl);refine pY (fun b o h=>⟨xd b o h,rfl⟩) (fun _ _ _=>rfl) _ _ _ v (fun b af=>?_) aH;simpa using ao 0 (fun b=>ν.tr k i b/\¬R b) (by simp[dV]) b ⟨af,fun hr=>bI b hr _ _ af⟩
  by_cases IY:∃k,tag= .own k
  ·obtain⟨k,rfl⟩:=IY;simp only[cI]at ag;obtain⟨_,⟨el,aB⟩,lr,cE⟩:=ag;obtain⟨n',u,g1,g2,g3⟩:=dR k rfl;obtain⟨v0,dP,bL,ck,dd,du⟩:=aL.own k _ aB;simp only at bL ck dd;rw[g1]at bL;simp only[dp,hQ]at bL;obtain⟨rfl,rfl⟩:=bL;have Dk:=g3 rfl;subst Dk;have zF:k∈rw:=J k (by simp[bW]);simp only[bS];refine⟨a,cap,by rw[j8];exact I,by rw[j8];exact aa,by rw[j8];exact ak,?_⟩;rcases aJ with rfl|⟨b,off,us,ai,b9,dz⟩
   ·exact .inl rfl
   by_cases oc:xs=[]
   ·left;rw[oc];rfl
   right;subst ai;rcases ck.2 with⟨ai,_⟩|⟨g,wT,cur,f1,f2,f3,f4,f5,f6,f7⟩
   ·rw[ai]at I;cases I
   have hW:v.ownBlock=some g:=by rw[f1];rfl
   have qP:iH ν k g:=⟨_,_,g1,hW⟩;have u7:∀b,(iH ν k b\/(iF ν (tnL xs) b/\¬R b))->μ.tr (.loc κ) j b:=fun b af=>by simpa using ao 0 (fun b=>iH ν k b\/(iF ν (tnL xs) b/\¬R b)) (by simp[dV]) b af
   rw[f1]at I;simp only[YT,dp,Addr.mk.injEq]at I;obtain⟨⟨rfl,rfl,_⟩,_,rfl⟩:=I;have hlen:=nz dz;refine⟨g,0,us,fun c=>iF ν (tnL xs) c/\¬R c,rfl,u7 g (.inl qP),fun c aA=>⟨u7 c (.inr aA),fun _ B4=>aA.2 (by rw[B4];exact he.R k g zF qP)⟩,sC (fun b o h=>⟨xd b o h,rfl⟩) _ _ b9,fun _=>⟨rfl,?_,el,?_⟩,?_⟩
   ·rw[hlen];exact Nat.mul_pos (pL.2 oc) cE
   ·simp only[shape,f3,f6]
   ·have I:=Eb he.trd xs us dz lr (by simpa only[cc]using aU);exact zk (fun b o h=>⟨xd b o h,rfl⟩) (fun _ _ _=>rfl) _ _ _ us (fun b af=>⟨af,fun hr=>by obtain⟨aW,jo,_,au⟩:=af;exact bI b hr _ _ au⟩) I
  ·have ad:xs=[]:=by
    simp only[cI]at ag;split at ag
    ·exact absurd ⟨_,_,rfl⟩ au
    ·exact absurd ⟨_,rfl⟩ IY
    ·exact ag
   subst ad;simp only[bF,bS];exact⟨a,cap,I,aa,ak,.inl trivial⟩
 | .row sz k n,v,j,h,ag,aU,J,ao=>by
  simp only[cI]at ag;obtain⟨⟨m,hm⟩,⟨xs,el,aB,lr⟩,cE⟩:=ag;have gu:rh e k=xs:=by simp[rh,aB]
  simp only[aw]at h;obtain⟨⟨Mp,c0,zS⟩,hf,n',u,g1,g2,g3⟩:=h;obtain⟨v0,us,bL,ck,dd,du⟩:=aL.own k _ aB;simp only at bL ck dd;rw[g1]at bL;simp only[dp,hQ]at bL;obtain⟨rfl,rfl⟩:=bL;have Dk:=g3 rfl;subst Dk;obtain⟨cy,lB,q7⟩:=du xs rfl;simp only at cy lB;have zF:k∈rw:=J k (by simp[bW]);rcases ck.2 with⟨ai,_⟩|⟨g,cap,cur,f1,f2,f3,f4,f5,f6,f7⟩
  ·rw[ai]at zS;cases zS
  have hW:v.ownBlock=some g:=by rw[f1];rfl
  have qP:iH ν k g:=⟨_,_,g1,hW⟩;have u7:∀b,(iH ν k b\/(iF ν (tnL (rh e k)) b/\¬R b))->μ.tr (.loc κ) j b:=fun b af=>by simpa using ao 0 (fun b=>iH ν k b\/(iF ν (tnL (rh e k)) b/\¬R b)) (by simp[dV]) b af
  rw[gu]at u7;simp only[fold,gu];refine Bl (tag:= .no) ?_ (pC xs);simp only[bS];refine⟨some ⟨g,0,none⟩,cap,by rw[j8,cy];exact f1,by rw[j8,cy];exact f4,⟨f5,by rw[j8,cy];exact hf⟩,?_⟩;by_cases oc:xs=[]
  ·left;rw[oc];rfl
  ·right;have hlen:=nz lB;refine⟨g,0,us,fun c=>iF ν (tnL xs) c/\¬R c,rfl,u7 g (.inl qP),fun c aA=>⟨u7 c (.inr aA),fun _ B4=>aA.2 (by rw[B4];exact he.R k g zF qP)⟩,vx us 0 fun i u aD=>?_,fun _=>⟨rfl,?_,el,?_⟩,?_⟩
   ·have kV:i<us.length:=(gp.1 aD).1;refine⟨Ia k zF _ aB g qP _ (by simp only;rw[ck.1]at kV;omega),?_⟩;have:=ck.cells hW i u aD;rwa[lK]at this
   ·rw[hlen];exact Nat.mul_pos (pL.2 oc) cE
   ·simp only[shape,f3,f6]
   ·have I:=Eb he.trd xs us lB lr (by simpa only[cc,gu]using aU);exact zk (fun b o h=>⟨xd b o h,rfl⟩) (fun _ _ _=>rfl) _ _ _ us (fun b af=>⟨af,fun hr=>by obtain⟨aW,jo,_,au⟩:=af;exact bI b hr _ _ au⟩) I
 | .agg cs,v,j,h,ag,aU,J,ao=>by simp only[aw,cI,cc,bW,dV,fold]at h ag aU J ao⊢;obtain⟨us,I,aa⟩:=h;exact⟨us,I,Hx cs _ j aa ag aU J ao⟩
 | .tuple cs,v,j,h,ag,aU,J,ao=>by simp only[aw,cI,cc,bW,dV,fold]at h ag aU J ao⊢;obtain⟨us,I,aa⟩:=h;exact⟨us,I,Hy cs _ j aa ag aU J ao⟩
 | .junk,_,_,_,ag,_,_,_=>by simp[cI]at ag
 | .ptr _ _,_,_,_,ag,_,_,_=>by simp[cI]at ag
 | .eptr _,_,_,_,ag,_,_,_=>by simp[cI]at ag
 | .iface _ _,_,_,_,ag,_,_,_=>by simp[cI]at ag
 | .nilp,_,_,_,ag,_,_,_=>by simp[cI]at ag
 | .func _ _,_,_,_,ag,_,_,_=>by simp[cI]at ag
 | .gmap _,_,_,_,ag,_,_,_=>by simp[cI]at ag
 | .rptr _ _ _ _ _,_,_,_,ag,_,_,_=>by simp[cI]at ag
 | .hdm _ _,_,_,_,ag,_,_,_=>by simp[cI]at ag
 | .hdi _ _ _,_,_,_,ag,_,_,_=>by simp[cI]at ag
 | .cst _,_,_,_,ag,_,_,_=>by simp[cI]at ag
theorem Hx:∀(cs:List ab) (us:List Value) (j:Nat),bV w ν cs us->dZ e cs->(dm e cs).Nodup->(∀k∈di cs,k∈rw)->(∀i S,(lC ν R e cs)[i]? =some S->∀b,S b->μ.tr (.loc κ) (j+i) b)->bV w μ (eh κ e j cs) us
 |[],us,j,h,_,_,_,_=>by simpa only[bV,eh]using h
 |c::cs,us,j,h,ag,aU,J,ao=>by
  simp only[bV,dZ,dm,di,lC,eh]at h ag aU J ao⊢;obtain⟨u,a1,I,⟨aa,ak⟩,aJ⟩:=h;have gT:=pM.1 aU;refine⟨u,a1,I,⟨zi c u j aa ag.1 gT.1 (fun k bn=>J k (kf _ bn)) (fun i S aD b af=>ao i S (by rw[nI (gp.1 aD).1];exact aD) b af),ak⟩,
   Hx cs a1 _ aJ ag.2 gT.2.1 (fun k bn=>J k (iw _ bn)) (fun i S aD b af=>?_)⟩
  have:=ao (eg c+i) S (by rw[List.getElem?_append_right (by rw[uq];omega),uq];simpa using aD) b af;rwa[<-Nat.add_assoc]at this
theorem Hy:∀(cs:List ab) (us:List Value) (j:Nat),bT w ν cs us->dZ e cs->(dm e cs).Nodup->(∀k∈di cs,k∈rw)->(∀i S,(lC ν R e cs)[i]? =some S->∀b,S b->μ.tr (.loc κ) (j+i) b)->bT w μ (eh κ e j cs) us
 |[],us,j,h,_,_,_,_=>by simpa only[bT,eh]using h
 |c::cs,us,j,h,ag,aU,J,ao=>by
  simp only[bT,dZ,dm,di,lC,eh]at h ag aU J ao⊢;obtain⟨u,a1,I,aa,aJ⟩:=h;have gT:=pM.1 aU;refine⟨u,a1,I,zi c u j aa ag.1 gT.1 (fun k bn=>J k (kf _ bn)) (fun i S aD b af=>ao i S (by rw[nI (gp.1 aD).1];exact aD) b af),
   Hy cs a1 _ aJ ag.2 gT.2.1 (fun k bn=>J k (iw _ bn)) (fun i S aD b af=>?_)⟩
  have:=ao (eg c+i) S (by rw[List.getElem?_append_right (by rw[uq];omega),uq];simpa using aD) b af;rwa[<-Nat.add_assoc]at this
end
end
end
section
open Go Go.RowKit
mutual
theorem J2:∀p:ab,dt p->∀x∈tn p,x.1≠dj
 | .slice _ tag xs,ag,x,ad=>by cases tag<;>simp only[tn,dt]at ag ad<;>simp at ad;subst ad;exact ag
 | .agg cs,ag,x,ad=>by simp only[tn,dt]at ag ad;exact Ay cs ag x ad
 | .int _ _,_,_,ad=>by simp[tn]at ad
 | .bool _,_,_,ad=>by simp[tn]at ad
 | .str _,_,_,ad=>by simp[tn]at ad
 | .junk,_,_,ad=>by simp[tn]at ad
 | .ptr _ _,_,_,ad=>by simp[tn]at ad
 | .eptr _,_,_,ad=>by simp[tn]at ad
 | .iface _ _,_,_,ad=>by simp[tn]at ad
 | .nilp,_,_,ad=>by simp[tn]at ad
 | .tuple _,_,_,ad=>by simp[tn]at ad
 | .func _ _,_,_,ad=>by simp[tn]at ad
 | .gmap _,_,_,ad=>by simp[tn]at ad
 | .row _ _ _,_,_,ad=>by simp[tn]at ad
 | .rptr _ _ _ _ _,_,_,ad=>by simp[tn]at ad
 | .hdm _ _,_,_,ad=>by simp[tn]at ad
 | .hdi _ _ _,_,_,ad=>by simp[tn]at ad
 | .cst _,_,_,ad=>by simp[tn]at ad
theorem Ay:∀p:List ab,ej p->∀x∈tnL p,x.1≠dj
 |[],_,x,ad=>by simp[tnL]at ad
 |c::cs,ag,x,ad=>by
  simp only[tnL,ej,hp]at ag ad;rcases ad with ad|ad
  ·exact J2 c ag.1 x ad
  ·exact Ay cs ag.2 x ad
end
mutual
theorem Ea{e:List (aq×cp)}:∀p:ab,cI e p->∀x∈cc e p,x.1≠dj
 | .slice _ tag xs,ag,x,ad=>by
  cases tag with
  |own k=>simp only[cc,cI]at ag ad;exact Ay xs ag.2.2.1 x ad
  |tr k i=>simp only[cc,cI]at ag ad;simp at ad;subst ad;exact ag
  |no=>simp[cc]at ad
  |nil=>simp[cc]at ad
  |lo k=>simp[cc]at ad
 | .row _ k _,ag,x,ad=>by simp only[cc,cI]at ag ad;obtain⟨_,⟨xs,el,aB,lr⟩,_⟩:=ag;rw[show rh e k=xs from by simp[rh,aB]]at ad;exact Ay xs lr x ad
 | .agg cs,ag,x,ad=>by simp only[cc,cI]at ag ad;exact D8 cs ag x ad
 | .tuple cs,ag,x,ad=>by simp only[cc,cI]at ag ad;exact D8 cs ag x ad
 | .int _ _,_,_,ad=>by simp[cc]at ad
 | .bool _,_,_,ad=>by simp[cc]at ad
 | .str _,_,_,ad=>by simp[cc]at ad
 | .junk,_,_,ad=>by simp[cc]at ad
 | .ptr _ _,_,_,ad=>by simp[cc]at ad
 | .eptr _,_,_,ad=>by simp[cc]at ad
 | .iface _ _,_,_,ad=>by simp[cc]at ad
 | .nilp,_,_,ad=>by simp[cc]at ad
 | .func _ _,_,_,ad=>by simp[cc]at ad
 | .gmap _,_,_,ad=>by simp[cc]at ad
 | .rptr _ _ _ _ _,_,_,ad=>by simp[cc]at ad
 | .hdm _ _,_,_,ad=>by simp[cc]at ad
 | .hdi _ _ _,_,_,ad=>by simp[cc]at ad
 | .cst _,_,_,ad=>by simp[cc]at ad
theorem D8{e:List (aq×cp)}:∀p:List ab,dZ e p->∀x∈dm e p,x.1≠dj
 |[],_,x,ad=>by simp[dm]at ad
 |c::cs,ag,x,ad=>by
  simp only[dm,dZ,hp]at ag ad;rcases ad with ad|ad
  ·exact Ea c ag.1 x ad
  ·exact D8 cs ag.2 x ad
end
mutual
theorem x1{e:List (aq×cp)}:∀p:ab,cI e p->∀k∈bW p,∃own,look k e=some own
 | .row sz k n,ag,aW,J=>by simp only[bW,cI]at ag J;obtain⟨_,⟨xs,el,aB,lr⟩,_⟩:=ag;simp at J;subst J;exact⟨_,aB⟩
 | .agg cs,ag,x,ad=>by simp only[bW,cI]at ag ad;exact D9 cs ag x ad
 | .tuple cs,ag,x,ad=>by simp only[bW,cI]at ag ad;exact D9 cs ag x ad
 | .slice sz tag xs,ag,aW,J=>by
  cases tag with
  |own k=>simp only[bW,cI]at ag J;obtain⟨_,⟨el,aB⟩,_⟩:=ag;simp at J;subst J;exact⟨_,aB⟩
  |tr k i=>simp[bW]at J
  |no=>simp[bW]at J
  |nil=>simp[bW]at J
  |lo k=>simp[bW]at J
 | .int _ _,_,_,ad=>by simp[bW]at ad
 | .bool _,_,_,ad=>by simp[bW]at ad
 | .str _,_,_,ad=>by simp[bW]at ad
 | .junk,_,_,ad=>by simp[bW]at ad
 | .ptr _ _,_,_,ad=>by simp[bW]at ad
 | .eptr _,_,_,ad=>by simp[bW]at ad
 | .iface _ _,_,_,ad=>by simp[bW]at ad
 | .nilp,_,_,ad=>by simp[bW]at ad
 | .func _ _,_,_,ad=>by simp[bW]at ad
 | .gmap _,_,_,ad=>by simp[bW]at ad
 | .rptr _ _ _ _ _,_,_,ad=>by simp[bW]at ad
 | .hdm _ _,_,_,ad=>by simp[bW]at ad
 | .hdi _ _ _,_,_,ad=>by simp[bW]at ad
 | .cst _,_,_,ad=>by simp[bW]at ad
theorem D9{e:List (aq×cp)}:∀p:List ab,dZ e p->∀k∈di p,∃own,look k e=some own
 |[],_,x,ad=>by simp[di]at ad
 |c::cs,ag,x,ad=>by
  simp only[di,dZ,hp]at ag ad;rcases ad with ad|ad
  ·exact x1 c ag.1 x ad
  ·exact D9 cs ag.2 x ad
end
end
end Go.Pv
