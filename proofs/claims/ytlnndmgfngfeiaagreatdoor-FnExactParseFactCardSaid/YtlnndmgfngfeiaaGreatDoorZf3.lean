/- Contracts of functions that hand back memory of their own, II. -/
import Derived.Test.YtlnndmgfngfeiaaGreatDoorZf2
set_option linter.all false
set_option maxHeartbeats 4000000
set_option maxRecDepth 4000
open Array renaming getD_eq_getD_getElem?->mg,getElem?_eq_getElem->mh,replicate->nQ
open Bool renaming and_eq_true->bA,false_eq_true->ia,not_eq_true'->oO
open Go renaming Operand->gY,Program->bp,TypeId->eU
open Go.Region renaming binds->pP,ready->pQ,wanted->mi
open Go.Result renaming andThen_ok->eg
open Go.Sem renaming run_bind->ee,run_pure->eT
open Go.Value.slice renaming injEq->aay
open List renaming all_eq_true->kj,cons_append->eI,eq_nil_of_length_eq_zero->pS,getElem?_append_left->nS,getElem?_eq_some_iff->fG,length_cons->lN,length_pos_iff->nT,map_cons->gZ,mem_append->ha,mem_append_left->kk,mem_append_right->iz,mem_cons->gp,mem_map->lO,nil_append->fx,nodup_append->nU
open Nat renaming le_refl->cE
open Option renaming getD_some->oP,isSome_iff_exists->ei,map_some->mZ
open Option.some renaming inj->iN,injEq->dv
open Prod.mk renaming injEq->hx
open _root_ renaming False->cw,Option->aV,beq_iff_eq->df,decide_eq_true_eq->fH,if_neg->be
namespace Go.Pv
section
open Go Go.RowKit
inductive cY where
 |s (i:cX)
 |call (d:aV Nat) (f:cg) (xs:List cg)
 |next (d:Nat) (x:cg)
 |opn (d:aV Nat) (f:cg) (xs:List cg)
 |callb (d:aV Nat) (f:cg)
structure b2 where
 g:aV (Nat×Bool)
 i:cY
def cX.dst:cX->aV Nat
 | .v d _| .box d _ _| .alloc d _ _| .bsl d _ _ _| .app d _ _ _ _| .bslm d _ _ _ _| .appm d _ _ _ _ _| .mkmap d _| .range d _ _| .mks d _ _ _ _ _| .apps d _ _ _=>some d
 | .store _ _ _| .mput _ _ _ _| .storeE _ _ _=>none
def cY.dst:cY->aV Nat
 | .s i=>i.dst
 | .call d _ _=>d
 | .next d _=>some d
 | .opn d _ _=>d
 | .callb d _=>d
def CallDo(P:bp)(n:Nat)(args:List ab)(st:aN)(d:aV Nat)(K:aN->Prop):Prop:=
 (∃s Q,mT (aG s) s.b st.b/\nL (aG s) s.e st.e/\gw s/\kinL (aG s) args/\cS P n args s Q/\
  ∀r aj,Q r aj->((∀m,(look (.obj m) aj.b).isSome->(look (.obj m) s.b).isSome\/ .obj m∉st.o)/\(∀m,(look (.obj m) aj.e).isSome->(look (.obj m) s.e).isSome\/ .obj m∉st.o))/\K (after st s aj d r))\/
 (∃s Q,mT (aG s) s.b st.b/\nL (aG s) s.e st.e/\gw s/\kinL (aG s) args/\ .loc st.n∉st.o/\FnK P n st.n args s Q/\
  ∀r aj,Q r aj->((∀m,(look (.obj m) aj.b).isSome->(look (.obj m) s.b).isSome\/ .obj m∉st.o)/\(∀m,(look (.obj m) aj.e).isSome->(look (.obj m) s.e).isSome\/ .obj m∉st.o))/\K {after st s aj d r with n:=st.n+1})
def KK(st:aN)(d:Nat)(fW mk:aq)(since:Nat)(seen:List Nat)(last clock:Nat)(borns:List Nat)(kvs:List ab)(K:aN->Prop):Prop:=
 (since=clock/\last=clock)/\((∀b∈borns,b∈seen)->K {st with t:=put d (.tuple [.bool false]) st.t})/\
 (∀b k v,l7 b borns kvs=some (.tuple [k,v])->b∉seen->K {st with t:=put d (.tuple [.bool true,k,v]) st.t,b:=ck fW [.hdi since (seen++[b]) last,.gmap mk] st.b})
def tO(st:aN)(d:Nat)(v:ab)(K:aN->Prop):Prop:=
 match v with
 | .ptr fW 0=>match look fW st.b with
  |some [.hdi since seen last,.gmap mk]=>match look mk st.b with
   |some (.hdm clock borns::kvs)=>KK st d fW mk since seen last clock borns kvs K
   |_=>cw
  |_=>cw
 |_=>cw
def iQ(P:bp)(ob:List aq)(n:Nat)(args:List ab)(st:aN)(d:aV Nat)(K:aN->Prop):Prop:=
 ∀(C:dh) (a:Act) (w:World) (ν:aD) (vs:Array Value),C.ob=ob->bH C st a w ν->bP w ν args vs.toList->ga C.N d=true->
  rZ P n vs w fun e w'=> ∃v st' ν',e= .returned v/\K st'/\bH C st' (a.put d v) w' ν'
def ni(P:bp)(ob:List aq)(st:aN)(K:aN->Prop):cY->Prop
 | .next d x=>tO st d (bh st.t x) K
 | .s i=>match jV st i with
  |some (c,st')=>c/\K st'
  |none=>cw
 | .call d f xs=>match bh st.t f with
  | .func n cG=>CallDo P n (bz (xs.map (bh st.t)++cG)) st d K
  |_=>cw
 | .opn d f xs=>match bh st.t f with
  | .func n cG=>iQ P ob n (xs.map (bh st.t)++cG) st d K
  |_=>cw
 | .callb d f=>match bh st.t f with
  | .func n cG=> ¬n<1000000/\CallDo P (rQ n) (bz cG) st d K
  |_=>cw
def fp(P:bp)(ob:List aq):List b2->aN->(aN->Prop)->Prop
 |[],st,K=>K st
 |⟨none,i⟩::r,st,K=>ni P ob st (fun st'=>fp P ob r st' K) i
 |⟨some (s,want),i⟩::r,st,K=>match get s st.t with
  | .bool b=>(b=want->ni P ob {st with t:=put s (.bool want) st.t} (fun st'=>fp P ob r st' K) i)/\(b= !want->fp P ob r {st with t:=eD i.dst (.tuple []) (put s (.bool !want) st.t)} K)
  | .tuple []=>fp P ob r {st with t:=eD i.dst (.tuple []) st.t} K
  |_=>cw
def pH(N:Nat)(aW:List (Nat×cm))(i:cY)(o:Oper):Bool:=
 match i with
 | .s i=>oD N aW i o
 | .next d x=>match o.op with
  | .next it false=>o.dst==some d&&decide (d<N)&&c8 x it
  |_=>false
 | .call d f xs=>match o.op with
  | .call ⟨.value gG,args,_⟩=>o.dst==d&&ga N d&&c8 f gG&&rs xs args.toList
  |_=>false
 | .opn d f xs=>match o.op with
  | .call ⟨.value gG,args,_⟩=>o.dst==d&&ga N d&&c8 f gG&&rs xs args.toList
  |_=>false
 | .callb d f=>match o.op with
  | .call ⟨.value gG,⟨[]⟩,_⟩=>o.dst==d&&ga N d&&c8 f gG
  |_=>false
def xF(N:Nat)(aW:List (Nat×cm))(ops:List Oper)(g:b2)(o:Oper):Bool:=
 (match g.g,o.guard with
  |none,none=>true
  |some (s,b),some (j,fh)=>b==fh&&((ops[j]?).bind (·.dst))==some s&&decide (s<N)&&o.dst==g.i.dst&&ga N g.i.dst
  |_,_=>false)&&pH N aW g.i o
def hf(N:Nat)(aW:List (Nat×cm))(ops:List Oper):List b2->List Oper->Bool
 |[],[]=>true
 |g::gs,o::os=>xF N aW ops g o&&hf N aW ops gs os
 |_,_=>false
theorem LC{w:World}{ν:aD}:∀{aZ bO:List ab} {vs us:List Value},bP w ν aZ vs->bP w ν bO us->bP w ν (aZ++bO) (vs++us)
 |[],bO,vs,us,h,b6=>by simp only[bP]at h;subst h;simpa using b6
 |p::aZ,bO,vs,us,h,b6=>by simp only[bP]at h;obtain⟨u,a6,rfl,I,aa⟩:=h;simp only[eI,bP];exact⟨u,_,rfl,I,LC aa b6⟩
theorem rZ.mono{P:bp}{f:FuncId}{vs:Array Value}{w:World}{R B6:Ending->World->Prop}(h:rZ P f vs w R)(bF:∀e w',R e w'->B6 e w'):rZ P f vs w B6:=by
 rcases h with⟨I,aa⟩|⟨v,w',I,aa⟩
 ·exact .inl ⟨I,aa.mono bF⟩
 ·exact .inr ⟨v,w',I,bF _ _ aa⟩
theorem U1{P:bp}{a:Act}{w:World}{o:Oper}{gG:gY}{args:Array gY}{ts:Array eU}(hI:o.op= .call ⟨.value gG,args,ts⟩){n:Nat}{us:Array Value}(aL:a.eval gG= .func (.func n) #[] us)(r:Result Next)(hr:(callFunc n (args.map a.eval++us)).run P w=r):(execOp a.eval o).run P w=r:=by obtain⟨dst,op,ty,pos,Cd,IG⟩:=o;simp only at hI;subst hI;simp only[execOp,resolve,aL,Deferred.ofValue,ee,eT,eg,invoke];simpa using hr
theorem U2{P:bp}{a:Act}{w:World}{o:Oper}{gG:gY}{ts:Array eU}(hI:o.op= .call ⟨.value gG,#[],ts⟩){n:Nat}{us:Array Value}(aL:a.eval gG= .func (.func n) us #[])(r:Result Next)(hr:(callFunc n us).run P w=r):(execOp a.eval o).run P w=r:=by obtain⟨dst,op,ty,pos,Cd,IG⟩:=o;simp only at hI;subst hI;simp only[execOp,resolve,aL,Deferred.ofValue,ee,eT,eg,invoke];simpa using hr
theorem Fk{P:bp}(cO:P.funcs.size<=1000000){a:Act}{w:World}{ν:aD}{o:Oper}{gG:gY}{args:Array gY}{ts:Array eU}(hI:o.op= .call ⟨.value gG,args,ts⟩){n:Nat}{cG:List ab}(aH:aw w ν (.func n cG) (a.eval gG)){aZ:List ab}(hC:bP w ν aZ (args.toList.map a.eval)):
  ∃vs:Array Value,(∀x w',(callFunc n vs).run P w= .ok x w'->(execOp a.eval o).run P w= .ok x w')/\bP w ν (aZ++cG) vs.toList:=by
 rw[aw]at aH;obtain⟨us,aL,hu⟩:=aH;refine⟨args.map a.eval++us,fun x w' hr=>?_,by simpa using LC hC hu⟩;by_cases aR:n<1000000
 ·exact U1 hI (aL.trans (Qi aR us)) _ hr
 ·have gd:P.funcs[n]? =none:=Array.getElem?_eq_none (Nat.le_trans cO (Nat.le_of_not_lt aR));simp only[callFunc,ee,eg,run_program,gd]at hr;cases hr
theorem U3{P:bp}{a:Act}{w:World}{ν:aD}{o:Oper}{gG:gY}{ts:Array eU}(hI:o.op= .call ⟨.value gG,#[],ts⟩){n:Nat}{cG:List ab}(aH:aw w ν (.func n cG) (a.eval gG))(aR:¬n<1000000):
  ∃vs:Array Value,(∀x w',(callFunc (rQ n) vs).run P w= .ok x w'->(execOp a.eval o).run P w= .ok x w')/\bP w ν cG vs.toList:=by
 rw[aw]at aH;obtain⟨us,aL,hu⟩:=aH;exact⟨us,fun x w' hr=>U2 hI (aL.trans (Qh aR us)) _ hr,hu⟩
theorem Ht{P:bp}{C:dh}{st:aN}{a:Act}{w:World}{ν:aD}(hr:bH C st a w ν){o:Oper}{d:aV Nat}(aF:o.dst=d)(pb:ga C.N d=true)
  {n:Nat} {aZ:List ab} {nN:Array Value} (gf:∀x w',(callFunc n nN).run P w= .ok x w'->(execOp a.eval o).run P w= .ok x w') (hC:bP w ν aZ nN.toList) {K:aN->Prop}
  (az:∃(s:cZ) (oQ:ab->cZ->Prop) (κ:aV Nat) (n':Nat) (o':cZ->List aq),mT (aG s) s.b st.b/\nL (aG s) s.e st.e/\gw s/\kinL (aG s) (bz aZ)/\(∀(w:World) (ν:aD) (vs:Array Value) (gl:lQ w ν),Good (eZ ν s) w ν s.b s.e->oZ ν s->bP w ν (bz aZ) vs.toList->
   rZ P n vs w fun e w'=> ∃v r aj ν',e= .returned v/\oQ r aj/\aw w' ν' r v/\Good (fun bl=>eZ ν s bl\/w.heap.size<=bl) w' ν' aj.b aj.e/\vr κ ν' aj/\gw aj/\mo ⟨w,ν,eZ ν s,0,dG s,gl,[]⟩ w' ν')/\
   (∀m,κ=some m->fresh st.n st.o (.loc m))/\(∀k r aj,oQ r aj->fresh n' (o' aj) k->fresh st.n (st.o++dG aj) k/\∀m,κ=some m->k≠ .loc m)/\
   ∀r aj,oQ r aj->((∀m,(look (.obj m) aj.b).isSome->(look (.obj m) s.b).isSome\/ .obj m∉st.o)/\(∀m,(look (.obj m) aj.e).isSome->(look (.obj m) s.e).isSome\/ .obj m∉st.o))/\K {after st s aj d r with n:=n',o:=o' aj})
  {kS:Act->World->Prop} {Q:Exit->Act->World->Prop} (cl:∀st' bE w' ν',K st'->bH C st' bE w' ν'->kS bE w'):o.wp P a w kS Q:=by
 obtain⟨s,oQ,κ,n',o',cM,c2,c3,c4,c5,HO,HD,mv⟩:=az;have hZ:bP w (ν.cut (aG s)) (bz aZ) nN.toList:=wK (kU.cut _ w ν) _ _ c4 (BF _ _ hC);have Ru:Good (eZ (ν.cut (aG s)) s) w (ν.cut (aG s)) s.b s.e:=hr.good.cut cM c2 (fun bl _ h=>h);have hex:oZ (ν.cut (aG s)) s:=by
  intro k;refine⟨?_,?_,?_⟩;rotate_left 2
  ·rintro j b ⟨ao,af⟩;obtain⟨t1,t2⟩:=hr.fr.trn k j b af;rcases ao with ao|ao<;>obtain⟨x,ad⟩:=ei.1 ao
   ·obtain⟨bl,a6,el,ah,_⟩:=hr.good.box k x (cM k x ad).1;rw[t1]at ah;cases ah
   ·obtain⟨v',a6,ah,_⟩:=hr.good.own k x (c2 k x ad).1;rw[t2]at ah;cases ah
  ·intro aA;by_cases ao:aG s k
   ·rw[aD.cut_bx ao];rcases ao with ao|ao
    ·rw[aA]at ao;cases ao
    ·obtain⟨x,ad⟩:=ei.1 ao;obtain⟨v',a6,ah,_⟩:=hr.good.own k x (c2 k x ad).1;rcases hr.good.one k with I|I
     ·exact I
     ·rw[I]at ah;cases ah
   ·exact(aD.cut_no ao).1
  ·intro aA;by_cases ao:aG s k
   ·rw[aD.cut_ow ao];rcases ao with ao|ao
    ·obtain⟨x,ad⟩:=ei.1 ao;obtain⟨bl,a6,el,ah,_⟩:=hr.good.box k x (cM k x ad).1;rcases hr.good.one k with I|I
     ·rw[I]at ah;cases ah
     ·exact I
    ·rw[aA]at ao;cases ao
   ·exact(aD.cut_no ao).2.1
 rcases c5 w (ν.cut (aG s)) nN (hr.fr.gl.cut _) Ru hex hZ with⟨⟨fn,g1,g2,g3⟩,c5⟩|⟨v,w',c5,aY⟩
 ·obtain⟨code,Dg⟩:=ei.1 g2;have fy:(execOp a.eval o).run P w= .ok (.enter n nN) w:=by refine gf _ _ ?_;simp only[callFunc,ee,eT,eg,run_program,g1,g3,Dg];simp
  unfold Oper.wp;rw[fy];simp only[Oper.upon];refine c5.mono fun e w' aY=>?_;obtain⟨v,r,aj,ν',rfl,bj,bJ,cj,de,du,cy⟩:=aY;obtain⟨⟨ft,eM⟩,J⟩:=mv r aj bj;rw[aF];exact cl _ _ _ _ J (hr.callK cM c2 c3 cj de (fun m hm=>hr.new _ (HO m hm)) (n':=n') (o':=o' aj) (fun k J=>HD k r aj bj J) du cy ft eM d pb bJ)
 ·have fy:(execOp a.eval o).run P w= .ok (.value v) w':=by exact gf _ _ c5
  obtain⟨v2,r,aj,ν',DW,bj,bJ,cj,de,du,cy⟩:=aY;cases DW;obtain⟨⟨ft,eM⟩,J⟩:=mv r aj bj;refine iM fy ?_;rw[aF];exact cl _ _ _ _ J (hr.callK cM c2 c3 cj de (fun m hm=>hr.new _ (HO m hm)) (n':=n') (o':=o' aj) (fun k J=>HD k r aj bj J) du cy ft eM d pb bJ)
theorem Um{P:bp}(cO:P.funcs.size<=1000000){C:dh}{st:aN}{a:Act}{w:World}{ν:aD}(hr:bH C st a w ν){o:Oper}{gG:gY}{args:Array gY}{ts:Array eU}(hI:o.op= .call ⟨.value gG,args,ts⟩){d:aV Nat}(aF:o.dst=d)(pb:ga C.N d=true)
  {n:Nat} {cG:List ab} (aH:aw w ν (.func n cG) (a.eval gG)) {aZ:List ab} (hC:bP w ν aZ (args.toList.map a.eval)) {K:aN->Prop} (az:iQ P C.ob n (aZ++cG) st d K)
  {kS:Act->World->Prop} {Q:Exit->Act->World->Prop} (cl:∀st' bE w' ν',K st'->bH C st' bE w' ν'->kS bE w'):o.wp P a w kS Q:=by
 obtain⟨nN,gf,hZ⟩:=Fk cO hI aH hC;rcases az C a w ν _ rfl hr hZ pb with⟨⟨fn,g1,g2,g3⟩,c5⟩|⟨v,w',c5,aY⟩
 ·obtain⟨code,Dg⟩:=ei.1 g2;have fy:(execOp a.eval o).run P w= .ok (.enter n nN) w:=by refine gf _ _ ?_;simp only[callFunc,ee,eT,eg,run_program,g1,g3,Dg];simp
  unfold Oper.wp;rw[fy];simp only[Oper.upon];refine c5.mono fun e w' aY=>?_;obtain⟨v,st',ν',rfl,J,bG⟩:=aY;rw[aF];exact cl _ _ _ _ J bG
 ·have fy:(execOp a.eval o).run P w= .ok (.value v) w':=by exact gf _ _ c5
  obtain⟨v2,st',ν',DW,J,bG⟩:=aY;cases DW;refine iM fy ?_;rw[aF];exact cl _ _ _ _ J bG
theorem Hu{P:bp}{C:dh}{st:aN}{a:Act}{w:World}{ν:aD}(hr:bH C st a w ν){o:Oper}{d:aV Nat}(aF:o.dst=d)(pb:ga C.N d=true)
  {n:Nat} {aZ:List ab} {nN:Array Value} (gf:∀x w',(callFunc n nN).run P w= .ok x w'->(execOp a.eval o).run P w= .ok x w') (hC:bP w ν aZ nN.toList) {K:aN->Prop} (az:CallDo P n (bz aZ) st d K)
  {kS:Act->World->Prop} {Q:Exit->Act->World->Prop} (cl:∀st' bE w' ν',K st'->bH C st' bE w' ν'->kS bE w'):o.wp P a w kS Q:=by
 refine Ht hr aF pb gf hC (K:=K) ?_ cl;rcases az with⟨s,oQ,cM,c2,c3,c4,c5,mv⟩|⟨s,oQ,cM,c2,c3,c4,c0,c5,mv⟩
 ·refine⟨s,oQ,none,st.n,fun aj=>st.o++dG aj,cM,c2,c3,c4,fun w ν vs gl I aa ak=>(c5 w ν vs gl I aa ak).mono fun e w' aY=>?_,fun m hm=>(by cases hm),fun k _ aj _ J=>⟨J,fun m hm=>by cases hm⟩,mv⟩;obtain⟨v,r,aj,ν',g1,g2,g3,g4,g5,g6⟩:=aY;exact⟨v,r,aj,ν',g1,g2,g3,g4,g5.k,g6⟩
 ·refine⟨s,oQ,some st.n,st.n+1,fun aj=>st.o++dG aj,cM,c2,c3,c4,c5,fun m hm=>(by cases hm;exact⟨cE _,c0⟩),fun k _ aj _ J=>⟨oh (Nat.le_succ _) (fun _ h=>h) J,fun m hm=>?_⟩,mv⟩;cases hm;rintro rfl;have:=J.1;simp only at this;omega
theorem Hs{P:bp}(cO:P.funcs.size<=1000000){C:dh}{st:aN}{a:Act}{w:World}{ν:aD}(hr:bH C st a w ν){o:Oper}{gG:gY}{args:Array gY}{ts:Array eU}(hI:o.op= .call ⟨.value gG,args,ts⟩){d:aV Nat}(aF:o.dst=d)(pb:ga C.N d=true)
  {n:Nat} {cG:List ab} (aH:aw w ν (.func n cG) (a.eval gG)) {aZ:List ab} (hC:bP w ν aZ (args.toList.map a.eval)) {K:aN->Prop} (az:CallDo P n (bz (aZ++cG)) st d K)
  {kS:Act->World->Prop} {Q:Exit->Act->World->Prop} (cl:∀st' bE w' ν',K st'->bH C st' bE w' ν'->kS bE w'):o.wp P a w kS Q:=by
 obtain⟨nN,gf,hZ⟩:=Fk cO hI aH hC;exact Hu hr aF pb gf hZ az cl
theorem bH.drawn{C:dh}{st:aN}{a:Act}{w:World}{ν:aD}(hr:bH C st a w ν)(n:Nat):bH C st a {w with drawn:=n} ν:=by
 have j8:km w ν {w with drawn:=n} ν:=⟨fun _ _ h=>⟨h,rfl⟩,fun _ _ _ h=>h,fun _ n u _ h=>⟨n,u,h,.inl ⟨rfl,rfl⟩⟩,fun _ _ _=>rfl,fun _ _ _ _ h=>h⟩;refine hr.over j8 rfl ⟨hr.good.alt,fun k cs J=>?_,hr.good.inj,fun g o aP=>?_,hr.good.oinj,hr.good.obx,hr.good.one,hr.good.otr⟩ ⟨hr.fr.os,hr.fr.tape,hr.fr.output,hr.fr.size,hr.fr.block,hr.fr.keep,hr.fr.fresh,hr.fr.obj,hr.fr.obn,hr.fr.row,hr.fr.obr,hr.fr.trd,hr.fr.trb,hr.fr.trn,hr.fr.sh,hr.fr.nrow⟩ hr.new
 ·obtain⟨bl,us,el,I,aa,ak,aK,bb⟩:=hr.good.box k cs J;exact⟨bl,us,el,I,aa,ak,aK,nH j8 bb⟩
 ·obtain⟨v,us,I,aa,ak,aK⟩:=hr.good.own g o aP;exact⟨v,us,I,aa,ak,pJ j8 (fun _ _ _ h=>h) aK⟩
theorem Qa{α:Type}{l:List α}{p:α->Bool}(h:∀x∈l,p x=false):l.filter p=[]:=by rw[List.filter_eq_nil_iff];intro x ad;simp[h x ad]
theorem P9{α:Type}{l:List α}{p:α->Bool}(h:∀x∈l,p x=true):l.filter p=l:=List.filter_eq_self.2 h
def A6(r m since clock:Nat)(seen:Array Nat)(Hv:Array (aV MapEntry)):Sem Value:=do
 match Hv[<-choose (.mapNext Hv.size)]? with
 |some (some e)=>
  setObj r (.mapIter (some m) since (seen.push e.born) clock)
  pure (.tuple #[.bool true,e.key,e.val])
 |some none=>pure (.tuple #[.bool false])
 |none=>stuck "Next: no such candidate"
theorem LP{P:bp}{w:World}(r m since clock:Nat)(seen:Array Nat)(l:List (aV MapEntry))(aA:l≠[]):∃n x,x∈l/\(A6 r m since clock seen l.toArray).run P w=
  (match x with|some e=>(do setObj r (.mapIter (some m) since (seen.push e.born) clock);pure (.tuple #[.bool true,e.key,e.val]):Sem Value)|none=>pure (.tuple #[.bool false])).run P {w with drawn:=n}:=by
 have fN:0<l.length:=nT.2 aA;unfold A6;have key:∀i,i<l.length->∀w',((do match(l.toArray[i]?:aV (aV MapEntry))with
   |some (some e)=>setObj r (.mapIter (some m) since (seen.push e.born) clock);pure (.tuple #[.bool true,e.key,e.val])
   |some none=>pure (.tuple #[.bool false])
   |none=>stuck "Next: no such candidate" :Sem Value)).run P w'=((match l[i]! with|some e=>(do setObj r (.mapIter (some m) since (seen.push e.born) clock);pure (.tuple #[.bool true,e.key,e.val]):Sem Value)|none=>pure (.tuple #[.bool false]))).run P w':=by
  intro i aB w';have I:l.toArray[i]? =some l[i]!:=by simp[aB]
  rw[I];cases l[i]!<;>rfl
 by_cases aH:(Question.mapNext l.length).forced=true
 ·refine⟨w.drawn,l[0]!,by simp[fN],?_⟩;rw[<-key 0 fN];have az:(choose (.mapNext l.length):Sem Nat).run P w= .ok 0 w:=by simp[aH]
  simp only[List.size_toArray,ee,az,eg]
 ·refine⟨w.drawn+1,l[(w.tape w.drawn (.mapNext l.length))%l.length]!,by simp[Nat.mod_lt _ fN],?_⟩;rw[<-key _ (Nat.mod_lt _ fN)];have az:(choose (.mapNext l.length):Sem Nat).run P w= .ok ((w.tape w.drawn (.mapNext l.length))%l.length) {w with drawn:=w.drawn+1}:=by simp[aH,Question.cut]
  simp only[List.size_toArray,ee,az,eg]
theorem U9{P:bp}{w:World}{bl nC:Nat}{seen:List Nat}{es:List MapEntry}{clock:Nat}{ty:eU}(I:w.heap[bl]? =some (.mapIter (some nC) clock seen.toArray clock))(aa:w.heap[nC]? =some (.map es.toArray clock))(bU:∀e∈es,e.born<clock):
  ∃n,((∀e∈es,e.born∈seen)/\(Instr.next (.pointer (some ⟨bl,0,none⟩)) false ty).run P w= .ok (.tuple #[.bool false]) {w with drawn:=n})\/
   ∃e∈es,e.born∉seen/\(Instr.next (.pointer (some ⟨bl,0,none⟩)) false ty).run P w= .ok (.tuple #[.bool true,e.key,e.val]) {w with drawn:=n,heap:=w.heap.setIfInBounds bl (.mapIter (some nC) clock (seen++[e.born]).toArray clock)}:=by
 have xN:(!seen.toArray.isEmpty&& !es.toArray.isEmpty&&es.toArray.all (fun e=>decide (e.born≥clock)))=false:=by
  cases es with
  |nil=>simp
  |cons e r=>have:=bU e Ψ;simp;intro _ h;omega
 generalize ku:(es.filter fun e=> !seen.contains e.born)=left;have RJ:(es.toArray.filter fun e=> !seen.toArray.contains e.born)=left.toArray:=by rw[<-ku];simp
 have hT:∀e∈left,e∈es/\e.born∉seen:=fun e he=>by rw[<-ku]at he;have:=List.mem_filter.1 he;exact⟨this.1,by simpa using this.2⟩
 have hold:(left.toArray.filter fun e=>decide (e.born<clock))=left.toArray:=by rw[List.filter_toArray,P9];intro e he;have:=bU e (hT e he).1;simp[this]
 have iE:(left.toArray.filter fun e=>decide (e.born≥clock))= #[]:=by rw[List.filter_toArray,Qa];intro e he;have:=bU e (hT e he).1;simp;omega
 have fy:(Instr.next (.pointer (some ⟨bl,0,none⟩)) false ty).run P w=(A6 bl nC clock clock seen.toArray ((if left.toArray.isEmpty then #[none]else #[])++(left.toArray++ #[]).map some)).run P w:=by unfold Instr.next A6;simp only[ee,rG I,rG aa,eg,xN,RJ,hold,iE,ia,if_false];rfl
 rw[fy];by_cases q5:left=[]
 ·subst q5;obtain⟨n,x,g1,g2⟩:=LP (P:=P) (w:=w) bl nC clock clock seen.toArray [none] Ψ;refine⟨n,.inl ⟨fun e he=>?_,?_⟩⟩
  ·have:=List.filter_eq_nil_iff.1 ku e he;simpa using this
  ·simp only[List.mem_singleton]at g1;subst g1;have az:((if(([]:List MapEntry).toArray).isEmpty then #[none]else #[])++(([]:List MapEntry).toArray++ #[]).map some)=[none].toArray:=by simp
   rw[az,g2];rfl
 ·have az:((if left.toArray.isEmpty then #[none]else #[])++(left.toArray++ #[]).map some)=(left.map some).toArray:=by simp[q5]
  obtain⟨n,x,g1,g2⟩:=LP (P:=P) (w:=w) bl nC clock clock seen.toArray (left.map some) (by simpa using q5);simp only[lO]at g1;obtain⟨e,he,rfl⟩:=g1;refine⟨n,.inr ⟨e,(hT e he).1,(hT e he).2,?_⟩⟩;rw[az,g2];simp only[ee];rw[yZ (w:={w with drawn:=n}) (o:= .mapIter (some nC) clock seen.toArray clock) I];simp
theorem CK:∀{borns:List Nat} {us:List Value} {e:MapEntry},e∈eK borns us->e.born∈borns
 |[],us,e,h=>by simp[eK]at h
 |b::dx,[],e,h=>by simp[eK]at h
 |b::dx,[_],e,h=>by simp[eK]at h
 |b::dx,k::v::us,e,h=>by
  simp only[eK,gp]at h;rcases h with rfl|h
  ·simp
  ·exact List.mem_cons_of_mem _ (CK h)
theorem H4:∀{borns:List Nat} {kvs:List ab} {us:List Value},kvs.length=2*borns.length->us.length=kvs.length->∀{b:Nat},b∈borns->∃e∈eK borns us,e.born=b
 |[],_,_,_,_,b,af=>by simp at af
 |fh::dx,kvs,[],I,aa,b,af=>by rw[I]at aa;simp at aa
 |fh::dx,kvs,[_],I,aa,b,af=>by rw[I]at aa;simp at aa;omega
 |fh::dx,kvs,k::v::us,I,aa,b,af=>by
  rcases gp.1 af with rfl|af
  ·exact⟨⟨k,v,b⟩,by simp[eK],rfl⟩
  ·obtain⟨e,g1,g2⟩:=H4 (kvs:=kvs.drop 2) (us:=us) (borns:=dx) (by simp at I⊢;omega) (by simp at I aa⊢;omega) af;exact⟨e,by simp[eK,g1],g2⟩
theorem Kw{w:World}{ν:aD}:∀{borns:List Nat} {kvs:List ab} {us:List Value},kvs.length=2*borns.length->borns.Pairwise (· < ·)->bP w ν kvs us->∀{e:MapEntry},e∈eK borns us->∃k v,l7 e.born borns kvs=some (.tuple [k,v])/\aw w ν k e.key/\aw w ν v e.val
 |[],_,_,_,_,_,e,h=>by simp[eK]at h
 |b::dx,[],us,I,_,_,e,_=>by simp at I
 |b::dx,[_],us,I,_,_,e,_=>by simp at I;omega
 |b::dx,k::v::kvs,us,I,aa,ak,e,h=>by
  simp only[bP]at ak;obtain⟨ix,FW,rfl,eH,h7,oK,rfl,fB,kL⟩:=ak;simp only[eK,gp]at h;rw[List.pairwise_cons]at aa;rcases h with rfl|h
  ·exact⟨k,v,by simp[l7],eH,fB⟩
  ·obtain⟨aX,v',g1,g2,g3⟩:=Kw (by simp at I;omega) aa.2 kL h;have b7:b≠e.born:=Nat.ne_of_lt (aa.1 _ (CK h));exact⟨aX,v',by simp[l7,b7,g1],g2,g3⟩
theorem TG{P:bp}{C:dh}{st:aN}{a:Act}{w:World}{ν:aD}(hr:bH C st a w ν){o:Oper}{it:gY}(hI:o.op= .next it false){d:Nat}(aF:o.dst=some d)(pb:ga C.N (some d)=true){v:ab}(aL:aw w ν v (a.eval it)){K:aN->Prop}(he:tO st d v K)
  {kS:Act->World->Prop} {Q:Exit->Act->World->Prop} (cl:∀st' bE w' ν',K st'->bH C st' bE w' ν'->kS bE w'):o.wp P a w kS Q:=by
 unfold tO at he;split at he
 ·rename_i fW;split at he
  ·rename_i since seen last mk jm;split at he
   ·rename_i clock borns kvs ui;obtain⟨⟨rfl,rfl⟩,Dk,Dl⟩:=he;simp only[aw]at aL;obtain⟨bl,bS,bY⟩:=aL;obtain⟨fC,us,el,bJ,cj,de,du,cy⟩:=hr.good.box fW _ jm;rw[bS]at bJ;cases bJ;obtain⟨nC,ms,Zk,m1,m2,m3,m4,m5⟩:=hr.good.box mk _ ui;simp only[gJ,bP]at cy;obtain⟨u,a6,hu,⟨Zj,eH,rfl⟩,rfl⟩:=cy;rw[m1]at eH;cases eH;simp only[hp,hu]at du;simp only[hp]at m4;simp only[gJ]at m5;obtain⟨n,j6⟩:=U9 (P:=P) (ty:=o.type) du m4 (fun e he=>m5.2.lt _ (CK he));have il:∀v' w',(Instr.next (.pointer (some ⟨bl,0,none⟩)) false o.type).run P w= .ok v' w'->(execOp a.eval o).run P w= .ok (.value v') w':=by intro v' w' fy;obtain⟨dst,op,ty,pos,Cd,IG⟩:=o;simp only at hI fy;subst hI;simp only[execOp,bY];exact zc fy
    rcases j6 with⟨I,aa⟩|⟨e,I,aa,ak⟩
    ·refine iM (il _ _ aa) ?_;rw[aF];refine cl _ _ _ _ (Dk fun b af=>?_) ((hr.drawn n).put pb (p:= .tuple [.bool false]) (by simp[aw,bP]));obtain⟨e,f1,f2⟩:=H4 m5.2.len (BE m5.1) af;rw[<-f2];exact I e f1
    ·obtain⟨k,v,f1,f2,f3⟩:=Kw m5.2.len m5.2.inc m5.1 I;refine iM (il _ _ ak) ?_;rw[aF];have vP:=((hr.drawn n).setBox (w':={w with drawn:=n,heap:=w.heap.setIfInBounds bl (.mapIter (some nC) last (seen++[e.born]).toArray last)}) jm bS (cs':=[.hdi last (seen++[e.born]) last,.gmap mk]) (us:=us) (el:=el) rfl rfl rfl
      (fun j av=>Array.getElem?_setIfInBounds_ne (Ne.symm av)) Ψ (by simp[hp,hu,(Array.getElem?_eq_some_iff.1 du).1]) (by simp only[gJ,bP];exact⟨_,_,hu,by simp only[aw];exact⟨nC,m1,rfl⟩,rfl⟩))
     refine cl _ _ _ _ (Dl e.born k v f1 aa) (vP.1.put pb (p:= .tuple [.bool true,k,v]) ?_);simp only[aw];refine⟨_,rfl,?_⟩;simp only[bP];have j8:km w ν {w with drawn:=n} ν:=⟨fun _ _ h=>⟨h,rfl⟩,fun _ _ _ h=>h,fun _ n u _ h=>⟨n,u,h,.inl ⟨rfl,rfl⟩⟩,fun _ _ _=>rfl,fun _ _ _ _ h=>h⟩;exact⟨_,_,rfl,by simp[aw],_,_,rfl,rC vP.2 (rC j8 f2),_,_,rfl,rC vP.2 (rC j8 f3),rfl⟩
   ·exact he.elim
  ·exact he.elim
 ·exact he.elim
theorem H6{P:bp}{aW:List (Nat×cm)}(au:dJ P aW=true){C:dh}{st:aN}{a:Act}{w:World}{ν:aD}(hr:bH C st a w ν){i:cY}{o:Oper}(ag:pH C.N aW i o=true){K:aN->Prop}(he:ni P C.ob st K i)
  {kS:Act->World->Prop} {Q:Exit->Act->World->Prop} (cl:∀st' bE w' ν',K st'->bH C st' bE w' ν'->kS bE w'):o.wp P a w kS Q:=by
 cases i with
 |s i=>
  simp only[ni]at he;split at he
  ·rename_i c st' ao;exact Vd au hr (by simpa only[pH]using ag) ao he.1 fun bE w' ν' h=>cl _ _ _ _ he.2 h
  ·exact he.elim
 |next d x=>
  simp only[ni]at he;simp only[pH]at ag;split at ag
  ·rename_i it hI;simp only[bA,df,fH]at ag;obtain⟨⟨I,aa⟩,ak⟩:=ag;exact TG hr hI I (by simpa[ga]using aa) (da hr ak) he cl
  ·cases ag
 |call d f xs=>
  simp only[ni]at he;simp only[pH]at ag;split at ag
  ·rename_i gG args ts hI;simp only[bA,df]at ag;obtain⟨⟨⟨I,aa⟩,ak⟩,aK⟩:=ag;split at he
   ·rename_i n cG aH;have:=da hr ak;rw[aH]at this;exact Hs (dJ.sz au) hr hI I aa this (uM hr aK) he cl
   ·exact he.elim
  ·cases ag
 |opn d f xs=>
  simp only[ni]at he;simp only[pH]at ag;split at ag
  ·rename_i gG args ts hI;simp only[bA,df]at ag;obtain⟨⟨⟨I,aa⟩,ak⟩,aK⟩:=ag;split at he
   ·rename_i n cG aH;have:=da hr ak;rw[aH]at this;exact Um (dJ.sz au) hr hI I aa this (uM hr aK) he cl
   ·exact he.elim
  ·cases ag
 |callb d f=>
  simp only[ni]at he;simp only[pH]at ag;split at ag
  ·rename_i gG ts hI;simp only[bA,df]at ag;obtain⟨⟨I,aa⟩,ak⟩:=ag;split at he
   ·rename_i n cG aH;have:=da hr ak;rw[aH]at this;obtain⟨nN,gf,hZ⟩:=U3 (P:=P) hI this he.1;exact Hu hr I aa gf hZ he.2 cl
   ·exact he.elim
  ·cases ag
theorem E8{C:dh}{st:aN}{a:Act}{w:World}{ν:aD}(h:bH C st a w ν){s:Nat}{b:Bool}(ao:get s st.t= .bool b):bH C {st with t:=put s (.bool b) st.t} a w ν:=by
 refine⟨h.good,h.fr,h.defers,h.size,fun i=>?_,h.new,h.ext,h.obk⟩;have:=h.slot i;simp only[nn];split
 ·rename_i e;subst e;rw[<-ao];exact this
 ·exact this
theorem MM{C:dh}{st:aN}{a:Act}{w:World}{ν:aD}(h:bH C st a w ν){ops:Array Oper}{j s:Nat}(av:(ops.toList[j]?).bind (·.dst)=some s)(ao:s<C.N):
  (∀b,get s st.t= .bool b->yielded ops a.tmps j=some b)/\(get s st.t= .tuple []->yielded ops a.tmps j=none):=by
 have bU:s<a.tmps.size:=by rw[h.size];exact ao
 have nv:=h.slot s;have k3:a.tmps.getD s undef=a.tmps[s]:=by simp[Array.getD,bU]
 rw[k3]at nv;have bk:yielded ops a.tmps j=match a.tmps[s]with| .bool b=>some b|_=>none:=by unfold yielded;rw[Array.getElem?_toList]at av;rw[av];simp only[Option.bind_some,mh bU];cases a.tmps[s]<;>rfl
 constructor
 ·intro b af;rw[af]at nv;simp only[aw]at nv;rw[bk,nv]
 ·intro af;rw[af]at nv;simp only[aw,bP]at nv;obtain⟨us,ah,aE⟩:=nv;rw[bk,ah]
theorem CQ{P:bp}{aW:List (Nat×cm)}(au:dJ P aW=true){C:dh}{ops:Array Oper}{K:aN->Prop}{Q:Exit->Act->World->Prop}(oi:∀st' bE w' ν',K st'->bH C st' bE w' ν'->Q .normal bE w'):
  ∀(gs:List b2) (os:List Oper) (k:Nat),(∀j,os[j]? =ops[k+j]?)->hf C.N aW ops.toList gs os=true->∀(st:aN) (a:Act) (w:World) (ν:aD),fp P C.ob gs st K->bH C st a w ν->wpOps P ops Q (List.range' k gs.length) a w
 |[],[],k,_,_,st,a,w,ν,he,hr=>by simp only[List.length_nil,List.range'_zero,wpOps];exact oi _ _ _ _ he hr
 |[],_::_,_,_,J,_,_,_,_,_,_=>by simp[hf]at J
 |_::_,[],_,_,J,_,_,_,_,_,_=>by simp[hf]at J
 |g::gs,o::os,k,vN,J,st,a,w,ν,he,hr=>by
  simp only[hf,bA]at J;have bN:ops[k]? =some o:=by simpa using(vN 0).symm
  have Aw:∀j,os[j]? =ops[k+1+j]?:=fun j=>by have:=vN (j+1);simpa[Nat.add_assoc,Nat.add_comm 1 j]using this
  simp only[lN,List.range'_succ,wpOps,bN];have a8:∀st' bE w' ν',fp P C.ob gs st' K->bH C st' bE w' ν'->wpOps P ops Q (List.range' (k+1) gs.length) bE w':=fun st' bE w' ν' I aa=>CQ au oi gs os (k+1) Aw J.2 st' bE w' ν' I aa;obtain⟨kZ,IJ⟩:=g;have aP:=J.1;simp only[xF,bA]at aP;obtain⟨kA,vK⟩:=aP;cases kZ with
  |none=>
   cases ea:o.guard with
   |some x=>simp[ea]at kA
   |none=>
    have hw:mi o (yielded ops a.tmps)=true:=by simp[mi,ea]
    rw[if_pos hw];simp only[fp]at he;exact .inl (H6 au hr vK he a8)
  |some uW=>
   obtain⟨s,want⟩:=uW;cases ea:o.guard with
   |none=>simp[ea]at kA
   |some x=>
    obtain⟨j,fh⟩:=x;simp only[ea,bA,df,fH]at kA;obtain⟨⟨⟨⟨rfl,aa⟩,ak⟩,aK⟩,bb⟩:=kA;obtain⟨F9,Ga⟩:=MM hr aa ak;simp only[fp]at he;split at he
    ·rename_i b af;have bk:=F9 b af;by_cases e:b=want
     ·subst e;have hw:mi o (yielded ops a.tmps)=true:=by simp[mi,ea,bk]
      rw[if_pos hw];exact .inl (H6 au (E8 hr af) vK (he.1 rfl) a8)
     ·have hw:¬(mi o (yielded ops a.tmps)=true):=by simp[mi,ea,bk,e]
      rw[be hw];have dR:b= !want:=by cases b<;>cases want<;>simp at e⊢
      have jq:bH C {st with t:=put s (.bool !want) st.t} a w ν:=E8 hr (by rw[af,dR]);rw[aK];exact a8 _ _ _ _ (he.2 dR) (jq.put bb (by simp[aw,bP,undef]))
    ·rename_i af;have bk:=Ga af;have hw:¬(mi o (yielded ops a.tmps)=true):=by simp[mi,ea,bk]
     rw[be hw,aK];exact a8 _ _ _ _ he (hr.put bb (by simp[aw,bP,undef]))
    ·exact he.elim
structure cf where
 t:Nat->ab
 b:aq->aV (List ab)
 e:aq->aV cq
 F:aq->Prop
structure iO where
 d:aV Nat
 p:ab
 bw:List (aq×List ab)
 ew:List (aq×cq)
 rm:aV aq
def hd{α:Type}(l:List (aq×α))(f:aq->aV α):aq->aV α:=fun k=>match look k l with|some x=>some x|none=>f k
def cf.do(A:cf)(x:iO):cf:={t:=fun i=>if x.d=some i then x.p else A.t i,b:=hd x.bw A.b,e:=hd x.ew A.e,F:=fun k=>A.F k/\x.rm≠some k}
structure iO.apart (x y:iO):Prop where
 d:∀i,x.d=some i->y.d≠some i
 b:∀k,(look k x.bw).isSome->look k y.bw=none
 e:∀k,(look k x.ew).isSome->look k y.ew=none
theorem cf.do_comm(A:cf){x y:iO}(h:x.apart y):(A.do x).do y=(A.do y).do x:=by
 simp only[cf.do,cf.mk.injEq];refine⟨?_,?_,?_,?_⟩
 ·funext i;by_cases I:x.d=some i
  ·have:=h.d i I;simp[I,this]
  ·simp[I]
 ·funext k;simp only[hd];cases ad:look k x.bw with
  |none=>cases look k y.bw<;>rfl
  |some u=>rw[h.b k (by simp[ad])]
 ·funext k;simp only[hd];cases ad:look k x.ew with
  |none=>cases look k y.ew<;>rfl
  |some u=>rw[h.e k (by simp[ad])]
 ·funext k;exact propext ⟨fun h=>⟨⟨h.1.1,h.2⟩,h.1.2⟩,fun h=>⟨⟨h.1.1,h.2⟩,h.1.2⟩⟩
def cx(t:Nat->ab):cg->ab
 | .t i=>t i
 | .c p=>p
def pv(b:aq->aV (List ab))(e:aq->aV cq)(agg:Bool)(sz:Nat):ab->aV (Prop×ab)
 | .rptr cD k n i f=>uN agg sz cD n i f (e k)
 | .ptr k off=>
  match b k with
  |some cs=>if agg then some (fm cs=true/\off+sz<=cs.length,.agg ((cs.drop off).take sz))else(cs[off]?).map fun p=>(fm cs=true,p)
  |none=>none
 | .eptr p=>if agg then some (isAgg sz p,p)else some (dP p=true/\cells p=[p],p)
 |_=>none
def tE(t:Nat->ab):List ab->List (Nat×Nat×cg)->aV (Prop×List ab)
 |cs,[]=>some (True,cs)
 |cs,(off,sz,x)::r=>
  match tE t (me cs off (cells (cx t x))) r with
  |some (c,cs')=>some ((dP (cx t x)=true/\(cells (cx t x)).length=sz/\off+sz<=cs.length)/\c,cs')
  |none=>none
def mX(t:Nat->ab)(b:aq->aV (List ab))(e:aq->aV cq):eY->aV (Prop×ab)
 | .mov x=>some (True,cx t x)
 | .pick c x y=>Bl (cx t c) (cx t x) (cx t y)
 | .load agg sz x=>pv b e agg sz (cx t x)
 | .faddr off agg sz x=>mx off agg sz (cx t x)
 | .fld off agg sz x=>p2 off agg sz (cx t x)
 | .iaddr sz x i=>vT sz (cx t x) (cx t i)
 | .sidx x i=>BQ (cx t x) (cx t i)
 | .ssl x lo aB=>BS (cx t x) (lo.map (cx t)) (aB.map (cx t))
 | .lsl sz x lo aB=>AW sz (cx t x) (lo.map (cx t)) (aB.map (cx t))
 | .bin op wr x y=>jD op wr (cx t x) (cx t y)
 | .notB x=>A8 (cx t x)
 | .neg x=>A4 (cx t x)
 | .conv k x=>zx k (cx t x)
 | .ext i x=>zK i (cx t x)
 | .len x=>v8 (cx t x)
 | .slen x=>y2 (cx t x)
 | .build zero parts=>(tE t zero parts).map fun(c,cs)=>(c,.agg cs)
 | .nck x=>wh (cx t x)
 | .min2 x y=>A0 (cx t x) (cx t y)
 | .mkf n xs=>some (True,.func n (xs.map (cx t)))
 | .mget bD zero ok x k=>nD b bD zero ok (cx t x) (cx t k)
 | .ment x=>qn b (cx t x)
 | .mlen x=>we b (cx t x)
 | .beq neg cT x y=>zo neg cT (cx t x) (cx t y)
 | .max2 x y=>AY (cx t x) (cx t y)
 | .mkif n x=>some (True,.iface n (cx t x))
 | .loadB agg sz x=>pv b (fun _=>none) agg sz (cx t x)
 | .mgetB bD zero ok x k=>nD b bD zero ok (cx t x) (cx t k)
 | .loadZ agg sz x=>xD agg sz (cx t x)
 | .b2s x=>zl (cx t x)
 | .isn neg x=>AJ neg (cx t x)
structure jC (st:aN) (A:cf):Prop where
 t:∀i,get i st.t=A.t i
 b:∀k,look k st.b=A.b k
 e:∀k,look k st.e=A.e k
theorem gF{st:aN}{A:cf}(h:jC st A)(x:cg):bh st.t x=cx A.t x:=by
 cases x
 ·exact h.t _
 ·rfl
theorem nl{st:aN}{A:cf}(h:jC st A):bh st.t=cx A.t:=funext (gF h)
theorem S4{st:aN}{A:cf}(h:jC st A)(agg:Bool)(sz:Nat)(p:ab):kG st.b st.e agg sz p=pv A.b A.e agg sz p:=by
 cases p<;>simp only[kG,pv]
 ·rw[h.b];try rfl
 ·rw[h.e]
theorem S5{st:aN}{A:cf}(h:jC st A)(agg:Bool)(sz:Nat)(p:ab):kG st.b [] agg sz p=pv A.b (fun _=>none) agg sz p:=by
 cases p<;>simp only[kG,pv]
 ·rw[h.b];try rfl
 ·rfl
theorem GO{st:aN}{A:cf}(h:jC st A):∀(parts:List (Nat×Nat×cg)) (cs:List ab),qP st.t cs parts=tE A.t cs parts
 |[],cs=>rfl
 |(off,sz,x)::r,cs=>by simp only[qP,tE,gF h,GO h r];try rfl
theorem Ms{st:aN}{A:cf}(h:jC st A)(i:eY):fw st i=mX A.t A.b A.e i:=by have af:(fun k=>look k st.b)=A.b:=funext h.b;cases i<;>simp only[fw,mX,nl h,S4 h,S5 h,GO h,af]
def fj:cg->List Nat
 | .t i=>[i]
 | .c _=>[]
def EV:aV cg->List Nat
 |some x=>fj x
 |none=>[]
def eY.looks:eY->List Nat
 | .mov x| .load _ _ x| .loadB _ _ x| .loadZ _ _ x| .faddr _ _ _ x| .fld _ _ _ x| .notB x| .neg x| .conv _ x| .ext _ x| .len x| .slen x| .nck x| .ment x| .mlen x| .mkif _ x| .b2s x| .isn _ x=>fj x
 | .pick c x y=>fj c++fj x++fj y
 | .iaddr _ x i| .sidx x i=>fj x++fj i
 | .ssl x lo aB| .lsl _ x lo aB=>fj x++EV lo++EV aB
 | .bin _ _ x y| .min2 x y| .max2 x y| .beq _ _ x y=>fj x++fj y
 | .build _ aZ=>aZ.flatMap fun p=>fj p.2.2
 | .mkf _ xs=>xs.flatMap fj
 | .mget _ _ _ x k| .mgetB _ _ _ x k=>fj x++fj k
def cX.looks:cX->List Nat
 | .v _ i=>i.looks
 | .box _ _ x=>fj x
 | .alloc _ _ _=>[]
 | .store _ x y=>fj x++fj y
 | .storeE _ x y=>fj x++fj y
 | .bsl _ _ _ xs=>xs.flatMap fj
 | .app _ _ _ x y=>fj x++fj y
 | .bslm _ _ _ _ xs=>xs.flatMap fj
 | .mks _ _ _ _ _ x=>fj x
 | .apps _ _ x y=>fj x++fj y
 | .appm _ _ _ _ x y=>fj x++fj y
 | .mkmap _ _=>[]
 | .mput _ x k y=>fj x++fj k++fj y
 | .range _ _ x=>fj x
def cY.looks:cY->List Nat
 | .s i=>i.looks
 | .call _ f xs=>fj f++xs.flatMap fj
 | .next _ x=>fj x
 | .opn _ f xs=>fj f++xs.flatMap fj
 | .callb _ f=>fj f
def b2.looks(g:b2):List Nat:=(match g.g with|some (s,_)=>[s]|none=>[])++g.i.looks
def nf(l:List Nat)(t t':Nat->ab):Prop:= ∀i∈l,t i=t' i
theorem e5{t t':Nat->ab}{x:cg}(h:nf (fj x) t t'):cx t x=cx t' x:=by
 cases x
 ·exact h _ (by simp[fj])
 ·rfl
theorem ij{l fE:List Nat}{t t':Nat->ab}(h:nf (l++fE) t t'):nf l t t'/\nf fE t t':=⟨fun i aB=>h i (by simp[aB]),fun i aB=>h i (by simp[aB])⟩
theorem zJ{t t':Nat->ab}{x:aV cg}(h:nf (EV x) t t'):x.map (cx t)=x.map (cx t'):=by
 cases x
 ·rfl
 ·simp[e5 h]
theorem GN{t t':Nat->ab}:∀{parts:List (Nat×Nat×cg)} {cs:List ab},nf (parts.flatMap fun p=>fj p.2.2) t t'->tE t cs parts=tE t' cs parts
 |[],cs,_=>rfl
 |(off,sz,x)::r,cs,h=>by simp only[List.flatMap_cons]at h;obtain⟨I,aa⟩:=ij h;simp only[tE,e5 I,GN aa]
theorem yr{t t':Nat->ab}:∀{xs:List cg},nf (xs.flatMap fj) t t'->xs.map (cx t)=xs.map (cx t')
 |[],_=>rfl
 |x::xs,h=>by simp only[List.flatMap_cons]at h;obtain⟨I,aa⟩:=ij h;simp[e5 I,yr aa]
def eY.isLoad:eY->Bool
 | .load _ _ _=>true
 | .loadB _ _ _=>true
 | .mgetB _ _ _ _ _=>true
 | .mget _ _ _ _ _=>true
 | .ment _=>true
 | .mlen _=>true
 |_=>false
theorem VO{t t':Nat->ab}{b fh:aq->aV (List ab)}{e fS:aq->aV cq}{i:eY}(h:nf i.looks t t')(af:i.isLoad=false):mX t b e i=mX t' fh fS i:=by
 cases i<;>simp only[eY.looks]at h<;>simp only[mX];case load agg sz x=>simp[eY.isLoad]at af
 case loadB agg sz x=>simp[eY.isLoad]at af
 case pick c x y=>obtain⟨I,ak⟩:=ij h;obtain⟨I,aa⟩:=ij I;rw[e5 I,e5 aa,e5 ak]
 case iaddr=>obtain⟨I,aa⟩:=ij h;rw[e5 I,e5 aa]
 case sidx=>obtain⟨I,aa⟩:=ij h;rw[e5 I,e5 aa]
 case ssl=>obtain⟨I,ak⟩:=ij h;obtain⟨I,aa⟩:=ij I;rw[e5 I,zJ aa,zJ ak]
 case lsl=>obtain⟨I,ak⟩:=ij h;obtain⟨I,aa⟩:=ij I;rw[e5 I,zJ aa,zJ ak]
 case bin=>obtain⟨I,aa⟩:=ij h;rw[e5 I,e5 aa]
 case min2=>obtain⟨I,aa⟩:=ij h;rw[e5 I,e5 aa]
 case build=>rw[GN h]
 case mkf=>rw[yr h]
 case mget=>simp[eY.isLoad]at af
 case mgetB=>simp[eY.isLoad]at af
 case ment=>simp[eY.isLoad]at af
 case mlen=>simp[eY.isLoad]at af
 case max2=>obtain⟨I,aa⟩:=ij h;rw[e5 I,e5 aa]
 case beq=>obtain⟨I,aa⟩:=ij h;rw[e5 I,e5 aa]
 all_goals rw[e5 h]
def TC(A:cf)(s aj:cZ)(rm:aV aq):Prop:=(∀k,(look k aj.b).isSome->(look k s.b).isSome\/rm=some k)/\(∀k,(look k aj.e).isSome->(look k s.e).isSome\/rm=some k)/\(∀k,(look k s.b).isSome->(look k aj.b).isSome)/\(∀k,(look k s.e).isSome->(look k aj.e).isSome)/\
 (∀k,rm=some k->(∃j,k= .obj j)/\A.F k/\A.b k=none/\A.e k=none/\((look k aj.b).isSome\/(look k aj.e).isSome))
def MW(P:bp)(n:Nat)(args:List ab)(A:cf)(d:aV Nat)(x:iO):Prop:=
 ∃s aj r rm,(∀k cs,look k s.b=some cs->A.b k=some cs/\kinL (aG s) cs)/\(∀k o,look k s.e=some o->A.e k=some o/\ef (aG s) o)/\gw s/\gw aj/\TC A s aj rm/\kinL (aG s) args/\
  cS P n args s (fun cv t'=>cv=r/\t'=aj)/\x=⟨d,r,aj.b,aj.e,rm⟩
def MX(P:bp)(n0 n:Nat)(args:List ab)(A:cf)(d:aV Nat)(x:iO):Prop:=
 ∃fa r,d=some fa/\(A.F (.loc (n0+fa))/\A.b (.loc (n0+fa))=none/\A.e (.loc (n0+fa))=none)/\kinL (fun _=>cw) args/\
  FnK P n (n0+fa) args ⟨[],[]⟩ (fun cv t'=>cv=r/\t'=⟨[],[]⟩)/\x=⟨d,r,[],[],some (.loc (n0+fa))⟩
def uu:ab->Bool
 | .ptr (.loc _) _=>true
 | .eptr _=>true
 |_=>false
def eY.isB:eY->Bool
 | .loadB _ _ _=>true
 | .mgetB _ _ _ _ _=>true
 |_=>false
def eY.ptrOf(t:Nat->ab):eY->ab
 | .load _ _ x=>cx t x
 | .loadB _ _ x=>cx t x
 |_=>.junk
def cL(P:bp)(q:Bool)(n0:Nat):cY->cf->iO->Prop
 | .s (.v d i),A,x=> ∃c p,mX A.t A.b A.e i=some (c,p)/\c/\(i.isLoad=true->i.isB=true\/q=true\/uu (i.ptrOf A.t)=true)/\x=⟨some d,p,[],[],none⟩
 | .s (.box d none v),A,x=>(A.F (.loc (n0+d))/\A.b (.loc (n0+d))=none/\A.e (.loc (n0+d))=none)/\dP (cx A.t v)=true/\x=⟨some d,.ptr (.loc (n0+d)) 0,[(.loc (n0+d),cells (cx A.t v))],[],some (.loc (n0+d))⟩
 | .s (.alloc d none z),A,x=>(A.F (.loc (n0+d))/\A.b (.loc (n0+d))=none/\A.e (.loc (n0+d))=none)/\x=⟨some d,.ptr (.loc (n0+d)) 0,[(.loc (n0+d),cells z)],[],some (.loc (n0+d))⟩
 | .s (.store sz u v),A,x=> ∃k off cs,cx A.t u= .ptr k off/\A.b k=some cs/\(fm cs=true/\dP (cx A.t v)=true/\(cells (cx A.t v)).length=sz/\off+sz<=cs.length)/\x=⟨none,.junk,[(k,me cs off (cells (cx A.t v)))],[],none⟩
 | .s (.bsl d sz el xs),A,x=>(A.F (.loc (n0+d))/\A.b (.loc (n0+d))=none/\A.e (.loc (n0+d))=none)/\n5 sz (xs.map (cx A.t))/\x=⟨some d,.slice sz (.own (.loc (n0+d))) (xs.map (cx A.t)),[],[(.loc (n0+d),⟨xs.length,el,sz,none⟩)],some (.loc (n0+d))⟩
 | .s (.app d sz el u v),A,x=> ∃tag xs fF ys,cx A.t u= .slice sz tag xs/\cx A.t v= .slice sz fF ys/\
   ((∃k o,tag= .own k/\A.e k=some o/\(o.xs=none/\o.n=xs.length/\o.el=el/\o.sz=sz/\xs.length+ys.length<=bX)/\x=⟨some d,.slice sz (.own k) (xs++ys),[],[(k,⟨xs.length+ys.length,el,sz,none⟩)],none⟩)\/
    (tag= .nil/\ys.length<=bX/\(A.F (.loc (n0+d))/\A.b (.loc (n0+d))=none/\A.e (.loc (n0+d))=none)/\x=⟨some d,.slice sz (.own (.loc (n0+d))) ys,[],[(.loc (n0+d),⟨ys.length,el,sz,none⟩)],some (.loc (n0+d))⟩))
 | .s (.bslm d (some m) sz el xs),A,x=>(A.F (.obj m)/\A.b (.obj m)=none/\A.e (.obj m)=none)/\n5 sz (xs.map (cx A.t))/\x=⟨some d,.row sz (.obj m) xs.length,[],[(.obj m,⟨xs.length,el,sz,some (xs.map (cx A.t))⟩)],some (.obj m)⟩
 | .s (.appm d none sz el u v),A,x=> ∃k n xs fF ys,cx A.t u= .row sz k n/\cx A.t v= .slice sz fF ys/\A.e k=some ⟨n,el,sz,some xs⟩/\xs.length+ys.length<=bX/\x=⟨some d,.row sz k (xs.length+ys.length),[],[(k,⟨xs.length+ys.length,el,sz,some (xs++ys)⟩)],none⟩
 | .s (.appm d (some m) sz el u v),A,x=>(∃k n xs fF ys,cx A.t u= .row sz k n/\cx A.t v= .slice sz fF ys/\A.e k=some ⟨n,el,sz,some xs⟩/\xs.length+ys.length<=bX/\x=⟨some d,.row sz k (xs.length+ys.length),[],[(k,⟨xs.length+ys.length,el,sz,some (xs++ys)⟩)],none⟩)\/ ∃xs fF ys,cx A.t u= .slice sz .nil xs/\cx A.t v= .slice sz fF ys/\(A.F (.obj m)/\A.b (.obj m)=none/\A.e (.obj m)=none)/\(ys.length<=bX/\ys≠[])/\x=⟨some d,.row sz (.obj m) ys.length,[],[(.obj m,⟨ys.length,el,sz,some ys⟩)],some (.obj m)⟩
 | .s (.storeE sz u v),A,x=> ∃k n i f el cD xs q,cx A.t u= .rptr cD k n i f/\A.e k=some ⟨n,el,cD,some xs⟩/\xs[i]? =some q/\(dP q=true/\dP (cx A.t v)=true/\(cells (cx A.t v)).length=sz/\f+sz<=(cells q).length/\0<sz)/\x=⟨none,.junk,[],[(k,⟨n,el,cD,some (xs.set i (oC q f (cells (cx A.t v))))⟩)],none⟩
 | .s (.mkmap d (some m)),A,x=>(A.F (.obj m)/\A.b (.obj m)=none/\A.e (.obj m)=none)/\x=⟨some d,.gmap (.obj m),[(.obj m,[.hdm 0 []])],[],some (.obj m)⟩
 | .s (.mput bD u k v),A,x=> ∃m cs cs',cx A.t u= .gmap m/\A.b m=some cs/\oy bD (cx A.t k) (cx A.t v) cs=some cs'/\x=⟨none,.junk,[(m,cs')],[],none⟩
 | .call d f xs,A,x=> ∃n cG,cx A.t f= .func n cG/\((MW P n (bz (xs.map (cx A.t)++cG)) A d x/\(q=true->x.bw=[]/\x.ew=[]))\/MX P n0 n (bz (xs.map (cx A.t)++cG)) A d x)
 |_,_,_=>cw
inductive w5 where
 |v|l|n|s|w|a|c|m|r|k|z
 deriving DecidableEq
def cY.mode:cY->w5
 | .s (.v _ (.loadB _ _ _))=>.m
 | .s (.v _ (.mgetB _ _ _ _ _))=>.m
 | .s (.v _ i)=>if i.isLoad then .l else .v
 | .s (.storeE _ _ _)=>.r
 | .s (.box _ _ _)=>.n
 | .s (.alloc _ _ _)=>.n
 | .s (.store _ _ _)=>.w
 | .s (.bsl _ _ _ _)=>.s
 | .s (.app _ _ _ _ _)=>.a
 | .s (.bslm _ none _ _ _)=>.w
 | .s (.bslm _ (some _) _ _ _)=>.z
 | .s (.mks _ _ _ _ _ _)=>.w
 | .s (.apps _ _ _ _)=>.w
 | .s (.appm _ none _ _ _ _)=>.r
 | .s (.appm _ (some _) _ _ _ _)=>.z
 | .s (.mkmap _ _)=>.k
 | .s (.mput _ _ _ _)=>.w
 | .s (.range _ _ _)=>.w
 | .call _ _ _=>.c
 | .next _ _=>.w
 | .opn _ _ _=>.w
 | .callb _ _=>.w
structure Cb (q:Bool) (n0:Nat) (m:w5) (dst:aV Nat) (A:cf) (x:iO):Prop where
 d:x.d=dst
 b:∀k,(look k x.bw).isSome->(m= .n/\∃d,dst=some d/\k= .loc (n0+d)/\A.b k=none/\A.e k=none)\/m= .w\/(m= .c/\(∃j,k= .obj j)/\q=false)\/(m= .k/\(∃j,k= .obj j)/\A.b k=none/\A.e k=none)
 e:∀k,(look k x.ew).isSome->(m= .s/\∃d,dst=some d/\k= .loc (n0+d)/\A.b k=none/\A.e k=none)\/(m= .a/\(A.e k≠none\/ ∃d,dst=some d/\k= .loc (n0+d)/\A.b k=none/\A.e k=none))\/(m= .c/\(∃j,k= .obj j)/\q=false)\/(m= .r/\∃o,A.e k=some o/\o.xs≠none)\/m= .z
 r:∀k,x.rm=some k->(∃d,dst=some d/\k= .loc (n0+d))\/((m= .c\/m= .k\/m= .z)/\(∃j,k= .obj j)/\((look k x.bw).isSome\/(look k x.ew).isSome))
 ex:m= .a->∀k o,(look k x.ew).isSome->A.e k=some o->o.xs=none
 xn:m= .a\/m= .s->∀k o,look k x.ew=some o->o.xs=none
theorem ql{α:Type}{k aX:aq}{x:α}(h:(look k [(aX,x)]).isSome):k=aX:=by
 simp only[look]at h;split at h
 ·rename_i e;exact e.symm
 ·cases h
theorem Es{k aX:aq}{n el sz:Nat}{o:cq}(h:look k [(aX,(⟨n,el,sz,none⟩:cq))]=some o):o.xs=none:=by
 simp only[look]at h;split at h
 ·cases h;rfl
 ·cases h
theorem Mk{P:bp}{q:Bool}{n0:Nat}{i:cY}{A:cf}{x:iO}(h:cL P q n0 i A x):Cb q n0 i.mode i.dst A x:=by
 cases i with
 |s i=>
  cases i with
  |v d i=>simp only[cL]at h;obtain⟨c,p,_,_,_,rfl⟩:=h;exact⟨rfl,fun k J=>by simp[look]at J,fun k J=>by simp[look]at J,fun k J=>by simp at J,fun _ k o J=>by simp[look]at J,fun _ k o J=>by simp[look]at J⟩
  |box d key v=>
   cases key with
   |some m=>simp only[cL]at h
   |none=>simp only[cL]at h;obtain⟨⟨_,aa,ak⟩,_,rfl⟩:=h;exact⟨rfl,fun k J=>by obtain rfl:=ql J;exact .inl ⟨rfl,d,rfl,rfl,aa,ak⟩,fun k J=>by simp[look]at J,fun k J=>by simp at J;exact .inl ⟨d,rfl,J.symm⟩,fun _ k o J=>by simp[look]at J,fun _ k o J=>by simp[look]at J⟩
  |alloc d key z=>
   cases key with
   |some m=>simp only[cL]at h
   |none=>simp only[cL]at h;obtain⟨⟨_,aa,ak⟩,rfl⟩:=h;exact⟨rfl,fun k J=>by obtain rfl:=ql J;exact .inl ⟨rfl,d,rfl,rfl,aa,ak⟩,fun k J=>by simp[look]at J,fun k J=>by simp at J;exact .inl ⟨d,rfl,J.symm⟩,fun _ k o J=>by simp[look]at J,fun _ k o J=>by simp[look]at J⟩
  |store sz u v=>simp only[cL]at h;obtain⟨k,off,cs,_,_,_,rfl⟩:=h;exact⟨rfl,fun k J=>.inr (.inl rfl),fun k J=>by simp[look]at J,fun k J=>by simp at J,fun _ k o J=>by simp[look]at J,fun _ k o J=>by simp[look]at J⟩
  |bsl d sz el xs=>simp only[cL]at h;obtain⟨⟨_,aa,ak⟩,_,rfl⟩:=h;exact⟨rfl,fun k J=>by simp[look]at J,fun k J=>by obtain rfl:=ql J;exact .inl ⟨rfl,d,rfl,rfl,aa,ak⟩,fun k J=>by simp at J;exact .inl ⟨d,rfl,J.symm⟩,fun e=>by simp[cY.mode]at e,fun _ k o J=>Es J⟩
  |app d sz el u v=>
   simp only[cL]at h;obtain⟨tag,xs,fF,ys,_,_,h⟩:=h;rcases h with⟨k,o,_,I,⟨gh,_⟩,rfl⟩|⟨_,_,⟨_,aa,ak⟩,rfl⟩
   ·exact⟨rfl,fun k J=>by simp[look]at J,fun k J=>by obtain rfl:=ql J;exact .inr (.inl ⟨rfl,.inl (by rw[I];simp)⟩),fun k J=>by simp at J,fun _ aX o' J ag=>by obtain rfl:=ql J;rw[I]at ag;cases ag;exact gh,fun _ k o J=>Es J⟩
   ·exact⟨rfl,fun k J=>by simp[look]at J,fun k J=>by obtain rfl:=ql J;exact .inr (.inl ⟨rfl,.inr ⟨d,rfl,rfl,aa,ak⟩⟩),fun k J=>by simp at J;exact .inl ⟨d,rfl,J.symm⟩,fun _ aX o' J ag=>(by obtain rfl:=ql J;rw[ak]at ag;cases ag),fun _ k o J=>Es J⟩
  |bslm d key sz el xs=>
   cases key with
   |none=>simp only[cL]at h
   |some m=>simp only[cL]at h;obtain⟨⟨_,aa,ak⟩,_,rfl⟩:=h;exact⟨rfl,fun k J=>by simp[look]at J,fun k J=>.inr (.inr (.inr (.inr rfl))),fun k J=>by simp at J;subst J;exact .inr ⟨.inr (.inr rfl),⟨m,rfl⟩,.inr (by simp[look])⟩,fun e=>by simp[cY.mode]at e,fun e=>by simp[cY.mode]at e⟩
  |mks d key sz el z x=>simp only[cL]at h
  |apps d el x y=>simp only[cL]at h
  |appm d key sz el u v=>
   cases key with
   |none=>simp only[cL]at h;obtain⟨k,n,xs,fF,ys,_,_,I,_,rfl⟩:=h;exact⟨rfl,fun k J=>by simp[look]at J,fun k J=>by obtain rfl:=ql J;exact .inr (.inr (.inr (.inl ⟨rfl,_,I,Ψ⟩))),fun k J=>by simp at J,fun e=>by simp[cY.mode]at e,fun e=>by simp[cY.mode]at e⟩
   |some m=>
    simp only[cL]at h;rcases h with⟨k,n,xs,fF,ys,_,_,I,_,rfl⟩|⟨xs,fF,ys,_,_,⟨_,aa,ak⟩,_,rfl⟩
    ·exact⟨rfl,fun k J=>by simp[look]at J,fun k J=>.inr (.inr (.inr (.inr rfl))),fun k J=>by simp at J,fun e=>by simp[cY.mode]at e,fun e=>by simp[cY.mode]at e⟩
    exact⟨rfl,fun k J=>by simp[look]at J,fun k J=>.inr (.inr (.inr (.inr rfl))),fun k J=>by simp at J;subst J;exact .inr ⟨.inr (.inr rfl),⟨m,rfl⟩,.inr (by simp[look])⟩,fun e=>by simp[cY.mode]at e,fun e=>by simp[cY.mode]at e⟩
  |storeE sz u v=>simp only[cL]at h;obtain⟨k,n,i,f,el,cD,xs,q,_,I,_,_,rfl⟩:=h;exact⟨rfl,fun k J=>by simp[look]at J,fun k J=>by obtain rfl:=ql J;exact .inr (.inr (.inr (.inl ⟨rfl,_,I,Ψ⟩))),fun k J=>by simp at J,fun e=>by simp[cY.mode]at e,fun e=>by simp[cY.mode]at e⟩
  |mkmap d key=>
   cases key with
   |none=>simp only[cL]at h
   |some m=>simp only[cL]at h;obtain⟨⟨_,aa,ak⟩,rfl⟩:=h;exact⟨rfl,fun k J=>by obtain rfl:=ql J;exact .inr (.inr (.inr ⟨rfl,⟨m,rfl⟩,aa,ak⟩)),fun k J=>by simp[look]at J,fun k J=>by simp at J;subst J;exact .inr ⟨.inr (.inl rfl),⟨m,rfl⟩,.inl (by simp[look])⟩,fun e=>by simp[cY.mode]at e,fun e=>by simp[cY.mode]at e⟩
  |mput bD x k v=>simp only[cL]at h;obtain⟨m,cs,cs',_,_,_,rfl⟩:=h;exact⟨rfl,fun k J=>.inr (.inl rfl),fun k J=>by simp[look]at J,fun k J=>by simp at J,fun e=>by simp[cY.mode]at e,fun e=>by simp[cY.mode]at e⟩
  |range d key x=>simp only[cL]at h
 |next d x=>simp only[cL]at h
 |opn d f x=>simp only[cL]at h
 |callb d f=>simp only[cL]at h
 |call d f xs=>
  simp only[cL]at h;obtain⟨n,cG,_,h⟩:=h;rcases h with⟨⟨s,aj,r,rm,_,_,_,ag,Jp,_,_,rfl⟩,bj⟩|⟨fa,r,rfl,_,_,_,rfl⟩;rotate_left
  ·exact⟨rfl,fun k J=>by simp[look]at J,fun k J=>by simp[look]at J,fun k J=>by simp at J;exact .inl ⟨fa,rfl,J.symm⟩,fun _ k o J=>by simp[look]at J,fun _ k o J=>by simp[look]at J⟩
  refine⟨rfl,fun k J=>.inr (.inr (.inl ⟨rfl,?_,?_⟩)),fun k J=>.inr (.inr (.inl ⟨rfl,?_,?_⟩)),fun k J=>.inr ⟨.inl rfl,(Jp.2.2.2.2 k J).1,(Jp.2.2.2.2 k J).2.2.2.2⟩,fun e=>by simp[cY.mode]at e,fun e=>by simp[cY.mode]at e⟩
  ·cases k with
   |loc m=>rw[ag.1 m]at J;cases J
   |obj m=>exact⟨m,rfl⟩
  ·cases q with
   |false=>rfl
   |true=>rw[(bj rfl).1]at J;simp[look]at J
  ·cases k with
   |loc m=>rw[ag.2 m]at J;cases J
   |obj m=>exact⟨m,rfl⟩
  ·cases q with
   |false=>rfl
   |true=>rw[(bj rfl).2]at J;simp[look]at J
theorem Gn{P:bp}{q:Bool}{n0:Nat}{i:cY}{A A':cf}{x:iO}(h:cL P q n0 i A x)(au:nf i.looks A.t A'.t)
  (aA:i.mode= .l->∀k,(q=true\/ ∃m,k= .loc m)->A.b k≠none->A'.b k=A.b k) (sI:i.mode= .m->∀k,A.b k≠none->A'.b k=A.b k)
  (DL:i.mode= .l->q=true->∀k o,A.e k=some o->o.xs≠none->A'.e k=some o)
  (aR:∀d,i.dst=some d->(i.mode= .n\/i.mode= .s\/i.mode= .a\/i.mode= .c)->(A.F (.loc (n0+d))/\A.b (.loc (n0+d))=none/\A.e (.loc (n0+d))=none)->(A'.F (.loc (n0+d))/\A'.b (.loc (n0+d))=none/\A'.e (.loc (n0+d))=none))
  (bL:i.mode= .a->∀k o,A.e k=some o->A'.e k=some o) (hw:i.mode= .w->∀k,A'.b k=A.b k) (DY:i.mode= .z->(∀m,(A.F (.obj m)/\A.b (.obj m)=none/\A.e (.obj m)=none)->(A'.F (.obj m)/\A'.b (.obj m)=none/\A'.e (.obj m)=none))/\∀k,A'.e k=A.e k) (AD:i.mode= .k->∀m,(A.F (.obj m)/\A.b (.obj m)=none/\A.e (.obj m)=none)->(A'.F (.obj m)/\A'.b (.obj m)=none/\A'.e (.obj m)=none)) (x9:i.mode= .r->∀k o,A.e k=some o->o.xs≠none->A'.e k=some o)
  (az:i.mode= .c->∀m,A'.b (.obj m)=A.b (.obj m)/\A'.e (.obj m)=A.e (.obj m)/\(A.F (.obj m)->A'.F (.obj m))):cL P q n0 i A' x:=by
 cases i with
 |s i=>
  cases i with
  |v d i=>
   simp only[cL]at h⊢;obtain⟨c,p,I,aa,ak,aK⟩:=h;by_cases hB:∃agg sz y,i= .loadB agg sz y
   ·obtain⟨agg,sz,y,rfl⟩:=hB;simp only[cY.looks,cX.looks,eY.looks]at au;have q3:=e5 au;refine⟨c,p,?_,aa,fun _=>.inl rfl,aK⟩;rw[<-I];simp only[mX,<-q3];have hm:=sI (by simp[cY.mode]);simp only[mX]at I;cases aY:cx A.t y<;>simp only[pv];rename_i key off;rw[aY]at I;simp only[pv]at I;cases af:A.b key with
    |none=>simp[af]at I
    |some cs=>have:A'.b key=A.b key:=hm key (by rw[af];simp);rw[this,af]
   by_cases z1:∃bD zero ok y z,i= .mgetB bD zero ok y z
   ·obtain⟨bD,zero,ok,y,z,rfl⟩:=z1;simp only[cY.looks,cX.looks,eY.looks]at au;obtain⟨t1,t2⟩:=ij au;refine⟨c,p,?_,aa,fun _=>.inl rfl,aK⟩;simp only[mX]at I⊢;rw[<-e5 t1,<-e5 t2];exact KB (sI (by simp[cY.mode])) I
   replace ak:i.isLoad=true->q=true\/uu (i.ptrOf A.t)=true:=fun im=>(ak im).resolve_left (fun af=>by cases i<;>simp[eY.isB]at af;exact hB ⟨_,_,_,rfl⟩;exact z1 ⟨_,_,_,_,_,rfl⟩);have RT:i.isLoad=true->(cY.s (.v d i)).mode= .l:=by intro im;cases i<;>simp only[eY.isLoad]at im<;>first|(cases im;done)|(simp[cY.mode,eY.isLoad];done)|exact absurd ⟨_,_,_,rfl⟩ hB|exact absurd ⟨_,_,_,_,_,rfl⟩ z1
   by_cases im:i.isLoad=true
   ·have bj:∀(aY:uu (i.ptrOf A.t)=false),∀k,A.b k≠none->A'.b k=A.b k:=fun aY k J=>aA (RT im) k (.inl ((ak im).resolve_right (by rw[aY];simp))) J;cases i<;>simp only[eY.isLoad]at im<;>try(cases im;done)
    case mget bD zero ok y z=>simp only[cY.looks,cX.looks,eY.looks]at au;obtain⟨t1,t2⟩:=ij au;refine⟨c,p,?_,aa,fun _=>.inr (ak rfl),aK⟩;simp only[mX]at I⊢;rw[<-e5 t1,<-e5 t2];exact KB (bj rfl) I
    case ment y=>simp only[cY.looks,cX.looks,eY.looks]at au;refine⟨c,p,?_,aa,fun _=>.inr (ak rfl),aK⟩;simp only[mX]at I⊢;rw[<-e5 au];exact Tg (bj rfl) I
    case mlen y=>simp only[cY.looks,cX.looks,eY.looks]at au;refine⟨c,p,?_,aa,fun _=>.inr (ak rfl),aK⟩;simp only[mX]at I⊢;rw[<-e5 au];exact Ts (bj rfl) I
    case loadB agg sz y=>exact absurd ⟨_,_,_,rfl⟩ hB
    case mgetB=>exact absurd ⟨_,_,_,_,_,rfl⟩ z1
    rename_i agg sz y;simp only[cY.looks,cX.looks,eY.looks]at au;have q3:=e5 au;refine⟨c,p,?_,aa,fun _=>.inr (by have:=ak rfl;simpa only[eY.ptrOf,<-q3]using this),aK⟩;rw[<-I];simp only[mX,<-q3];have hm:=aA (by simp[cY.mode,eY.isLoad]);simp only[mX]at I;have xI:=ak rfl;simp only[eY.ptrOf]at xI;cases aY:cx A.t y<;>simp only[pv]
    ·rename_i key off;rw[aY]at I xI;simp only[pv]at I;cases af:A.b key with
     |none=>simp[af]at I
     |some cs=>have:A'.b key=A.b key:=hm key (by rcases xI with h|h;exact .inl h;cases key;exact .inr ⟨_,rfl⟩;simp[uu]at h) (by rw[af];simp);rw[this,af]
    ·rename_i cD key n i f;rw[aY]at I xI;simp only[pv]at I;have R6:q=true:=xI.resolve_right (by simp[uu]);unfold uN at I;split at I
     ·rename_i n' el gK xs he;rw[he,DL (by simp[cY.mode,eY.isLoad]) R6 key _ he Ψ]
     ·cases I
   ·have im:i.isLoad=false:=by simpa using im
    refine⟨c,p,?_,aa,(fun e=>by rw[im]at e;cases e),aK⟩;rw[<-I];exact(VO (by simpa only[cY.looks,cX.looks]using au) im).symm
  |box d key v=>
   cases key with
   |some m=>simp only[cL]at h
   |none=>simp only[cL,cY.looks,cX.looks]at h au⊢;obtain⟨I,aa,ak⟩:=h;rw[<-e5 au];exact⟨aR d rfl (.inl rfl) I,aa,ak⟩
  |alloc d key z=>
   cases key with
   |some m=>simp only[cL]at h
   |none=>simp only[cL]at h⊢;exact⟨aR d rfl (.inl rfl) h.1,h.2⟩
  |store sz u v=>simp only[cL,cY.looks,cX.looks]at h au⊢;obtain⟨I,aa⟩:=ij au;rw[<-e5 I,<-e5 aa];obtain⟨k,off,cs,g1,g2,g3,g4⟩:=h;exact⟨k,off,cs,g1,by rw[hw rfl];exact g2,g3,g4⟩
  |bsl d sz el xs=>simp only[cL,cY.looks,cX.looks]at h au⊢;rw[<-yr au];exact⟨aR d rfl (.inr (.inl rfl)) h.1,h.2⟩
  |app d sz el u v=>
   simp only[cL,cY.looks,cX.looks]at h au⊢;obtain⟨I,aa⟩:=ij au;rw[<-e5 I,<-e5 aa];obtain⟨tag,xs,fF,ys,g1,g2,h⟩:=h;refine⟨tag,xs,fF,ys,g1,g2,?_⟩;rcases h with⟨k,o,ah,aE,bg⟩|⟨ah,aE,bg,cB⟩
   ·exact .inl ⟨k,o,ah,bL rfl k o aE,bg⟩
   ·exact .inr ⟨ah,aE,aR d rfl (.inr (.inr (.inl rfl))) bg,cB⟩
  |bslm d key sz el xs=>
   cases key with
   |none=>simp only[cL]at h
   |some m=>simp only[cL,cY.looks,cX.looks]at h au⊢;rw[<-yr au];exact⟨(DY rfl).1 m h.1,h.2⟩
  |mks d key sz el z x=>simp only[cL]at h
  |apps d el x y=>simp only[cL]at h
  |appm d key sz el u v=>
   cases key with
   |none=>simp only[cL,cY.looks,cX.looks]at h au⊢;obtain⟨I,aa⟩:=ij au;rw[<-e5 I,<-e5 aa];obtain⟨k,n,xs,fF,ys,g1,g2,g3,g4,g5⟩:=h;exact⟨k,n,xs,fF,ys,g1,g2,x9 rfl k _ g3 Ψ,g4,g5⟩
   |some m=>
    simp only[cL,cY.looks,cX.looks]at h au⊢;obtain⟨I,aa⟩:=ij au;rw[<-e5 I,<-e5 aa];rcases h with⟨k,n,xs,fF,ys,g1,g2,g3,g4,g5⟩|⟨xs,fF,ys,g1,g2,g3,g4⟩
    ·exact .inl ⟨k,n,xs,fF,ys,g1,g2,by rw[(DY rfl).2];exact g3,g4,g5⟩
    ·exact .inr ⟨xs,fF,ys,g1,g2,(DY rfl).1 m g3,g4⟩
  |storeE sz u v=>simp only[cL,cY.looks,cX.looks]at h au⊢;obtain⟨I,aa⟩:=ij au;rw[<-e5 I,<-e5 aa];obtain⟨k,n,i,f,el,cD,xs,q,g1,g2,g3⟩:=h;exact⟨k,n,i,f,el,cD,xs,q,g1,x9 rfl k _ g2 Ψ,g3⟩
  |mkmap d key=>
   cases key with
   |none=>simp only[cL]at h
   |some m=>simp only[cL]at h⊢;exact⟨AD rfl m h.1,h.2⟩
  |mput bD u k v=>simp only[cL,cY.looks,cX.looks]at h au⊢;obtain⟨t1,t3⟩:=ij au;obtain⟨t1,t2⟩:=ij t1;obtain⟨m,cs,cs',g1,g2,g3,g4⟩:=h;rw[<-e5 t1,<-e5 t2,<-e5 t3];exact⟨m,cs,cs',g1,by rw[hw rfl];exact g2,g3,g4⟩
  |range d key x=>simp only[cL]at h
 |next d x=>simp only[cL]at h
 |opn d f x=>simp only[cL]at h
 |callb d f=>simp only[cL]at h
 |call d f xs=>
  simp only[cL,cY.looks]at h au⊢;obtain⟨I,aa⟩:=ij au;rw[<-e5 I,<-yr aa];obtain⟨n,cG,g1,h⟩:=h;rcases h with⟨⟨s,aj,r,rm,cM,c2,c3,c4,c5,mv⟩,g3⟩|⟨fa,r,rfl,cM,c2⟩;rotate_left
  ·exact⟨n,cG,g1,.inr ⟨fa,r,rfl,aR fa rfl (.inr (.inr (.inr rfl))) cM,c2⟩⟩
  refine⟨n,cG,g1,.inl ⟨⟨s,aj,r,rm,fun k cs J=>?_,fun k o J=>?_,c3,c4,⟨c5.1,c5.2.1,c5.2.2.1,c5.2.2.2.1,fun k J=>?_⟩,mv⟩,g3⟩⟩
  ·cases k with
   |loc m=>rw[c3.1 m]at J;cases J
   |obj m=>rw[(az rfl m).1];exact cM _ _ J
  ·cases k with
   |loc m=>rw[c3.2 m]at J;cases J
   |obj m=>rw[(az rfl m).2.1];exact c2 _ _ J
  ·obtain⟨⟨j,rfl⟩,d2,d3,d4,d5⟩:=c5.2.2.2.2 k J;exact⟨⟨j,rfl⟩,(az rfl j).2.2 d2,by rw[(az rfl j).1];exact d3,by rw[(az rfl j).2.1];exact d4,d5⟩
def jz(d:aV Nat):iO:=⟨d,.tuple [],[],[],none⟩
def iP(P:bp)(q:Bool)(n0:Nat)(g:b2)(A:cf)(x:iO):Prop:=
 match g.g with
 |none=>cL P q n0 g.i A x
 |some (s,w)=>match A.t s with
  | .bool b=>(b=w/\cL P q n0 g.i A x)\/(b= !w/\x=jz g.i.dst)
  | .tuple []=>x=jz g.i.dst
  |_=>cw
def dF:w5->w5->Bool
 | .v,_=>true
 |_,.v=>true
 | .l,.l| .l,.n| .l,.s| .l,.a| .l,.c=>true
 | .n,.n| .n,.s| .n,.a| .n,.c=>true
 | .s,.l| .s,.n| .s,.s| .s,.c=>true
 | .a,.l| .a,.n| .a,.s=>true
 | .c,.l| .c,.n| .c,.s=>true
 | .l,.m| .m,.l| .m,.m| .m,.n| .m,.s| .m,.a| .s,.m| .a,.m=>true
 | .l,.k| .m,.k| .n,.k| .s,.k=>true
 | .m,.r| .r,.m| .r,.n| .r,.s| .n,.r| .s,.r| .r,.w| .w,.r=>true
 | .m,.z| .z,.m| .z,.n=>true
 |_,_=>false
def vz(g h:b2):Bool:=(match g.i.dst with|some d=> !(h.looks.contains d)&&h.i.dst !=some d|none=>true)&&(match h.i.dst with|some d=> !(g.looks.contains d)|none=>true)&&dF g.i.mode h.i.mode
theorem Ml(q:Bool)(n0:Nat)(m:w5)(d:aV Nat)(A:cf):Cb q n0 m d A (jz d):=⟨rfl,fun k J=>by simp[jz,look]at J,fun k J=>by simp[jz,look]at J,fun k J=>by simp[jz]at J,fun _ k o J=>by simp[jz,look]at J,fun _ k o J=>by simp[jz,look]at J⟩
theorem FO{P:bp}{q:Bool}{n0:Nat}{g:b2}{A:cf}{x:iO}(h:iP P q n0 g A x):Cb q n0 g.i.mode g.i.dst A x:=by
 unfold iP at h;split at h
 ·exact Mk h
 ·split at h
  ·rcases h with⟨_,h⟩|⟨_,rfl⟩
   ·exact Mk h
   ·exact Ml _ _ _ _ _
  ·subst h;exact Ml _ _ _ _ _
  ·exact h.elim
theorem oW{A:cf}{x:iO}{k:aq}(h:look k x.bw=none):(A.do x).b k=A.b k:=by simp[cf.do,hd,h]
theorem nh{A:cf}{x:iO}{k:aq}(h:look k x.ew=none):(A.do x).e k=A.e k:=by simp[cf.do,hd,h]
theorem zz{A:cf}{x:iO}{k:aq}(h:(A.do x).b k=none):A.b k=none:=by
 simp only[cf.do,hd]at h;split at h
 ·cases h
 ·exact h
theorem zA{A:cf}{x:iO}{k:aq}(h:(A.do x).e k=none):A.e k=none:=by
 simp only[cf.do,hd]at h;split at h
 ·cases h
 ·exact h
theorem iu{α:Type}{o:aV α}(h:¬o.isSome):o=none:=by cases o<;>simp at h⊢
theorem Gq{P:bp}{q:Bool}{n0:Nat}{g:b2}{A A':cf}{x:iO}(h:iP P q n0 g A x)(au:nf g.looks A.t A'.t)(hm:cL P q n0 g.i A x->cL P q n0 g.i A' x):iP P q n0 g A' x:=by
 unfold iP at h⊢;cases aP:g.g with
 |none=>simp only[aP]at h⊢;exact hm h
 |some uW=>
  obtain⟨s,w⟩:=uW;have:A.t s=A'.t s:=au s (by simp[b2.looks,aP]);simp only[aP,this]at h⊢;split at h
  ·rcases h with⟨I,aa⟩|h
   ·exact .inl ⟨I,hm aa⟩
   ·exact .inr h
  ·exact h
  ·exact h
theorem Vz{P:bp}{q:Bool}{n0:Nat}{g h:b2}(Jh:vz g h=true){A:cf}{x y:iO}(ad:iP P q n0 g A x)(bk:iP P q n0 h (A.do x) y):
  iP P q n0 h A y/\iP P q n0 g (A.do y) x/\x.apart y:=by
 simp only[vz,bA]at Jh;obtain⟨⟨sD,vI⟩,hm⟩:=Jh;have b9:=FO ad;have b7:∀d ik,g.i.dst=some d->h.i.dst=some ik->d≠ik:=by intro d ik ah aE e;simp only[ah,bA,bne_iff_ne]at sD;exact sD.2 (by rw[aE,e])
 have z8:nf h.looks (A.do x).t A.t:=by intro i aB;simp only[cf.do];rw[be];intro e;rw[b9.d]at e;simp only[e,bA,oO,List.contains_eq_mem,decide_eq_false_iff_not]at sD;exact sD.1 aB
 have sJ:∀k,(look k x.bw).isSome->_:=b9.b;have hle:∀k,(look k x.ew).isSome->_:=b9.e;have Kb:iP P q n0 h A y:=by
  refine Gq bk z8 fun o7=>Gn o7 (fun i aB=>z8 i (by simp[b2.looks,aB])) (fun e k J af=>?_) (fun e k af=>?_) (fun e bj k o ag gh=>?_) (fun d aF Dz hE=>?_) (fun e k o ag=>?_) (fun e k=>?_) (fun e=>⟨fun m hE=>⟨hE.1.1,zz hE.2.1,zA hE.2.2⟩,fun k=>?_⟩) (fun e m hE=>⟨hE.1.1,zz hE.2.1,zA hE.2.2⟩) (fun e k o ag gh=>?_) (fun e m=>?_)
  ·rw[oW (iu fun ao=>?_)];rcases sJ k ao with⟨ah,_⟩|ah|⟨ah,⟨j,aE⟩,bg⟩|⟨ah,_⟩;rotate_left 3
   ·rw[e,ah]at hm;simp[dF]at hm
   ·rw[e,ah]at hm;simp[dF]at hm
   ·rw[e,ah]at hm;simp[dF]at hm
   ·rcases J with J|⟨m,J⟩
    ·rw[J]at bg;cases bg
    ·rw[J]at aE;cases aE
  ·rw[oW (iu fun ao=>?_)];rcases sJ k ao with⟨ah,_⟩|ah|⟨ah,_⟩|⟨ah,_⟩<;>(rw[e,ah]at hm;simp[dF]at hm)
  ·rw[e]at hm;cases fV:look k x.ew with
   |none=>rw[nh fV]at ag;exact ag
   |some o'=>
    exfalso;have DC:(A.do x).e k=some o':=by simp[cf.do,hd,fV]
    rw[DC]at ag;cases ag;rcases hle k (by simp[fV])with⟨ah,_⟩|⟨ah,_⟩|⟨ah,_,bg⟩|⟨ah,_⟩|ah
    ·exact gh (b9.xn (.inr ah) k _ fV)
    ·exact gh (b9.xn (.inl ah) k _ fV)
    ·rw[bj]at bg;cases bg
    ·rw[ah]at hm;simp[dF]at hm
    ·rw[ah]at hm;simp[dF]at hm
  ·exact⟨hE.1.1,zz hE.2.1,zA hE.2.2⟩
  ·rw[nh (iu fun ao=>?_)]at ag
   ·exact ag
   ·rw[e]at hm;rcases hle k ao with⟨ah,_⟩|⟨ah,_⟩|⟨ah,_⟩|⟨ah,_⟩|ah<;>(rw[ah]at hm;simp[dF]at hm)
  ·rw[oW (iu fun ao=>?_)];rw[e]at hm;rcases sJ k ao with⟨ah,_⟩|ah|⟨ah,_⟩|⟨ah,_⟩<;>(rw[ah]at hm;simp[dF]at hm)
  ·rw[nh (iu fun ao=>?_)];rw[e]at hm;rcases hle k ao with⟨ah,_⟩|⟨ah,_⟩|⟨ah,_⟩|⟨ah,_⟩|ah<;>(rw[ah]at hm;simp[dF]at hm)
  ·rw[e]at hm;cases fV:look k x.ew with
   |none=>rw[nh fV]at ag;exact ag
   |some o'=>
    exfalso;have DC:(A.do x).e k=some o':=by simp[cf.do,hd,fV]
    rw[DC]at ag;cases ag;rcases hle k (by simp[fV])with⟨ah,_⟩|⟨ah,_⟩|⟨ah,_⟩|⟨ah,_⟩|ah
    ·exact gh (b9.xn (.inr ah) k _ fV)
    ·rw[ah]at hm;simp[dF]at hm
    ·rw[ah]at hm;simp[dF]at hm
    ·rw[ah]at hm;simp[dF]at hm
    ·rw[ah]at hm;simp[dF]at hm
  ·rw[e]at hm;refine⟨?_,?_,fun ez=>ez.1⟩
   ·rw[oW (iu fun ao=>?_)];rcases sJ _ ao with⟨ah,d,_,aE,_⟩|ah|⟨ah,_⟩|⟨ah,_⟩;rotate_left 3
    ·rw[ah]at hm;simp[dF]at hm
    ·cases aE
    ·rw[ah]at hm;simp[dF]at hm
    ·rw[ah]at hm;simp[dF]at hm
   ·rw[nh (iu fun ao=>?_)];rcases hle _ ao with⟨ah,d,_,aE,_⟩|⟨ah,_⟩|⟨ah,_⟩|⟨ah,_⟩|ah
    ·cases aE
    ·rw[ah]at hm;simp[dF]at hm
    ·rw[ah]at hm;simp[dF]at hm
    ·rw[ah]at hm;simp[dF]at hm
    ·rw[ah]at hm;simp[dF]at hm
 have ty:=FO Kb;have I8:nf g.looks A.t (A.do y).t:=by intro i aB;simp only[cf.do];rw[be];intro e;rw[ty.d]at e;simp only[e,oO,List.contains_eq_mem,decide_eq_false_iff_not]at vI;exact vI aB
 refine⟨Kb,?_,?_⟩
 ·refine Gq ad I8 fun o7=>Gn o7 (fun i aB=>I8 i (by simp[b2.looks,aB])) (fun e k J af=>?_) (fun e k af=>?_) (fun e bj k o ag gh=>?_) (fun d aF Dz hE=>?_) (fun e k o ag=>?_) (fun e k=>?_) (fun e=>⟨fun m hE=>?_,fun k=>?_⟩) (fun e m hE=>?_) (fun e k o ag gh=>?_) (fun e m=>?_)
  ·refine oW (iu fun ao=>?_);rcases ty.b k ao with⟨ah,d,_,_,aE,_⟩|ah|⟨ah,⟨j,aE⟩,bg⟩|⟨_,_,aE,_⟩;rotate_left 3
   ·exact af aE
   ·exact af aE
   ·rw[e,ah]at hm;simp[dF]at hm
   ·rcases J with J|⟨m,J⟩
    ·rw[J]at bg;cases bg
    ·rw[J]at aE;cases aE
  ·refine oW (iu fun ao=>?_);rcases ty.b k ao with⟨ah,d,_,_,aE,_⟩|ah|⟨ah,_⟩|⟨_,_,aE,_⟩;rotate_left 3
   ·exact af aE
   ·exact af aE
   ·rw[e,ah]at hm;simp[dF]at hm
   ·rw[e,ah]at hm;simp[dF]at hm
  ·rw[nh (iu fun ao=>?_)]
   ·exact ag
   ·rcases ty.e k ao with⟨ah,d,_,_,_,aE⟩|⟨ah,aE⟩|⟨ah,_,bg⟩|⟨ah,_⟩|ah
    ·rw[aE]at ag;cases ag
    ·exact gh (ty.ex ah k o ao ag)
    ·rw[bj]at bg;cases bg
    ·rw[e,ah]at hm;simp[dF]at hm
    ·rw[e,ah]at hm;simp[dF]at hm
  ·refine⟨⟨hE.1,fun oY=>?_⟩,?_,?_⟩
   ·rcases ty.r _ oY with⟨ik,ah,aE⟩|⟨_,⟨j,aE⟩,_⟩
    ·simp only[aq.loc.injEq]at aE;exact b7 d ik aF ah Ω
    ·cases aE
   ·rw[oW (iu fun ao=>?_)]
    ·exact hE.2.1
    ·rcases ty.b _ ao with⟨ah,ik,aE,bg,_⟩|ah|⟨ah,⟨j,aE⟩,_⟩|⟨ah,⟨j,aE⟩,_⟩;rotate_left 3
     ·cases aE
     ·simp only[aq.loc.injEq]at bg;exact b7 d ik aF aE Ω
     ·rcases Dz with aE|aE|aE|aE<;>(rw[ah,aE]at hm;simp[dF]at hm)
     ·cases aE
   ·rw[nh (iu fun ao=>?_)]
    ·exact hE.2.2
    ·rcases ty.e _ ao with⟨ah,ik,aE,bg,_⟩|⟨ah,aE⟩|⟨ah,⟨j,aE⟩,_⟩|⟨ah,o,aE,_⟩|ah;rotate_left 4
     ·rcases Dz with aE|aE|aE|aE<;>(rw[ah,aE]at hm;simp[dF]at hm)
     ·simp only[aq.loc.injEq]at bg;exact b7 d ik aF aE Ω
     ·rcases aE with aE|⟨ik,aE,bg,_⟩
      ·exact aE hE.2.2
      ·simp only[aq.loc.injEq]at bg;exact b7 d ik aF aE Ω
     ·cases aE
     ·rw[hE.2.2]at aE;cases aE
  ·rw[nh (iu fun ao=>?_)]
   ·exact ag
   ·rw[e]at hm;rcases ty.e k ao with⟨ah,d,_,_,_,aE⟩|⟨ah,_⟩|⟨ah,_⟩|⟨ah,_⟩|ah
    ·rw[aE]at ag;cases ag
    ·rw[ah]at hm;simp[dF]at hm
    ·rw[ah]at hm;simp[dF]at hm
    ·rw[ah]at hm;simp[dF]at hm
    ·rw[ah]at hm;simp[dF]at hm
  ·refine oW (iu fun ao=>?_);rw[e]at hm;rcases ty.b k ao with⟨ah,_⟩|ah|⟨ah,_⟩|⟨ah,_⟩<;>(rw[ah]at hm;simp[dF]at hm)
  ·rw[e]at hm;refine⟨⟨hE.1,fun oY=>?_⟩,?_,?_⟩
   ·rcases ty.r _ oY with⟨ik,ah,aE⟩|⟨ah|ah|ah,_⟩
    ·cases aE
    ·rw[ah]at hm;simp[dF]at hm
    ·rw[ah]at hm;simp[dF]at hm
    ·rw[ah]at hm;simp[dF]at hm
   ·rw[oW (iu fun ao=>?_)]
    ·exact hE.2.1
    ·rcases ty.b _ ao with⟨ah,d,_,aE,_⟩|ah|⟨ah,_⟩|⟨ah,_⟩
     ·cases aE
     all_goals(rw[ah]at hm;simp[dF]at hm)
   ·rw[nh (iu fun ao=>?_)]
    ·exact hE.2.2
    ·rcases ty.e _ ao with⟨ah,_⟩|⟨ah,_⟩|⟨ah,_⟩|⟨ah,_⟩|ah<;>(rw[ah]at hm;simp[dF]at hm)
  ·rw[nh (iu fun ao=>?_)];rw[e]at hm;rcases ty.e _ ao with⟨ah,_⟩|⟨ah,_⟩|⟨ah,_⟩|⟨ah,_⟩|ah<;>(rw[ah]at hm;simp[dF]at hm)
  ·rw[e]at hm;refine⟨⟨hE.1,fun oY=>?_⟩,?_,?_⟩
   ·rcases ty.r _ oY with⟨ik,ah,aE⟩|⟨ah|ah|ah,_⟩
    ·cases aE
    ·rw[ah]at hm;simp[dF]at hm
    ·rw[ah]at hm;simp[dF]at hm
    ·rw[ah]at hm;simp[dF]at hm
   ·rw[oW (iu fun ao=>?_)]
    ·exact hE.2.1
    ·rcases ty.b _ ao with⟨ah,_⟩|ah|⟨ah,_⟩|⟨ah,_⟩<;>(rw[ah]at hm;simp[dF]at hm)
   ·rw[nh (iu fun ao=>?_)]
    ·exact hE.2.2
    ·rcases ty.e _ ao with⟨ah,_⟩|⟨ah,_⟩|⟨ah,_⟩|⟨ah,o,aE,_⟩|ah
     ·rw[ah]at hm;simp[dF]at hm
     ·rw[ah]at hm;simp[dF]at hm
     ·rw[ah]at hm;simp[dF]at hm
     ·rw[hE.2.2]at aE;cases aE
     ·rw[ah]at hm;simp[dF]at hm
  ·rw[nh (iu fun ao=>?_)]
   ·exact ag
   ·rw[e]at hm;rcases ty.e k ao with⟨ah,d,_,_,_,aE⟩|⟨ah,_⟩|⟨ah,_⟩|⟨ah,_⟩|ah
    ·rw[aE]at ag;cases ag
    ·rw[ah]at hm;simp[dF]at hm
    ·rw[ah]at hm;simp[dF]at hm
    ·rw[ah]at hm;simp[dF]at hm
    ·rw[ah]at hm;simp[dF]at hm
  ·rw[e]at hm;refine⟨?_,?_,fun ez=>⟨ez,fun oY=>?_⟩⟩;rotate_left 2
   ·rcases ty.r _ oY with⟨ik,_,aE⟩|⟨aE|aE|aE,_⟩
    ·cases aE
    ·rw[aE]at hm;simp[dF]at hm
    ·rw[aE]at hm;simp[dF]at hm
    ·rw[aE]at hm;simp[dF]at hm
   ·refine oW (iu fun ao=>?_);rcases ty.b _ ao with⟨ah,d,_,aE,_⟩|ah|⟨ah,_⟩|⟨ah,_⟩;rotate_left 3
    ·rw[ah]at hm;simp[dF]at hm
    ·cases aE
    ·rw[ah]at hm;simp[dF]at hm
    ·rw[ah]at hm;simp[dF]at hm
   ·refine nh (iu fun ao=>?_);rcases ty.e _ ao with⟨ah,d,_,aE,_⟩|⟨ah,_⟩|⟨ah,_⟩|⟨ah,_⟩|ah
    ·cases aE
    ·rw[ah]at hm;simp[dF]at hm
    ·rw[ah]at hm;simp[dF]at hm
    ·rw[ah]at hm;simp[dF]at hm
    ·rw[ah]at hm;simp[dF]at hm
 ·refine⟨fun i aB e=>?_,fun k J=>iu fun ao=>?_,fun k J=>iu fun ao=>?_⟩
  ·rw[b9.d]at aB;rw[ty.d]at e;exact b7 i i aB e rfl
  ·rcases sJ k J with⟨bt,d,a2,a3,_⟩|bt|⟨bt,⟨j,a2⟩,_⟩|⟨bt,_⟩<;>rcases ty.b k ao with⟨bS,ik,bY,fk,_⟩|bS|⟨bS,⟨dj,bY⟩,_⟩|⟨bS,⟨dj,bY⟩,_⟩;all_goals first|(rw[bt,bS]at hm;simp[dF]at hm;done)|skip
   ·rw[a3]at fk;simp only[aq.loc.injEq]at fk;exact b7 d ik a2 bY Ω
   ·rw[a3]at bY;cases bY
   ·rw[a3]at bY;cases bY
   ·rw[a2]at fk;cases fk
  ·rcases hle k J with⟨bt,d,a2,a3,_,a4⟩|⟨bt,a2⟩|⟨bt,⟨j,a2⟩,_⟩|⟨bt,kd,a2,_⟩|bt<;>rcases ty.e k ao with⟨bS,ik,bY,fk,_,Ch⟩|⟨bS,bY⟩|⟨bS,⟨dj,bY⟩,_⟩|⟨bS,iH,bY,_⟩|bS;all_goals first|(rw[bt,bS]at hm;simp[dF]at hm;done)|skip
   ·rw[a3]at fk;simp only[aq.loc.injEq]at fk;exact b7 d ik a2 bY Ω
   ·rw[a3]at bY;cases bY
   ·rw[a4]at bY;cases bY
   ·rcases a2 with a2|⟨d,a2,a3,_⟩
    ·exact a2 Ch
    ·rw[a3]at fk;simp only[aq.loc.injEq]at fk;exact b7 d ik a2 bY Ω
   ·rw[a2]at fk;cases fk
   ·rw[Ch]at a2;cases a2
def pV(C:dh)(A:cf)(a:Act)(w:World):Prop:= ∃st ν,jC st A/\(∀k,A.F k->fresh st.n st.o k)/\bH C st a w ν
theorem Em{st:aN}{A:cf}(h:jC st A)(d:Nat)(p:ab):jC {st with t:=put d p st.t} (A.do ⟨some d,p,[],[],none⟩):=by
 refine⟨fun i=>?_,fun k=>?_,fun k=>?_⟩
 ·simp only[cf.do,nn,dv,h.t]
 ·simpa[cf.do,hd,look]using h.b k
 ·simpa[cf.do,hd,look]using h.e k
theorem Kp{st:aN}{A:cf}(h:jC st A)(d:Nat)(p:ab)(o':List aq)(rm:aV aq):jC {st with t:=put d p st.t,o:=o'} (A.do ⟨some d,p,[],[],rm⟩):=by have:=Em h d p;exact⟨this.t,this.b,this.e⟩
theorem MG{α:Type}{β:Type}:∀l:List (aq×α),bs ([]:List (aq×β)) l=l
 |[]=>rfl
 |(k,x)::r=>by simp[bs,look,MG r]
theorem wa{st:aN}{A:cf}(h:jC st A)(d:Nat)(p:ab)(κ:aq)(cs:List ab)(n':Nat)(o':List aq)(rm:aV aq):jC ⟨put d p st.t,ck κ cs st.b,st.e,n',o'⟩ (A.do ⟨some d,p,[(κ,cs)],[],rm⟩):=by
 refine⟨fun i=>?_,fun k=>?_,fun k=>?_⟩
 ·simp only[cf.do,nn,dv,h.t]
 ·simp only[cf.do,hd,look,hJ,h.b];by_cases e:κ=k<;>simp[e]
 ·simpa[cf.do,hd,look]using h.e k
theorem AT{st:aN}{A:cf}(h:jC st A)(κ:aq)(cs:List ab)(p:ab):jC {st with b:=ck κ cs st.b} (A.do ⟨none,p,[(κ,cs)],[],none⟩):=by
 refine⟨fun i=>?_,fun k=>?_,fun k=>?_⟩
 ·simpa[cf.do]using h.t i
 ·simp only[cf.do,hd,look,hJ,h.b];by_cases e:κ=k<;>simp[e]
 ·simpa[cf.do,hd,look]using h.e k
theorem mM{st:aN}{A:cf}(h:jC st A)(d:Nat)(p:ab)(κ:aq)(o:cq)(n':Nat)(o':List aq)(rm:aV aq):jC ⟨put d p st.t,st.b,ck κ o st.e,n',o'⟩ (A.do ⟨some d,p,[],[(κ,o)],rm⟩):=by
 refine⟨fun i=>?_,fun k=>?_,fun k=>?_⟩
 ·simp only[cf.do,nn,dv,h.t]
 ·simpa[cf.do,hd,look]using h.b k
 ·simp only[cf.do,hd,look,hJ,h.e];by_cases e:κ=k<;>simp[e]
theorem Ko{st:aN}{A:cf}(h:jC st A)(κ:aq)(o:cq)(p:ab):jC {st with e:=ck κ o st.e} (A.do ⟨none,p,[],[(κ,o)],none⟩):=by
 refine⟨fun i=>?_,fun k=>?_,fun k=>?_⟩
 ·simpa[cf.do]using h.t i
 ·simpa[cf.do,hd,look]using h.b k
 ·simp only[cf.do,hd,look,hJ];by_cases e:κ=k<;>simp[e,h.e]
theorem Ex{α:Type}{k:aq}:∀{l:List (aq×α)},k∈l.map (·.1)->(look k l).isSome
 |[],h=>by simp at h
 |(i,x)::r,h=>by
  simp only[look];split
  ·rfl
  ·rename_i e;simp only[gZ,gp]at h;rcases h with h|h
   ·exact absurd h.symm e
   ·exact Ex h
theorem p4{n:Nat}{o:List aq}{κ:aq}:∀j,fresh n (κ::o) j->fresh n o j/\j≠κ:=by intro j av;simp only[fresh,gp,not_or]at av⊢;exact⟨⟨av.1,av.2.2⟩,av.2.1⟩
theorem Qk{n:Nat}{o:List aq}{κ j:aq}(h:fresh n o j)(av:some κ≠some j):fresh n (κ::o) j:=by simp only[fresh,gp,not_or]at h⊢;exact⟨h.1,fun e=>av (by rw[e]),h.2⟩
theorem Gp{P:bp}{aW:List (Nat×cm)}(au:dJ P aW=true){C:dh}{q:Bool}{n0:Nat}{i:cY}{o:Oper}(ag:pH C.N aW i o=true){A:cf}{x:iO}(ad:cL P q n0 i A x){a:Act}{w:World}(hr:pV C A a w)
  {K:Act->World->Prop} {Q:Exit->Act->World->Prop} (cl:∀bE w',pV C (A.do x) bE w'->K bE w'):o.wp P a w K Q:=by
 obtain⟨st,ν,aA,ez,hr⟩:=hr;have sy:∀(t:List (Nat×ab)) (b:List (aq×List ab)) (e:List (aq×cq)) (d:aV Nat) (p:ab) (bw:List (aq×List ab)) (ew:List (aq×cq)),∀k,(A.do ⟨d,p,bw,ew,none⟩).F k->fresh st.n st.o k:=fun t b e d p bw ew k J=>ez k J.1;have k1:∀(d:aV Nat) (p:ab) (bw:List (aq×List ab)) (ew:List (aq×cq)) (κ:aq),∀k,(A.do ⟨d,p,bw,ew,some κ⟩).F k->fresh st.n (κ::st.o) k:=fun d p bw ew κ k J=>Qk (ez k J.1) J.2;cases i with
 |s i=>
  have fM:oD C.N aW i o=true:=by simpa only[pH]using ag
  cases i with
  |v d i=>simp only[cL]at ad;obtain⟨c,p,I,aa,_,rfl⟩:=ad;rw[<-Ms aA]at I;refine hq (κ:= .loc 0) (n':=0) (o₁:=[]) au hr fM (fun h=>by simp[cX.makes]at h) (fun h=>by simp[cX.makes]at h) (st':={st with t:=put d p st.t}) (by simp only[dn,I]) aa fun bE w' ν' b6=>cl _ _ ⟨_,ν',Em aA d p,fun k J=>ez k J.1,b6⟩
  |box d key v=>
   cases key with
   |some m=>simp only[cL]at ad
   |none=>simp only[cL]at ad;obtain⟨⟨I,_⟩,aa,rfl⟩:=ad;rw[<-gF aA]at aa;refine hq (κ:= .loc (n0+d)) (n':=st.n) (o₁:= .loc (n0+d)::st.o) au hr fM (fun _=>ez _ I) (fun _=>p4) (st':=⟨put d (.ptr (.loc (n0+d)) 0) st.t,ck (.loc (n0+d)) (cells (bh st.t v)) st.b,st.e,st.n,.loc (n0+d)::st.o⟩) (by simp only[dn]) aa fun bE w' ν' b6=>cl _ _ ⟨_,ν',?_,k1 _ _ _ _ _,b6⟩;rw[gF aA];exact wa aA d _ _ _ _ _ _
  |alloc d key z=>
   cases key with
   |some m=>simp only[cL]at ad
   |none=>simp only[cL]at ad;obtain⟨⟨I,_⟩,rfl⟩:=ad;refine hq (κ:= .loc (n0+d)) (n':=st.n) (o₁:= .loc (n0+d)::st.o) au hr fM (fun _=>ez _ I) (fun _=>p4) (st':=⟨put d (.ptr (.loc (n0+d)) 0) st.t,ck (.loc (n0+d)) (cells z) st.b,st.e,st.n,.loc (n0+d)::st.o⟩) (by simp only[dn]) trivial fun bE w' ν' b6=>cl _ _ ⟨_,ν',wa aA d _ _ _ _ _ _,k1 _ _ _ _ _,b6⟩
  |store sz u v=>simp only[cL]at ad;obtain⟨k,off,cs,I,aa,ak,rfl⟩:=ad;rw[<-gF aA]at I ak;rw[<-aA.b]at aa;refine hq (κ:= .loc 0) (n':=0) (o₁:=[]) au hr fM (fun h=>by simp[cX.makes]at h) (fun h=>by simp[cX.makes]at h) (st':={st with b:=ck k (me cs off (cells (bh st.t v))) st.b}) (by simp only[dn,I,aa]) ak fun bE w' ν' b6=>cl _ _ ⟨{st with b:=ck k (me cs off (cells (bh st.t v))) st.b},ν',by rw[gF aA];exact AT aA k _ _,fun k J=>ez k J.1,b6⟩
  |bsl d sz el xs=>simp only[cL]at ad;obtain⟨⟨I,_⟩,aa,rfl⟩:=ad;rw[<-nl aA]at aa;refine hq (κ:= .loc (n0+d)) (n':=st.n) (o₁:= .loc (n0+d)::st.o) au hr fM (fun _=>ez _ I) (fun _=>p4) (st':=⟨put d (.slice sz (.own (.loc (n0+d))) (xs.map (bh st.t))) st.t,st.b,ck (.loc (n0+d)) ⟨xs.length,el,sz,none⟩ st.e,st.n,.loc (n0+d)::st.o⟩) (by simp only[dn]) aa fun bE w' ν' b6=>cl _ _ ⟨_,ν',?_,k1 _ _ _ _ _,b6⟩;rw[nl aA];exact mM aA d _ _ _ _ _ _
  |app d sz el u v=>
   simp only[cL]at ad;obtain⟨tag,xs,fF,ys,I,aa,ad⟩:=ad;rw[<-gF aA]at I aa;rcases ad with⟨k,ow,rfl,ak,aK,rfl⟩|⟨rfl,ak,⟨aK,_⟩,rfl⟩
   ·rw[<-aA.e]at ak;refine hq (κ:= .loc 0) (n':=0) (o₁:=[]) au hr fM (fun h=>by simp[cX.makes,I]at h) (fun h=>by simp[cX.makes,I]at h) (st':=⟨put d (.slice sz (.own k) (xs++ys)) st.t,st.b,ck k ⟨xs.length+ys.length,el,sz,none⟩ st.e,st.n,st.o⟩) (by simp only[dn,I,aa,ak,and_self,if_true]) aK.2 fun bE w' ν' b6=>cl _ _ ⟨_,ν',mM aA d _ _ _ _ _ _,fun k J=>ez k J.1,b6⟩
   ·refine hq (κ:= .loc (n0+d)) (n':=st.n) (o₁:= .loc (n0+d)::st.o) au hr fM (fun _=>ez _ aK) (fun _=>p4) (st':=⟨put d (.slice sz (.own (.loc (n0+d))) ys) st.t,st.b,ck (.loc (n0+d)) ⟨ys.length,el,sz,none⟩ st.e,st.n,.loc (n0+d)::st.o⟩) (by simp only[dn,I,aa,and_self,if_true]) ak fun bE w' ν' b6=>cl _ _ ⟨_,ν',mM aA d _ _ _ _ _ _,k1 _ _ _ _ _,b6⟩
  |bslm d key sz el xs=>
   cases key with
   |none=>simp only[cL]at ad
   |some m=>simp only[cL]at ad;obtain⟨⟨I,_⟩,aa,rfl⟩:=ad;rw[<-nl aA]at aa;refine hq (κ:= .obj m) (n':=st.n) (o₁:= .obj m::st.o) au hr fM (fun _=>ez _ I) (fun _=>p4) (st':=⟨put d (.row sz (.obj m) xs.length) st.t,st.b,ck (.obj m) ⟨xs.length,el,sz,some (xs.map (bh st.t))⟩ st.e,st.n,.obj m::st.o⟩) (by simp only[dn]) aa fun bE w' ν' b6=>cl _ _ ⟨_,ν',?_,k1 _ _ _ _ _,b6⟩;rw[nl aA];exact mM aA d _ _ _ _ _ _
  |mks d key sz el z x=>simp only[cL]at ad
  |apps d el x y=>simp only[cL]at ad
  |appm d key sz el u v=>
   cases key with
   |some m=>
    simp only[cL]at ad;rcases ad with⟨k,n,xs,fF,ys,I,aa,ak,aK,rfl⟩|⟨xs,fF,ys,I,aa,⟨ak,_⟩,aK,rfl⟩
    ·rw[<-gF aA]at I aa;rw[<-aA.e]at ak;exact hq (κ:= .loc 0) (n':=0) (o₁:=[]) au hr fM (fun h=>by simp[cX.makes,I]at h) (fun h=>by simp[cX.makes,I]at h) (st':=⟨put d (.row sz k (xs.length+ys.length)) st.t,st.b,ck k ⟨xs.length+ys.length,el,sz,some (xs++ys)⟩ st.e,st.n,st.o⟩) (by simp only[dn,ko,I,aa,ak,and_self,if_true]) aK fun bE w' ν' b6=>cl _ _ ⟨_,ν',mM aA d _ _ _ _ _ _,fun k J=>ez k J.1,b6⟩
    rw[<-gF aA]at I aa;refine hq (κ:= .obj m) (n':=st.n) (o₁:= .obj m::st.o) au hr fM (fun _=>ez _ ak) (fun _=>p4) (st':=⟨put d (.row sz (.obj m) ys.length) st.t,st.b,ck (.obj m) ⟨ys.length,el,sz,some ys⟩ st.e,st.n,.obj m::st.o⟩) (by simp only[dn,ko,I,aa,and_self,if_true]) aK fun bE w' ν' b6=>cl _ _ ⟨_,ν',mM aA d _ _ _ _ _ _,k1 _ _ _ _ _,b6⟩
   |none=>
   simp only[cL]at ad;obtain⟨k,n,xs,fF,ys,I,aa,ak,aK,rfl⟩:=ad;rw[<-gF aA]at I aa;rw[<-aA.e]at ak;refine hq (κ:= .loc 0) (n':=0) (o₁:=[]) au hr fM (fun h=>by simp[cX.makes,I]at h) (fun h=>by simp[cX.makes,I]at h) (st':=⟨put d (.row sz k (xs.length+ys.length)) st.t,st.b,ck k ⟨xs.length+ys.length,el,sz,some (xs++ys)⟩ st.e,st.n,st.o⟩) (by simp only[dn,ko,I,aa,ak,and_self,if_true]) aK fun bE w' ν' b6=>cl _ _ ⟨_,ν',mM aA d _ _ _ _ _ _,fun k J=>ez k J.1,b6⟩
  |storeE sz u v=>simp only[cL]at ad;obtain⟨k,n,i,f,el,cD,xs,q,I,aa,ak,aK,rfl⟩:=ad;rw[<-gF aA]at I aK;rw[<-aA.e]at aa;refine hq (κ:= .loc 0) (n':=0) (o₁:=[]) au hr fM (fun h=>by simp[cX.makes]at h) (fun h=>by simp[cX.makes]at h) (st':={st with e:=ck k ⟨n,el,cD,some (xs.set i (oC q f (cells (bh st.t v))))⟩ st.e}) (by simp only[dn,oF,I,aa,ak,and_self,if_true]) aK fun bE w' ν' b6=>cl _ _ ⟨{st with e:=ck k ⟨n,el,cD,some (xs.set i (oC q f (cells (bh st.t v))))⟩ st.e},ν',by rw[gF aA];exact Ko aA k _ _,fun k J=>ez k J.1,b6⟩
  |mkmap d key=>
   cases key with
   |none=>simp only[cL]at ad
   |some m=>simp only[cL]at ad;obtain⟨⟨I,_⟩,rfl⟩:=ad;refine hq (κ:= .obj m) (n':=st.n) (o₁:= .obj m::st.o) (hB:=fun e=>GL fM (by cases e;rfl)) au hr fM (fun _=>ez _ I) (fun _=>p4) (st':=⟨put d (.gmap (.obj m)) st.t,ck (.obj m) [.hdm 0 []] st.b,st.e,st.n,.obj m::st.o⟩) (by simp only[dn]) trivial fun bE w' ν' b6=>cl _ _ ⟨_,ν',wa aA d _ _ _ _ _ _,k1 _ _ _ _ _,b6⟩
  |mput bD u k v=>simp only[cL]at ad;obtain⟨m,cs,cs',I,aa,ak,rfl⟩:=ad;rw[<-gF aA]at I;rw[<-gF aA,<-gF aA]at ak;rw[<-aA.b]at aa;exact hq (κ:= .loc 0) (n':=0) (o₁:=[]) au hr fM (fun h=>by simp[cX.makes]at h) (fun h=>by simp[cX.makes]at h) (st':={st with b:=ck m cs' st.b}) (by simp only[dn,I,aa,ak]) trivial fun bE w' ν' b6=>cl _ _ ⟨{st with b:=ck m cs' st.b},ν',AT aA m _ _,fun k J=>ez k J.1,b6⟩
  |range d key x=>simp only[cL]at ad
 |next d x=>simp only[cL]at ad
 |opn d f x=>simp only[cL]at ad
 |callb d f=>simp only[cL]at ad
 |call d f xs=>
  simp only[cL]at ad;obtain⟨n,cG,I,ad⟩:=ad;rw[<-gF aA]at I;rcases ad with⟨⟨s,aj,r,rm,cM,c2,c3,c4,c5,mv,xi,rfl⟩,_⟩|⟨fa,r,rfl,cM,c2,c3,rfl⟩;rotate_left
  ·rw[<-nl aA]at c2 c3;simp only[pH]at ag;split at ag
   ·rename_i gG args ts hI;simp only[bA,df]at ag;obtain⟨⟨⟨ah,aE⟩,bg⟩,cB⟩:=ag;have kz:=da hr bg;rw[I]at kz;obtain⟨nN,gf,hC⟩:=Fk (dJ.sz au) hI kz (uM hr cB);refine Ht hr ah aE gf hC (K:=fun st'=>st'={st with t:=put fa r st.t,o:= .loc (n0+fa)::st.o}) ⟨⟨[],[]⟩,_,some (n0+fa),st.n,fun _=>.loc (n0+fa)::st.o,fun k cs J=>by simp[look]at J,fun k cs J=>by simp[look]at J,⟨fun _=>rfl,fun _=>rfl⟩,lF (fun _ h=>h.elim) _ c2,c3,fun m hm=>?_,fun k cv aj bj J=>?_,?_⟩ ?_
    ·cases hm;exact ez _ cM.1
    ·obtain⟨_,rfl⟩:=bj;have:=p4 k J;exact⟨by simpa[dG]using this.1,fun m hm=>by cases hm;exact this.2⟩
    ·rintro cv mc ⟨rfl,rfl⟩;refine⟨⟨fun m hm=>by simp[look]at hm,fun m hm=>by simp[look]at hm⟩,?_⟩;simp[after,MG,eD]
    ·rintro st' bE w' ν' rfl b6;exact cl _ _ ⟨_,ν',Kp aA fa r _ _,k1 _ _ _ _ _,b6⟩
   ·cases ag
  rw[<-nl aA]at mv xi;simp only[pH]at ag;split at ag
  ·rename_i gG args ts hI;simp only[bA,df]at ag;obtain⟨⟨⟨ah,aE⟩,bg⟩,cB⟩:=ag;have kz:=da hr bg;rw[I]at kz;obtain⟨cu,cI,gI,ju,ov⟩:=c5;refine Hs (dJ.sz au) hr hI ah aE kz (uM hr cB) (K:=fun st'=>st'=after st s aj d r) (.inl ⟨s,_,fun k cs J=>⟨by rw[aA.b];exact(cM k cs J).1,.inl (by simp[J]),(cM k cs J).2⟩,fun k o' J=>⟨by rw[aA.e];exact(c2 k o' J).1,.inr (by simp[J]),(c2 k o' J).2⟩,c3,mv,xi,?_⟩) ?_
   ·rintro cv mc ⟨rfl,rfl⟩;refine⟨⟨fun m hm=>?_,fun m hm=>?_⟩,rfl⟩
    ·rcases cu _ hm with h|h
     ·exact .inl h
     ·exact .inr (ez _ (ov _ h).2.1).2
    ·rcases cI _ hm with h|h
     ·exact .inl h
     ·exact .inr (ez _ (ov _ h).2.1).2
   ·rintro st' bE w' ν' rfl b6;refine cl _ _ ⟨_,ν',⟨fun i=>?_,fun k=>?_,fun k=>?_⟩,fun k J=>?_,b6⟩
    ·simp only[after,cf.do];cases d with
     |none=>simpa[eD]using aA.t i
     |some d=>simp only[eD,nn,dv,aA.t]
    ·simp only[after,cf.do,hd,kH,pz];by_cases ao:(look k s.b).isSome
     ·have:=gI k ao;obtain⟨y,bk⟩:=ei.1 this;simp[ao,bk]
     ·cases aR:look k aj.b with
      |none=>simp only[ao,aA.b];cases A.b k<;>simp
      |some y=>
       rcases cu k (by simp[aR])with h|h
       ·exact absurd h ao
       ·have:=ov k h;simp[ao,aA.b,this]
    ·simp only[after,cf.do,hd,kH,pz];by_cases ao:(look k s.e).isSome
     ·have:=ju k ao;obtain⟨y,bk⟩:=ei.1 this;simp[ao,bk]
     ·cases aR:look k aj.e with
      |none=>simp only[ao,aA.e];cases A.e k<;>simp
      |some y=>
       rcases cI k (by simp[aR])with h|h
       ·exact absurd h ao
       ·have:=ov k h;simp[ao,aA.e,this]
    ·have Dp:=ez k J.1;have h3:=hr.lookNone Dp;simp only[after];refine⟨Dp.1,fun hT=>?_⟩;rcases ha.1 hT with hT|hT
     ·exact Dp.2 hT
     ·rcases ha.1 hT with hT|hT
      ·rcases cu k (Ex hT)with h|h
       ·obtain⟨y,bk⟩:=ei.1 h;have:=(cM k y bk).1;rw[<-aA.b,h3.1]at this;cases this
       ·exact J.2 h
      ·rcases cI k (Ex hT)with h|h
       ·obtain⟨y,bk⟩:=ei.1 h;have:=(c2 k y bk).1;rw[<-aA.e,h3.2]at this;cases this
       ·exact J.2 h
  ·cases ag
theorem Gr{P:bp}{aW:List (Nat×cm)}(au:dJ P aW=true){C:dh}{q:Bool}{n0:Nat}{ops:Array Oper}{g:b2}{o:Oper}{j:Nat}(av:ops[j]? =some o)(ag:xF C.N aW ops.toList g o=true){A:cf}{x:iO}(ad:iP P q n0 g A x){a:Act}{w:World}(hr:pV C A a w)
  {K:Act->World->Prop} {Q:Exit->Act->World->Prop} (cl:∀bE w',pV C (A.do x) bE w'->K bE w'):wpOp P ops Q j K a w:=by
 unfold wpOp;rw[av];simp only;simp only[xF,bA]at ag;obtain⟨kA,vK⟩:=ag;unfold iP at ad;cases xT:g.g with
 |none=>
  cases ea:o.guard with
  |some x=>simp[ea,xT]at kA
  |none=>
   have hw:mi o (yielded ops a.tmps)=true:=by simp[mi,ea]
   rw[if_pos hw];simp only[xT]at ad;exact .inl (Gp au vK ad hr cl)
 |some uW=>
  obtain⟨s,want⟩:=uW;cases ea:o.guard with
  |none=>simp[ea,xT]at kA
  |some Wv=>
   obtain⟨YR,fh⟩:=Wv;simp only[ea,xT,bA,df,fH]at kA;obtain⟨⟨⟨⟨rfl,aa⟩,ak⟩,aK⟩,bb⟩:=kA;obtain⟨st,ν,aA,ez,bG⟩:=id hr;obtain⟨F9,Ga⟩:=MM bG aa ak;simp only[xT]at ad;have JI:∀(h:x=jz g.i.dst),K (a.put o.dst undef) w:=by
    rintro rfl;rw[aK];refine cl _ _ ⟨_,ν,?_,fun k J=>?_,bG.put bb (p:= .tuple []) (by simp[aw,bP,undef])⟩
    ·refine⟨fun i=>?_,fun k=>?_,fun k=>?_⟩
     ·simp only[cf.do,jz];cases g.i.dst with
      |none=>simpa[eD]using aA.t i
      |some d=>simp only[eD,nn,dv,aA.t]
     ·simpa[cf.do,hd,look,jz]using aA.b k
     ·simpa[cf.do,hd,look,jz]using aA.e k
    ·exact ez k J.1
   split at ad
   ·rename_i b af;have bk:=F9 b (by rw[aA.t];exact af);rcases ad with⟨rfl,ad⟩|⟨rfl,ad⟩
    ·have hw:mi o (yielded ops a.tmps)=true:=by simp[mi,ea,bk]
     rw[if_pos hw];exact .inl (Gp au vK ad hr cl)
    ·have hw:¬(mi o (yielded ops a.tmps)=true):=by simp[mi,ea,bk]
     rw[be hw];exact JI ad
   ·rename_i af;have bk:=Ga (by rw[aA.t];exact af);have hw:¬(mi o (yielded ops a.tmps)=true):=by simp[mi,ea,bk]
    rw[be hw];exact JI ad
   ·exact ad.elim
def pY(P:bp)(q:Bool)(n0:Nat)(K:cf->Prop):List (Nat×b2)->cf->Prop
 |[],A=>K A
 |(_,g)::r,A=> ∃x,iP P q n0 g A x/\pY P q n0 K r (A.do x)
theorem Ci{P:bp}{q:Bool}{n0:Nat}{K:cf->Prop}{i:Nat}{g:b2}:∀(kl kT:List (Nat×b2)) (A:cf),(∀x∈kl,vz x.2 g=true)->pY P q n0 K (kl++(i,g)::kT) A->∃x,iP P q n0 g A x/\pY P q n0 K (kl++kT) (A.do x)
 |[],kT,A,_,h=>h
 |(j,IL)::kl,kT,A,az,h=>by simp only[eI,pY]at h;obtain⟨y,bk,h⟩:=h;obtain⟨x,ad,h⟩:=Ci kl kT (A.do y) (fun z eB=>az z (List.mem_cons_of_mem _ eB)) h;obtain⟨s1,s2,Fs⟩:=Vz (az _ (List.mem_cons_self ..)) bk ad;refine⟨x,s1,y,s2,?_⟩;rw[<-cf.do_comm A Fs];exact h
def rem(listed:Array Bool):Nat->List b2->List (Nat×b2)
 |_,[]=>[]
 |k,g::r=>if listed.getD k false then rem listed (k+1) r else(k,g)::rem listed (k+1) r
theorem Lt{l fE:Array Bool}:∀(gs:List b2) (k:Nat),(∀j,k<=j->l.getD j false=fE.getD j false)->rem l k gs=rem fE k gs
 |[],_,_=>rfl
 |g::r,k,h=>by simp only[rem,h k (cE _),Lt r (k+1) fun j av=>h j Ω]
theorem sn{l:Array Bool}{i j:Nat}(h:i<l.size):(l.setIfInBounds i true).getD j false=if i=j then true else l.getD j false:=by
 simp only[mg];by_cases e:i=j
 ·subst e;simp[h]
 ·simp[e]
theorem yO{l:Array Bool}{i:Nat}(aB:i<l.size)(aR:l.getD i false=false):∀(gs:List b2) (k:Nat),k<=i->i<k+gs.length->∃kl kT g,gs[i-k]? =some g/\rem l k gs=kl++(i,g)::kT/\rem (l.setIfInBounds i true) k gs=kl++kT/\
  ∀x∈kl,gs[x.1-k]? =some x.2/\k<=x.1/\x.1<i/\l.getD x.1 false=false
 |[],k,I,aa=>by simp at aa;omega
 |g::r,k,I,aa=>by
  by_cases e:k=i
  ·subst e;refine⟨[],rem l (k+1) r,g,Ψ,by simp[rem,aR],?_,fun x ad=>by simp at ad⟩;simp only[rem,sn aB,if_true,fx];exact Lt r (k+1) fun j av=>by rw[sn aB,be Ω]
  ·obtain⟨kl,kT,dH,ah,aE,bg,cB⟩:=yO aB aR r (k+1) Ω (by simp at aa;omega);have jm:i-k=(i-(k+1))+1:=Ω
   have k3:(l.setIfInBounds i true).getD k false=l.getD k false:=by rw[sn aB,be Ω]
   by_cases J:l.getD k false=true
   ·refine⟨kl,kT,dH,by rw[jm];simpa using ah,by simp only[rem,J,if_true,aE],by simp only[rem,k3,J,if_true,bg],fun x ad=>?_⟩;obtain⟨f1,f2,f3,f4⟩:=cB x ad;refine⟨?_,Ω,f3,f4⟩;have:x.1-k=(x.1-(k+1))+1:=Ω
    rw[this];simpa using f1
   ·have J:l.getD k false=false:=by simpa using J
    refine⟨(k,g)::kl,kT,dH,by rw[jm];simpa using ah,by simp[rem,J,aE],by simp[rem,k3,J,bg],fun x ad=>?_⟩;rcases gp.1 ad with rfl|ad
    ·exact⟨Ψ,cE _,by simp;omega,J⟩
    ·obtain⟨f1,f2,f3,f4⟩:=cB x ad;refine⟨?_,Ω,f3,f4⟩;have:x.1-k=(x.1-(k+1))+1:=Ω
     rw[this];simpa using f1
def rn(acc:List Nat):List Edge->Nat
 |[]=>0
 |e::r=>if pP .any e then(2 ^ e.on)|||(acc.getD e.on 0)|||rn acc r else rn acc r
def lG(acc:List Nat):List Oper->List Nat
 |[]=>acc
 |o::os=>lG (acc++[rn acc o.after.toList]) os
def yU(m:Nat)(h:b2):Nat->List b2->Bool
 |_,[]=>true
 |i,g::r=>(m.testBit i||vz g h)&&yU m h (i+1) r
def s8:List b2->List b2->List Nat->Bool
 |_,[],_=>true
 |pre,h::r,m::ms=>yU m h 0 pre&&s8 (pre++[h]) r ms
 |_,_,[]=>false
def qS:Nat->List Oper->Bool
 |_,[]=>true
 |k,o::os=>o.after.toList.all (fun e=> !pP .any e||decide (e.on<k))&&qS (k+1) os
def xe(gs:List b2)(ops:List Oper):Bool:=qS 0 ops&&s8 [] gs (lG [] ops)
theorem Et{acc:List Nat}{j:Nat}:∀{es:List Edge},(rn acc es).testBit j=true->∃e∈es,pP .any e=true/\(j=e.on\/(acc.getD e.on 0).testBit j=true)
 |[],h=>by simp[rn]at h
 |e::r,h=>by
  simp only[rn]at h;split at h
  ·rename_i af;simp only[Nat.testBit_or,Bool.or_eq_true]at h;rcases h with(h|h)|h
   ·refine⟨e,Ψ,af,.inl ?_⟩;rw[Nat.testBit_two_pow]at h;have b6:e.on=j:=by simpa using h
    exact b6.symm
   ·exact⟨e,Ψ,af,.inr h⟩
   ·obtain⟨fS,I,aa⟩:=Et h;exact⟨fS,by simp[I],aa⟩
  ·obtain⟨fS,I,aa⟩:=Et h;exact⟨fS,by simp[I],aa⟩
theorem Eu:∀(os:List Oper) (acc:List Nat) (k:Nat),k<acc.length->(lG acc os)[k]? =acc[k]?
 |[],acc,k,_=>rfl
 |o::os,acc,k,h=>by simp only[lG];rw[Eu os _ k (by simp;omega),nS h]
theorem Kv:∀(os:List Oper) (acc:List Nat) (k:Nat) (o:Oper),os[k]? =some o->∃qN,(lG acc os)[acc.length+k]? =some (rn qN o.after.toList)/\qN.length=acc.length+k/\∀i,i<qN.length->qN[i]? =(lG acc os)[i]?
 |[],acc,k,o,h=>by simp at h
 |o'::os,acc,0,o,h=>by
  simp only[List.getElem?_cons_zero,dv]at h;subst h;refine⟨acc,?_,Ψ,fun i aB=>?_⟩
  ·simp only[lG,Nat.add_zero];rw[Eu os _ _ Ψ];simp
  ·simp only[lG];rw[Eu os _ i (by simp;omega),nS aB]
 |o'::os,acc,k+1,o,h=>by simp only[List.getElem?_cons_succ]at h;obtain⟨qN,I,aa,ak⟩:=Kv os (acc++[rn acc o'.after.toList]) k o h;refine⟨qN,?_,by rw[aa];simp;omega,fun i aB=>by rw[ak i aB];rfl⟩;simp only[lG];rw[show acc.length+(k+1)=(acc++[rn acc o'.after.toList]).length+k from by simp;omega];exact I
def rY(ops:Array Oper)(listed:Array Bool):Prop:= ∀k o,ops[k]? =some o->listed.getD k false=true->∀e∈o.after.toList,pP .any e=true->listed.getD e.on false=true
theorem AX{ops:Array Oper}{listed:Array Bool}(aF:rY ops listed):∀(k:Nat) (o:Oper),ops[k]? =some o->(∀e∈o.after.toList,pP .any e=true->listed.getD e.on false=true)->∀j,((lG [] ops.toList).getD k 0).testBit j=true->listed.getD j false=true:=by
 intro k;induction k using Nat.strongRecOn with
 |_ k a8=>
  intro o ag aA j av;obtain⟨qN,I,aa,ak⟩:=Kv ops.toList [] k o (by simpa using ag);simp only[List.length_nil,Nat.zero_add]at I aa;rw[List.getD_eq_getElem?_getD,I]at av;obtain⟨e,he,af,bq⟩:=Et av;rcases bq with rfl|bq
  ·exact aA e he af
  ·by_cases bU:e.on<qN.length
   ·have hm:qN.getD e.on 0=(lG [] ops.toList).getD e.on 0:=by rw[List.getD_eq_getElem?_getD,ak _ bU,List.getD_eq_getElem?_getD]
    have J:k<ops.size:=(Array.getElem?_eq_some_iff.1 ag).1;have fM:ops[e.on]? =some ops[e.on]:=mh Ω;rw[hm]at bq;exact a8 e.on Ω _ fM (fun fS xR dR=>aF e.on _ fM (aA e he af) fS xR dR) j bq
   ·rw[List.getD_eq_getElem?_getD,List.getElem?_eq_none Ω]at bq;simp at bq
theorem LH{m:Nat}{h:b2}:∀{gs:List b2} {i0:Nat},yU m h i0 gs=true->∀i g,gs[i]? =some g->m.testBit (i0+i)=true\/vz g h=true
 |[],i0,_,i,g,aP=>by simp at aP
 |dH::r,i0,hr,0,g,aP=>by simp only[yU,bA,Bool.or_eq_true]at hr;simp only[List.getElem?_cons_zero,dv]at aP;subst aP;simpa using hr.1
 |dH::r,i0,hr,i+1,g,aP=>by simp only[yU,bA]at hr;have:=LH hr.2 i g (by simpa using aP);rwa[show i0+1+i=i0+(i+1)from by omega]at this
theorem EY:∀{gs pre:List b2} {ms:List Nat},s8 pre gs ms=true->∀j h,gs[j]? =some h->∀i g,i<pre.length+j->(pre++gs)[i]? =some g->(ms.getD j 0).testBit i=true\/vz g h=true
 |[],pre,ms,_,j,h,av,_,_,_,_=>by simp at av
 |b6::r,pre,[],aY,j,h,av,_,_,_,_=>by simp[s8]at aY
 |b6::r,pre,m::ms,aY,j,h,av,i,g,aB,aP=>by
  simp only[s8,bA]at aY;cases j with
  |zero=>simp only[List.getElem?_cons_zero,dv]at av;subst av;rw[nS Ω]at aP;simpa using LH aY.1 i g aP
  |succ j=>have:=EY aY.2 j h (by simpa using av) i g (by simp;omega) (by simpa using aP);simpa using this
theorem zE:∀{os:List Oper} {k:Nat},qS k os=true->∀i o,os[i]? =some o->∀e∈o.after.toList,pP .any e=true->e.on<k+i
 |[],k,_,i,o,ag,_,_,_=>by simp at ag
 |o'::os,k,h,0,o,ag,e,he,af=>by simp only[qS,bA,kj]at h;simp only[List.getElem?_cons_zero,dv]at ag;subst ag;have:=h.1 e he;simpa[af]using this
 |o'::os,k,h,i+1,o,ag,e,he,af=>by simp only[qS,bA]at h;have:=zE h.2 i o (by simpa using ag) e he af;omega
theorem C3{N:Nat}{aW:List (Nat×cm)}{ops:List Oper}:∀{gs:List b2} {os:List Oper},hf N aW ops gs os=true->∀(i:Nat) (g:b2),gs[i]? =some g->∃o,os[i]? =some o/\xF N aW ops g o=true
 |[],[],_,i,g,h=>by simp at h
 |[],_::_,h,_,_,_=>by simp[hf]at h
 |_::_,[],h,_,_,_=>by simp[hf]at h
 |dH::gs,o::os,h,0,g,aP=>by simp only[hf,bA]at h;simp only[List.getElem?_cons_zero,dv]at aP;subst aP;exact⟨o,Ψ,h.1⟩
 |dH::gs,o::os,h,i+1,g,aP=>by simp only[hf,bA]at h;obtain⟨o',I,aa⟩:=C3 h.2 i g (by simpa using aP);exact⟨o',by simpa using I,aa⟩
theorem xH{N:Nat}{aW:List (Nat×cm)}{ops:List Oper}:∀{gs:List b2} {os:List Oper},hf N aW ops gs os=true->gs.length=os.length
 |[],[],_=>rfl
 |[],_::_,h=>by simp[hf]at h
 |_::_,[],h=>by simp[hf]at h
 |g::gs,o::os,h=>by simp only[hf,bA]at h;simp[xH h.2]
theorem E9{l:Array Bool}:∀(gs:List b2) (k:Nat),rem l k gs=[]\/ ∃i g,i<gs.length/\gs[i]? =some g/\l.getD (k+i) false=false/\∀j,j<i->l.getD (k+j) false=true
 |[],_=>.inl rfl
 |g::r,k=>by
  by_cases h:l.getD k false=true
  ·rcases E9 (l:=l) r (k+1)with I|⟨i,dH,I,aa,ak,aK⟩
   ·left;simp only[rem,h,if_true,I]
   ·refine .inr ⟨i+1,dH,by simp;omega,by simpa using aa,by rw[show k+(i+1)=k+1+i from by omega];exact ak,fun j av=>?_⟩;cases j with
    |zero=>simpa using h
    |succ j=>rw[show k+(j+1)=k+1+j from by omega];exact aK j Ω
  ·exact .inr ⟨0,g,Ψ,Ψ,by simpa using h,fun j av=>Ω⟩
theorem M7{P:bp}{aW:List (Nat×cm)}(au:dJ P aW=true){C:dh}{q:Bool}{n0:Nat}{ops:Array Oper}{gs:List b2}(hj:hf C.N aW ops.toList gs ops.toList=true)(Aa:xe gs ops.toList=true){K:cf->Prop}{Q:Exit->Act->World->Prop}
  (oi:∀A a w,K A->pV C A a w->Q .normal a w):∀(fuel:Nat) (listed:Array Bool) (A:cf) (a:Act) (w:World),listed.size=ops.size->rY ops listed->(rem listed 0 gs).length<=fuel->pY P q n0 K (rem listed 0 gs) A->pV C A a w->wpAny P .any ops Q fuel listed a w:=by
 simp only[xe,bA]at Aa;obtain⟨p8,x6⟩:=Aa;have hlen:gs.length=ops.size:=by simpa using xH hj
 have Je:∀(listed:Array Bool) (A:cf) (a:Act) (w:World),listed.size=ops.size->pY P q n0 K (rem listed 0 gs) A->pV C A a w->pQ .any ops listed=[]->Q .normal a w:=by
  intro listed A a w cO jk hr Av;rcases E9 (l:=listed) gs 0 with h|⟨i,g,I,aa,ak,aK⟩
  ·rw[h]at jk;exact oi A a w jk hr
  ·exfalso;have aB:i<ops.size:=Ω
   have hT:i∈pQ .any ops listed:=by
    unfold pQ;simp only[List.mem_filter,List.mem_range,bA,oO];refine⟨aB,?_,?_⟩
    ·rw[Nat.zero_add]at ak;simp only[mg]at ak⊢;rw[mh Ω]at ak⊢;simpa using ak
    ·rw[mh aB];simp only[mZ,oP];rw[<-Array.all_toList,kj];intro e he;by_cases af:pP .any e=true
     ·have bU:=zE p8 i ops[i] (by simp[aB]) e he af;have:=aK e.on Ω;rw[Nat.zero_add]at this;simp[this]
     ·simp[af]
   rw[Av]at hT;simp at hT
 intro fuel;induction fuel with
 |zero=>
  intro listed A a w cO aF aH jk hr;have ph:rem listed 0 gs=[]:=pS Ω;have Av:pQ .any ops listed=[]:=by
   rw[List.eq_nil_iff_forall_not_mem];intro i aB;unfold pQ at aB;simp only[List.mem_filter,List.mem_range,bA,oO]at aB;obtain⟨I,aa,_⟩:=aB;have aR:listed.getD i false=false:=by simp only[mg]at aa⊢;rw[mh Ω]at aa⊢;simpa using aa
   obtain⟨kl,kT,g,_,aE,_⟩:=yO Ω aR gs 0 Ω Ω;rw[ph]at aE;simp at aE
  exact⟨Av,Je listed A a w cO jk hr Av⟩
 |succ fuel a8=>
  intro listed A a w cO aF aH jk hr;refine⟨Je listed A a w cO jk hr,fun i aB=>?_⟩;unfold pQ at aB;simp only[List.mem_filter,List.mem_range,bA,oO]at aB;obtain⟨I,aa,ak⟩:=aB;have aR:listed.getD i false=false:=by simp only[mg]at aa⊢;rw[mh Ω]at aa⊢;simpa using aa
  have ag:ops[i]? =some ops[i]:=mh I;have sE:∀e∈ops[i].after.toList,pP .any e=true->listed.getD e.on false=true:=by rw[ag]at ak;simp only[mZ,oP]at ak;rw[<-Array.all_toList,kj]at ak;intro e he af;simpa[af]using ak e he
  obtain⟨kl,kT,g,ah,aE,bg,cB⟩:=yO Ω aR gs 0 Ω Ω;simp only[Nat.sub_zero]at ah cB;rw[aE]at jk;obtain⟨x,ad,Dd⟩:=Ci kl kT A (fun y bk=>by
   obtain⟨f1,f2,f3,f4⟩:=cB y bk;rcases EY x6 i g ah y.1 y.2 (by simpa using f3) (by simpa using f1)with h|h
   ·have:=AX aF i ops[i] ag sE y.1 h;rw[f4]at this;cases this
   ·exact h) jk
  obtain⟨o',g1,g2⟩:=C3 hj i g ah;have:o'=ops[i]:=by rw[Array.getElem?_toList,ag]at g1;exact(iN g1).symm
  subst this;refine Gr au ag g2 ad hr fun bE w' bG=>?_;refine a8 (listed.setIfInBounds i true) (A.do x) bE w' (by simpa using cO) ?_ ?_ (by rw[bg];exact Dd) bG
  ·intro k o J aA e he af;rw[sn Ω]at aA⊢;split
   ·rfl
   ·by_cases jm:i=k
    ·subst jm;rw[ag]at J;cases J;exact sE e he af
    ·rw[be jm]at aA;exact aF k o J aA e he af
  ·rw[bg];rw[aE]at aH;simp at aH⊢;omega
def tV(n0 d:Nat)(st:aN):Prop:= .loc (n0+d)∉st.o/\look (.loc (n0+d)) st.b=none/\look (.loc (n0+d)) st.e=none
def eY.loadO(q:Bool)(t:List (Nat×ab)):eY->Prop
 | .load _ _ x=>q=true\/uu (bh t x)=true
 | .loadB _ _ _=>True
 | .mgetB _ _ _ _ _=>True
 | .mget _ _ _ _ _=>q=true
 | .ment _=>q=true
 | .mlen _=>q=true
 |_=>True
def iU(q:Bool)(nw:List Nat)(n0:Nat)(st:aN):cX->Prop
 | .v _ i=>i.loadO q st.t
 | .box d none _=>tV n0 d st
 | .alloc d none _=>tV n0 d st
 | .box _ (some _) _=>cw
 | .alloc _ (some _) _=>cw
 | .store _ x _=>match bh st.t x with| .ptr _ _=>True|_=>cw
 | .bslm _ none _ _ _=>cw
 | .bslm _ (some m) _ _ _=>m∈nw/\look (.obj m) st.b=none/\look (.obj m) st.e=none
 | .mks _ _ _ _ _ _=>cw
 | .apps _ _ _ _=>cw
 | .appm _ none _ _ x _=>match bh st.t x with| .row _ _ _=>True|_=>cw
 | .appm _ (some m) _ _ x _=>match bh st.t x with| .row _ _ _=>True| .slice _ .nil _=>m∈nw/\look (.obj m) st.b=none/\look (.obj m) st.e=none|_=>cw
 | .storeE _ _ _=>True
 | .mkmap _ none=>cw
 | .mkmap _ (some m)=>m∈nw/\look (.obj m) st.b=none/\look (.obj m) st.e=none
 | .mput _ _ _ _=>True
 | .range _ _ _=>cw
 | .bsl d _ _ _=>tV n0 d st
 | .app d _ _ x _=>match bh st.t x with
  | .slice _ .nil _=>tV n0 d st
  | .slice _ (.own k) _=>(look k st.e).bind (·.xs)=none
  |_=>True
def lu(n0:Nat):cX->aq
 | .mkmap _ (some m)=>.obj m
 | .appm _ (some m) _ _ _ _=>.obj m
 | .bslm _ (some m) _ _ _=>.obj m
 | .v d _| .box d _ _| .alloc d _ _| .bsl d _ _ _| .app d _ _ _ _| .bslm d _ _ _ _| .appm d _ _ _ _ _| .mkmap d _| .range d _ _| .mks d _ _ _ _ _| .apps d _ _ _=>.loc (n0+d)
 | .store _ _ _| .mput _ _ _ _| .storeE _ _ _=>.loc n0
def S0(nw:List Nat)(st:aN)(s aj:cZ)(rm:aV aq):Prop:=(∀k,(look k aj.b).isSome->(look k s.b).isSome\/rm=some k)/\(∀k,(look k aj.e).isSome->(look k s.e).isSome\/rm=some k)/\(∀k,(look k s.b).isSome->(look k aj.b).isSome)/\(∀k,(look k s.e).isSome->(look k aj.e).isSome)/\
 (∀k,rm=some k->(∃j,j∈nw/\k= .obj j)/\look k st.b=none/\look k st.e=none/\((look k aj.b).isSome\/(look k aj.e).isSome))
def na(P:bp)(q:Bool)(nw:List Nat)(n:Nat)(args:List ab)(st:aN)(d:aV Nat)(K:aN->Prop):Prop:=
 (∃fa r,d=some fa/\tV st.n fa st/\kinL (fun _=>cw) args/\FnK P n (st.n+fa) args ⟨[],[]⟩ (fun cv t'=>cv=r/\t'=⟨[],[]⟩)/\K {st with t:=put fa r st.t,o:= .loc (st.n+fa)::st.o})\/
 ∃s aj r rm,mT (aG s) s.b st.b/\nL (aG s) s.e st.e/\gw s/\gw aj/\S0 nw st s aj rm/\kinL (aG s) args/\cS P n args s (fun cv t'=>cv=r/\t'=aj)/\(q=true->aj.b=[]/\aj.e=[])/\K {after st s aj d r with o:=st.o}
def hz(P:bp)(q:Bool)(nw:List Nat)(n0:Nat)(st:aN)(K:aN->Prop):cY->Prop
 | .s i=>match dn (lu n0 i) st.n (lu n0 i::st.o) st i with
  |some (c,st')=>iU q nw n0 st i/\c/\K st'
  |none=>cw
 | .call d f xs=>match bh st.t f with
  | .func n cG=>na P q nw n (bz (xs.map (bh st.t)++cG)) st d K
  |_=>cw
 | .next _ _=>cw
 | .opn _ _ _=>cw
 | .callb _ _=>cw
def fI(P:bp)(q:Bool)(nw:List Nat)(n0:Nat):List b2->aN->(aN->Prop)->Prop
 |[],st,K=>K st
 |⟨none,i⟩::r,st,K=>hz P q nw n0 st (fun st'=>fI P q nw n0 r st' K) i
 |⟨some (s,want),i⟩::r,st,K=>match get s st.t with
  | .bool b=>(b=want->hz P q nw n0 {st with t:=put s (.bool want) st.t} (fun st'=>fI P q nw n0 r st' K) i)/\(b= !want->fI P q nw n0 r {st with t:=eD i.dst (.tuple []) (put s (.bool !want) st.t)} K)
  | .tuple []=>fI P q nw n0 r {st with t:=eD i.dst (.tuple []) st.t} K
  |_=>cw
structure nV (nw:List Nat) (n0 N:Nat) (lh:List aq) (st:aN) (A:cf):Prop where
 like:jC st A
 n:st.n=n0
 F:∀k,fresh n0 st.o k->(∀j∈nw,k≠ .obj j)->A.F k
 o:∀k∈st.o,k∈lh\/(∃d,d<N/\k= .loc (n0+d))\/ ∃j∈nw,k= .obj j
def w6(nw:List Nat)(A:cf):Prop:= ∀j∈nw,A.b (.obj j)=none->A.e (.obj j)=none->A.F (.obj j)
theorem w6.do{P:bp}{q:Bool}{n0:Nat}{nw:List Nat}{A:cf}(h:w6 nw A){g:b2}{x:iO}(ad:iP P q n0 g A x):w6 nw (A.do x):=by
 intro j av af he;refine⟨h j av (zz af) (zA he),fun oY=>?_⟩;rcases(FO ad).r _ oY with⟨d,_,e⟩|⟨_,_,ao⟩
 ·cases e
 ·rcases ao with ao|ao
  ·obtain⟨y,bk⟩:=ei.1 ao;simp[cf.do,hd,bk]at af
  ·obtain⟨y,bk⟩:=ei.1 ao;simp[cf.do,hd,bk]at he
theorem H7{P:bp}{q:Bool}{nw:List Nat}{n0 N:Nat}{lh:List aq}{i:cY}(aF:∀d,i.dst=some d->d<N){st:aN}{A:cf}(h:nV nw n0 N lh st A)(j5:w6 nw A){K:aN->Prop}(he:hz P q nw n0 st K i):∃x st',cL P q n0 i A x/\K st'/\nV nw n0 N lh st' (A.do x):=by
 have aA:=h.like;have pd:∀d,tV n0 d st->(A.F (.loc (n0+d))/\A.b (.loc (n0+d))=none/\A.e (.loc (n0+d))=none):=fun d aH=>⟨h.F _ ⟨Ψ,aH.1⟩ (fun _ _ e=>by cases e),by rw[<-aA.b];exact aH.2.1,by rw[<-aA.e];exact aH.2.2⟩;have k1:∀(d:aV Nat) (p:ab) (bw:List (aq×List ab)) (ew:List (aq×cq)) (κ:aq),∀k,fresh n0 (κ::st.o) k->(∀j∈nw,k≠ .obj j)->(A.do ⟨d,p,bw,ew,some κ⟩).F k:=fun d p bw ew κ k J av=>⟨h.F k (p4 k J).1 av,fun e=>(p4 k J).2 (iN e).symm⟩;have sy:∀(d:aV Nat) (p:ab) (bw:List (aq×List ab)) (ew:List (aq×cq)),∀k,fresh n0 st.o k->(∀j∈nw,k≠ .obj j)->(A.do ⟨d,p,bw,ew,none⟩).F k:=fun d p bw ew k J av=>⟨h.F k J av,Ψ⟩;have x5:∀d,d<N->∀k∈aq.loc (n0+d)::st.o,k∈lh\/(∃d,d<N/\k= .loc (n0+d))\/ ∃j∈nw,k= .obj j:=fun d aF k J=>by
  rcases gp.1 J with rfl|J
  ·exact .inr (.inl ⟨d,aF,rfl⟩)
  ·exact h.o k J
 cases i with
 |s i=>
  cases i with
  |v d i=>
   simp only[hz,dn]at he;cases aL:fw st i with
   |none=>simp[aL]at he
   |some N7=>
    obtain⟨c,p⟩:=N7;simp only[aL]at he;obtain⟨I,aa,ak⟩:=he;refine⟨⟨some d,p,[],[],none⟩,_,⟨c,p,by rw[<-Ms aA];exact aL,aa,fun im=>?_,rfl⟩,ak,Em aA d p,h.n,sy _ _ _ _,h.o⟩;cases i<;>simp only[eY.isLoad]at im<;>try(cases im;done)
    case mget=>exact .inr (.inl I)
    case ment=>exact .inr (.inl I)
    case mlen=>exact .inr (.inl I)
    case loadB=>exact .inl rfl
    case mgetB=>exact .inl rfl
    simp only[iU,eY.loadO,gF aA]at I;exact .inr (by simpa only[eY.ptrOf]using I)
  |box d key v=>
   cases key with
   |some m=>simp only[hz,dn,iU,false_and]at he
   |none=>simp only[hz,dn,iU,lu]at he;obtain⟨I,aa,ak⟩:=he;rw[gF aA]at aa;refine⟨_,_,⟨pd d I,aa,rfl⟩,ak,?_,h.n,k1 _ _ _ _ _,x5 d (aF d rfl)⟩;rw[gF aA];exact wa aA d _ _ _ _ _ _
  |alloc d key z=>
   cases key with
   |some m=>simp only[hz,dn,iU,false_and]at he
   |none=>simp only[hz,dn,iU,lu]at he;obtain⟨I,aa,ak⟩:=he;exact⟨_,_,⟨pd d I,rfl⟩,ak,wa aA d _ _ _ _ _ _,h.n,k1 _ _ _ _ _,x5 d (aF d rfl)⟩
  |store sz u v=>
   simp only[hz,dn]at he;cases hu:bh st.t u with
   |ptr k off=>
    cases af:look k st.b with
    |none=>simp[hu,af]at he
    |some cs=>simp only[hu,af]at he;obtain⟨I,aa,ak⟩:=he;rw[gF aA]at aa hu;refine⟨⟨none,.junk,[(k,me cs off (cells (cx A.t v)))],[],none⟩,_,⟨k,off,cs,hu,by rw[<-aA.b];exact af,aa,rfl⟩,ak,?_,h.n,sy _ _ _ _,h.o⟩;rw[gF aA];exact AT aA k _ _
   |_=>
    exfalso;simp only[hu]at he;split at he
    ·have:=he.1;simp[iU,hu]at this
    ·exact he
  |bsl d sz el xs=>simp only[hz,dn,iU,lu]at he;obtain⟨I,aa,ak⟩:=he;rw[nl aA]at aa;refine⟨_,_,⟨pd d I,aa,rfl⟩,ak,?_,h.n,k1 _ _ _ _ _,x5 d (aF d rfl)⟩;rw[nl aA];exact mM aA d _ _ _ _ _ _
  |app d sz el u v=>
   simp only[hz,dn]at he;cases hu:bh st.t u with
   |slice cD tag xs=>
    cases aL:bh st.t v with
    |slice gK fF ys=>
     simp only[hu,aL]at he;by_cases eb:cD=sz/\gK=sz
     ·obtain⟨rfl,rfl⟩:=eb;rw[gF aA]at hu aL;cases tag with
      |no=>simp at he
      |tr k j=>simp at he
      |lo k=>simp at he
      |nil=>simp only[and_self,if_true,iU,gF aA,hu,lu]at he;obtain⟨I,aa,ak⟩:=he;exact⟨_,_,⟨.nil,xs,fF,ys,hu,aL,.inr ⟨rfl,aa,pd d I,rfl⟩⟩,ak,mM aA d _ _ _ _ _ _,h.n,k1 _ _ _ _ _,x5 d (aF d rfl)⟩
      |own k=>
       cases J:look k st.e with
       |none=>simp[J]at he
       |some o=>simp only[and_self,if_true,J]at he;obtain⟨I,aa,ak⟩:=he;exact⟨_,_,⟨.own k,xs,fF,ys,hu,aL,.inl ⟨k,o,rfl,by rw[<-aA.e];exact J,⟨by simpa[iU,gF aA,hu,J]using I,aa⟩,rfl⟩⟩,ak,mM aA d _ _ _ _ _ _,h.n,sy _ _ _ _,h.o⟩
     ·simp[eb]at he
    |_=>simp[hu,aL]at he
   |_=>simp[hu]at he
  |bslm d key sz el xs=>
   cases key with
   |none=>simp only[hz,dn,iU,false_and]at he
   |some m=>
    simp only[hz,dn,iU,lu]at he;obtain⟨⟨bN,I,aa⟩,aK,ak⟩:=he;rw[aA.b]at I;rw[aA.e]at aa;rw[nl aA]at aK;refine⟨_,_,⟨⟨j5 m bN I aa,I,aa⟩,aK,rfl⟩,ak,?_,h.n,k1 _ _ _ _ _,fun k J=>?_⟩
    ·rw[nl aA];exact mM aA d _ _ _ _ _ _
    rcases gp.1 J with rfl|J
    ·exact .inr (.inr ⟨m,bN,rfl⟩)
    ·exact h.o k J
  |mks d key sz el z x=>simp only[hz,dn,iU,false_and]at he;split at he<;>simp at he
  |apps d el x y=>simp only[hz,dn,iU,false_and]at he;split at he<;>simp at he
  |appm d key sz el u v=>
   cases key with
   |some m=>
    simp only[hz,dn]at he;cases hu:bh st.t u with
    |slice cD tag xs=>
     cases tag with
     |nil=>
      cases aL:bh st.t v with
      |slice gK fF ys=>
       simp only[hu,aL,ko]at he;by_cases eb:cD=sz/\gK=sz
       ·obtain⟨rfl,rfl⟩:=eb;simp only[and_self,if_true,iU,hu,lu]at he;rw[gF aA]at hu aL;obtain⟨⟨bN,I,aa⟩,aK,ak⟩:=he;rw[aA.b]at I;rw[aA.e]at aa;refine⟨_,_,.inr ⟨xs,fF,ys,hu,aL,⟨j5 m bN I aa,I,aa⟩,aK,rfl⟩,ak,mM aA d _ _ _ _ _ _,h.n,k1 _ _ _ _ _,fun k J=>?_⟩;rcases gp.1 J with rfl|J
        ·exact .inr (.inr ⟨m,bN,rfl⟩)
        ·exact h.o k J
       ·simp[eb]at he
      |_=>simp[hu,aL,ko]at he
     |_=>simp[hu,ko]at he
    |row cD k n=>
     cases aL:bh st.t v with
     |slice gK fF ys=>
      simp only[hu,aL,ko]at he;by_cases eb:cD=sz/\gK=sz
      ·obtain⟨rfl,rfl⟩:=eb;rw[gF aA]at hu aL;simp only[and_self,if_true]at he;cases J:look k st.e with
       |none=>simp[J]at he
       |some o=>
        obtain⟨n',dQ,qx,yB⟩:=o;cases yB with
        |none=>simp[J]at he
        |some xs=>
         simp only[J]at he;by_cases om:n'=n/\dQ=el/\qx=gK
         ·obtain⟨rfl,rfl,rfl⟩:=om;simp only[and_self,if_true]at he;obtain⟨I,aa,ak⟩:=he;exact⟨_,_,.inl ⟨k,n',xs,fF,ys,hu,aL,by rw[<-aA.e];exact J,aa,rfl⟩,ak,mM aA d _ _ _ _ _ _,h.n,sy _ _ _ _,h.o⟩
         ·simp[om]at he
      ·simp[eb]at he
     |_=>simp[hu,aL,ko]at he
    |_=>simp[hu,ko]at he
   |none=>
   simp only[hz,dn]at he;cases hu:bh st.t u with
   |row cD k n=>
    cases aL:bh st.t v with
    |slice gK fF ys=>
     simp only[hu,aL,ko]at he;by_cases eb:cD=sz/\gK=sz
     ·obtain⟨rfl,rfl⟩:=eb;rw[gF aA]at hu aL;simp only[and_self,if_true]at he;cases J:look k st.e with
      |none=>simp[J]at he
      |some o=>
       obtain⟨n',dQ,qx,yB⟩:=o;cases yB with
       |none=>simp[J]at he
       |some xs=>
        simp only[J]at he;by_cases om:n'=n/\dQ=el/\qx=gK
        ·obtain⟨rfl,rfl,rfl⟩:=om;simp only[and_self,if_true]at he;obtain⟨I,aa,ak⟩:=he;exact⟨_,_,⟨k,n',xs,fF,ys,hu,aL,by rw[<-aA.e];exact J,aa,rfl⟩,ak,mM aA d _ _ _ _ _ _,h.n,sy _ _ _ _,h.o⟩
        ·simp[om]at he
     ·simp[eb]at he
    |_=>simp[hu,aL,ko]at he
   |slice cD tag xs=>
    exfalso;simp only[hu]at he;split at he
    ·have:=he.1;simp[iU,hu]at this
    ·exact he
   |_=>simp[hu,ko]at he
  |storeE sz u v=>
   simp only[hz,dn]at he;cases hu:bh st.t u with
   |rptr cD k n i f=>
    cases J:look k st.e with
    |none=>simp[hu,oF,J]at he
    |some o=>
     obtain⟨n',el,qx,yB⟩:=o;cases yB with
     |none=>simp[hu,oF,J]at he
     |some xs=>
      simp only[hu,oF,J]at he;by_cases om:n'=n/\qx=cD
      ·obtain⟨rfl,rfl⟩:=om;simp only[and_self,if_true]at he;cases bj:xs[i]? with
       |none=>simp[bj]at he
       |some q=>simp only[bj]at he;obtain⟨I,aa,ak⟩:=he;rw[gF aA]at aa hu;refine⟨⟨none,.junk,[],[(k,⟨n',el,qx,some (xs.set i (oC q f (cells (cx A.t v))))⟩)],none⟩,_,⟨k,n',i,f,el,qx,xs,q,hu,by rw[<-aA.e];exact J,bj,aa,rfl⟩,ak,?_,h.n,sy _ _ _ _,h.o⟩;rw[gF aA];exact Ko aA k _ _
      ·simp[om]at he
   |_=>simp[hu,oF]at he
  |mkmap d key=>
   cases key with
   |none=>simp only[hz,dn,iU,false_and]at he
   |some m=>
    simp only[hz,dn,iU,lu]at he;obtain⟨⟨bN,I,aa⟩,_,ak⟩:=he;rw[aA.b]at I;rw[aA.e]at aa;refine⟨_,_,⟨⟨j5 m bN I aa,I,aa⟩,rfl⟩,ak,wa aA d _ _ _ _ _ _,h.n,k1 _ _ _ _ _,fun k J=>?_⟩;rcases gp.1 J with rfl|J
    ·exact .inr (.inr ⟨m,bN,rfl⟩)
    ·exact h.o k J
  |mput bD u k v=>
   simp only[hz,dn,iU]at he;cases hu:bh st.t u with
   |gmap m=>
    cases af:look m st.b with
    |none=>simp[hu,af]at he
    |some cs=>
     cases hm:oy bD (bh st.t k) (bh st.t v) cs with
     |none=>simp[hu,af,hm]at he
     |some cs'=>simp only[hu,af,hm]at he;rw[gF aA]at hu;rw[gF aA,gF aA]at hm;exact⟨⟨none,.junk,[(m,cs')],[],none⟩,_,⟨m,cs,cs',hu,by rw[<-aA.b];exact af,hm,rfl⟩,he.2.2,AT aA m _ _,h.n,sy _ _ _ _,h.o⟩
   |_=>simp[hu]at he
  |range d key x=>simp only[hz,iU,false_and]at he;split at he<;>exact he.elim
 |next d x=>simp only[hz]at he
 |opn d f x=>simp only[hz]at he
 |callb d f=>simp only[hz]at he
 |call d f xs=>
  simp only[hz]at he;cases aH:bh st.t f with
  |func n cG=>
   simp only[aH]at he;rw[gF aA]at aH;rcases he with⟨fa,r,rfl,cM,c2,c3,c4⟩|⟨s,aj,r,rm,cM,c2,c3,c4,c5,mv,xi,Nl,c9⟩
   ·rw[nl aA]at c2 c3;have aR:=h.n;subst aR;refine⟨⟨some fa,r,[],[],some (.loc (st.n+fa))⟩,_,⟨n,cG,aH,.inr ⟨fa,r,rfl,pd fa cM,c2,c3,rfl⟩⟩,c4,Kp aA fa r _ _,rfl,k1 _ _ _ _ _,x5 fa (aF fa rfl)⟩
   rw[nl aA]at mv xi;obtain⟨cu,cI,gI,ju,ov⟩:=c5;refine⟨⟨d,r,aj.b,aj.e,rm⟩,_,⟨n,cG,aH,.inl ⟨⟨s,aj,r,rm,fun k cs J=>⟨by rw[<-aA.b];exact(cM k cs J).1,(cM k cs J).2.2⟩,fun k o J=>⟨by rw[<-aA.e];exact(c2 k o J).1,(c2 k o J).2.2⟩,c3,c4,⟨cu,cI,gI,ju,fun k J=>?_⟩,mv,xi,rfl⟩,Nl⟩⟩,c9,⟨fun i=>?_,fun k=>?_,fun k=>?_⟩,h.n,fun k J av=>⟨h.F k J av,fun oY=>?_⟩,h.o⟩
   ·obtain⟨⟨j,av,rfl⟩,aE,bg,cB⟩:=ov k J;rw[aA.b]at aE;rw[aA.e]at bg;exact⟨⟨j,rfl⟩,j5 j av aE bg,aE,bg,cB⟩
   ·simp only[after,cf.do];cases d with
    |none=>simpa[eD]using aA.t i
    |some d=>simp only[eD,nn,dv,aA.t]
   ·simp only[after,cf.do,hd,kH,pz];by_cases ao:(look k s.b).isSome
    ·have:=gI k ao;obtain⟨y,bk⟩:=ei.1 this;simp[ao,bk]
    ·cases aR:look k aj.b with
     |none=>simp only[ao,aA.b];cases A.b k<;>simp
     |some y=>
      rcases cu k (by simp[aR])with h|h
      ·exact absurd h ao
      ·have:=ov k h;simp[ao,this]
   ·simp only[after,cf.do,hd,kH,pz];by_cases ao:(look k s.e).isSome
    ·have:=ju k ao;obtain⟨y,bk⟩:=ei.1 this;simp[ao,bk]
    ·cases aR:look k aj.e with
     |none=>simp only[ao,aA.e];cases A.e k<;>simp
     |some y=>
      rcases cI k (by simp[aR])with h|h
      ·exact absurd h ao
      ·have:=ov k h;simp[ao,this]
   ·obtain⟨⟨j,jM,rfl⟩,_⟩:=ov k oY;exact av j jM rfl
  |_=>simp[aH]at he
def sc(N:Nat):List b2->Bool
 |[]=>true
 |g::r=>ga N g.i.dst&&sc N r
def rX:Nat->List b2->List (Nat×b2)
 |_,[]=>[]
 |k,g::r=>(k,g)::rX (k+1) r
theorem GB{nw:List Nat}{n0 N:Nat}{lh:List aq}{st:aN}{A:cf}(h:nV nw n0 N lh st A){s:Nat}{p:ab}(ao:get s st.t=p):nV nw n0 N lh {st with t:=put s p st.t} A:=by
 refine⟨⟨fun i=>?_,h.like.b,h.like.e⟩,h.n,h.F,h.o⟩;simp only[nn];split
 ·rename_i e;subst e;rw[<-ao];exact h.like.t _
 ·exact h.like.t i
theorem GC{nw:List Nat}{n0 N:Nat}{lh:List aq}{st:aN}{A:cf}(h:nV nw n0 N lh st A)(d:aV Nat):nV nw n0 N lh {st with t:=eD d (.tuple []) st.t} (A.do (jz d)):=by
 refine⟨⟨fun i=>?_,fun k=>?_,fun k=>?_⟩,h.n,fun k J av=>⟨h.F k J av,by simp[jz]⟩,h.o⟩
 ·simp only[cf.do,jz];cases d with
  |none=>simpa[eD]using h.like.t i
  |some d=>simp only[eD,nn,dv,h.like.t]
 ·simpa[cf.do,hd,look,jz]using h.like.b k
 ·simpa[cf.do,hd,look,jz]using h.like.e k
theorem vq{P:bp}{q:Bool}{nw:List Nat}{n0 N:Nat}{lh:List aq}{K:aN->Prop}:∀(gs:List b2) (k:Nat),sc N gs=true->∀(st:aN) (A:cf),nV nw n0 N lh st A->w6 nw A->fI P q nw n0 gs st K->pY P q n0 (fun A'=> ∃st',K st'/\nV nw n0 N lh st' A') (rX k gs) A
 |[],k,_,st,A,h,_,he=>⟨st,he,h⟩
 |⟨kZ,i⟩::r,k,aF,st,A,h,j5,he=>by
  simp only[sc,bA]at aF;have fD:∀d,i.dst=some d->d<N:=fun d e=>by have:=aF.1;rw[e]at this;simpa[ga]using this
  simp only[rX,pY];cases kZ with
  |none=>simp only[fI]at he;obtain⟨x,st',I,aa,ak⟩:=H7 fD h j5 he;have aP:iP P q n0 ⟨none,i⟩ A x:=I;exact⟨x,aP,vq r (k+1) aF.2 st' _ ak (j5.do aP) aa⟩
  |some uW=>
   obtain⟨s,want⟩:=uW;simp only[fI]at he;split at he
   ·rename_i b af;by_cases e:b=want
    ·subst e;obtain⟨x,st',I,aa,ak⟩:=H7 fD (GB h af) j5 (he.1 rfl);have aP:iP P q n0 ⟨some (s,b),i⟩ A x:=by unfold iP;simp only[<-h.like.t,af];exact .inl ⟨trivial,I⟩
     exact⟨x,aP,vq r (k+1) aF.2 st' _ ak (j5.do aP) aa⟩
    ·have dR:b= !want:=by cases b<;>cases want<;>simp at e⊢
     subst dR;have aP:iP P q n0 ⟨some (s,want),i⟩ A (jz i.dst):=by unfold iP;simp only[<-h.like.t,af];exact .inr ⟨trivial,trivial⟩
     exact⟨jz i.dst,aP,vq r (k+1) aF.2 _ _ (GC (GB h af) i.dst) (j5.do aP) (he.2 rfl)⟩
   ·rename_i af;have aP:iP P q n0 ⟨some (s,want),i⟩ A (jz i.dst):=by unfold iP;simp only[<-h.like.t,af]
    exact⟨jz i.dst,aP,vq r (k+1) aF.2 _ _ (GC h i.dst) (j5.do aP) he⟩
   ·exact he.elim
theorem yN:∀(gs:List b2) (l:Array Bool) (k:Nat),(∀j,l.getD j false=false)->rem l k gs=rX k gs
 |[],_,_,_=>rfl
 |g::r,l,k,h=>by simp only[rem,h k,rX,yN r l (k+1) h];simp
def mm(n:Nat)(o:List aq)(K:aN->Prop)(st:aN):Prop:=K {st with n:=n,o:=o}
theorem Good.like{pr:Nat->Prop}{w:World}{ν:aD}{b fh:List (aq×List ab)}{e fS:List (aq×cq)}(h:Good pr w ν b e)(af:∀k,look k fh=look k b)(he:∀k,look k fS=look k e):Good pr w ν fh fS:=
 ⟨h.alt,fun k cs J=>h.box k cs (by rw[<-af];exact J),fun k aX bl I aa=>h.inj k aX bl (by rw[<-af];exact I) (by rw[<-af];exact aa),fun g o aP=>h.own g o (by rw[<-he];exact aP),
  fun g dH n n' v v' bl I aa=>h.oinj g dH n n' v v' bl (by rw[<-he];exact I) (by rw[<-he];exact aa),fun g k n v bl I aa=>h.obx g k n v bl (by rw[<-he];exact I) (by rw[<-af];exact aa),h.one,
  fun bl au=>h.otr bl (au.imp (fun⟨k,bt,a2⟩=>⟨k,by rw[<-af];exact bt,a2⟩) (fun⟨g,n,v,bt,a2⟩=>⟨g,n,v,by rw[<-he];exact bt,a2⟩))⟩
theorem H9{P:bp}(hm:P.follows .mixedOrders=true){aW:List (Nat×cm)}(au:dJ P aW=true){C:dh}{q:Bool}{nw:List Nat}{id:Nat}{ops:Array Oper}{gs:List b2}(hj:hf C.N aW ops.toList gs ops.toList=true)(Aa:xe gs ops.toList=true)(fJ:sc C.N gs=true)
  {K:aN->Prop} {Q:Exit->Act->World->Prop} (oi:∀st' bE w' ν',K st'->bH C st' bE w' ν'->Q .normal bE w') {st:aN} {a:Act} {w:World} {ν:aD} (DB:∀j∈nw,.obj j∉st.o) (he:fI P q nw st.n gs st (mm (st.n+C.N) (nw.map aq.obj++st.o) K)) (hr:bH C st a w ν):(Code.region id ops true).wp P Q a w:=by
 refine wp_region_any hm ?_;have bG:bH C st a {w with drawn:=w.drawn+1} ν:=hr.drawn _;let A:cf:=⟨fun i=>get i st.t,fun k=>look k st.b,fun k=>look k st.e,fresh st.n st.o⟩
 have lx:nV nw st.n C.N st.o st A:=⟨⟨fun _=>rfl,fun _=>rfl,fun _=>rfl⟩,rfl,fun k J _=>J,fun k J=>.inl J⟩;have jk:=vq gs 0 fJ st A lx (fun j av _ _=>⟨trivial,DB j av⟩) he;have h3:∀j,(nQ ops.size false).getD j false=false:=fun j=>by simp[mg,Array.getElem?_replicate];split<;>rfl
 refine M7 au hj Aa (q:=q) (n0:=st.n) (K:=fun A'=> ∃st',mm (st.n+C.N) (nw.map aq.obj++st.o) K st'/\nV nw st.n C.N st.o st' A') ?_ ops.size _ A a _ Ψ ?_ ?_ (by rw[yN gs _ 0 h3];exact jk) ⟨st,ν,lx.like,fun k J=>J,bG⟩
 ·rintro A' bE w' ⟨st',J,bL⟩ ⟨Vt,ν',gM,C7,jq⟩;refine oi _ bE w' ν' J ⟨jq.good.like (fun k=>by rw[gM.b,<-bL.like.b]) (fun k=>by rw[gM.e,<-bL.like.e]),jq.fr,jq.defers,jq.size,fun i=>?_,fun k nr=>?_,jq.ext,fun m hm aH=>bG.obk m hm (oh (Nat.le_add_right _ _) (fun _ h=>iz _ h) aH)⟩
  ·have:=jq.slot i;rw[gM.t,<-bL.like.t]at this;exact this
  ·refine jq.new k (C7 k (bL.F k ?_ fun j av e=>nr.2 (by subst e;exact kk _ (List.mem_map_of_mem av))));simp only at nr;refine⟨(oh (Nat.le_add_right st.n C.N) (fun _ h=>h) nr).1,fun hT=>?_⟩;rcases bL.o k hT with h|⟨d,aF,rfl⟩|⟨j,av,rfl⟩;rotate_left 2
   ·exact nr.2 (kk _ (List.mem_map_of_mem av))
   ·exact nr.2 (iz _ h)
   ·have:=nr.1;simp at this;omega
 ·intro k o J aA;rw[h3]at aA;cases aA
 ·rw[yN gs _ 0 h3];have:∀(gs:List b2) k,(rX k gs).length=gs.length:=by
   intro gs;induction gs with
   |nil=>intro k;rfl
   |cons g r a8=>intro k;simp[rX,a8]
  rw[this];have:=xH hj;simp at this;omega
mutual
def tn:ab->List (aq×Nat)
 | .slice _ tag _=>match tag with| .tr k i=>[(k,i)]|_=>[]
 | .agg cs=>tnL cs
 |_=>[]
def tnL:List ab->List (aq×Nat)
 |[]=>[]
 |x::xs=>tn x++tnL xs
end
mutual
def dk:ab->Prop
 | .int _ _=>True
 | .bool _=>True
 | .str _=>True
 | .slice _ tag xs=>match tag with| .tr k _=>k≠cV|_=>xs=[]
 | .agg cs=>dW cs
 |_=>cw
def dW:List ab->Prop
 |[]=>True
 |x::xs=>dk x/\dW xs
end
def iG(ν:aD)(l:List (aq×Nat))(b:Nat):Prop:= ∃k i,(k,i)∈l/\ν.tr k i b
theorem wj{ν:aD}{l fE:List (aq×Nat)}(h:∀x∈l,x∈fE)(b:Nat)(af:iG ν l b):iG ν fE b:=by obtain⟨k,i,I,aa⟩:=af;exact⟨k,i,h _ I,aa⟩
theorem EG{ν:aD}(eF:∀k j aX dj b,ν.tr k j b->ν.tr aX dj b->k=aX/\j=dj){l fE:List (aq×Nat)}(h:(l++fE).Nodup)(b:Nat)(I:iG ν l b):¬iG ν fE b:=by rintro⟨aX,jr,ak,aK⟩;obtain⟨k,i,I,aa⟩:=I;obtain⟨rfl,rfl⟩:=eF k i aX jr b aa aK;rw[nU]at h;exact h.2.2 _ I _ ak rfl
mutual
theorem Bb{w:World}{ν:aD}(eF:∀k j aX dj b,ν.tr k j b->ν.tr aX dj b->k=aX/\j=dj):∀(p:ab) (v:Value),aw w ν p v->dk p->(tn p).Nodup->bQ true w ν.A (iG ν (tn p)) (bC p) v
 | .int k n,v,h,_,_=>by simpa only[aw,bC,bQ]using h
 | .bool b,v,h,_,_=>by simpa only[aw,bC,bQ]using h
 | .str s,v,h,_,_=>by simpa only[aw,bC,bQ]using h
 | .slice sz tag xs,v,h,ag,_=>by
  simp only[aw]at h;obtain⟨⟨a,cap,I,aa,ak,aK⟩,_,_,hS,_⟩:=h;by_cases au:∃k i,tag= .tr k i
  ·obtain⟨k,i,rfl⟩:=au;refine zW _ _ v (p5 (fun _ _ h=>⟨h,rfl⟩) (fun _ _ _=>rfl) _ _ _ v (fun b af=>?_) (hS k i rfl));exact⟨k,i,by simp[tn],af⟩
  ·have ad:xs=[]:=by
    simp only[dk]at ag;split at ag
    ·exact absurd ⟨_,_,rfl⟩ au
    ·exact ag
   subst ad;simp only[bC,bz,bQ];exact⟨a,cap,I,aa,ak,.inl trivial⟩
 | .agg cs,v,h,ag,aR=>by simp only[aw,dk,tn,bC,bQ]at h ag aR⊢;obtain⟨us,I,aa⟩:=h;exact⟨us,I,KO eF cs _ aa ag aR⟩
 | .junk,_,_,ag,_=>by simp[dk]at ag
 | .ptr _ _,_,_,ag,_=>by simp[dk]at ag
 | .eptr _,_,_,ag,_=>by simp[dk]at ag
 | .iface _ _,_,_,ag,_=>by simp[dk]at ag
 | .nilp,_,_,ag,_=>by simp[dk]at ag
 | .tuple _,_,_,ag,_=>by simp[dk]at ag
 | .func _ _,_,_,ag,_=>by simp[dk]at ag
 | .gmap _,_,_,ag,_=>by simp[dk]at ag
 | .row _ _ _,_,_,ag,_=>by simp[dk]at ag
 | .rptr _ _ _ _ _,_,_,ag,_=>by simp[dk]at ag
 | .hdm _ _,_,_,ag,_=>by simp[dk]at ag
 | .hdi _ _ _,_,_,ag,_=>by simp[dk]at ag
 | .cst _,_,_,ag,_=>by simp[dk]at ag
theorem KO{w:World}{ν:aD}(eF:∀k j aX dj b,ν.tr k j b->ν.tr aX dj b->k=aX/\j=dj):∀(cs:List ab) (us:List Value),bV w ν cs us->dW cs->(tnL cs).Nodup->h1 true w ν.A (iG ν (tnL cs)) (bz cs) us
 |[],us,h,_,_=>by simpa only[bV,bz,h1]using h
 |c::cs,us,h,ag,aR=>by simp only[bV,dW,tnL,bz,h1]at h ag aR⊢;obtain⟨u,a6,I,⟨aa,ak⟩,aK⟩:=h;have gS:=nU.1 aR;exact⟨u,a6,iG ν (tn c),iG ν (tnL cs),I,⟨wj (fun x ad=>kk _ ad),wj (fun x ad=>iz _ ad),fun _ b af=>EG eF aR b af⟩,⟨Bb eF c u aa ag.1 gS.1,ak⟩,KO eF cs a6 aK ag.2 gS.2.1⟩
end
theorem EO{w:World}{ν:aD}(eF:∀k j aX dj b,ν.tr k j b->ν.tr aX dj b->k=aX/\j=dj){sz:Nat}:∀(cs:List ab) (us:List Value),b4 w ν sz cs us->dW cs->(tnL cs).Nodup->hA true w ν.A (iG ν (tnL cs)) sz (bz cs) us
 |[],us,h,_,_=>by simpa only[b4,bz,hA]using h
 |c::cs,us,h,ag,aR=>by simp only[b4,dW,tnL,bz,hA]at h ag aR⊢;obtain⟨u,a6,I,⟨aa,ak⟩,aK⟩:=h;have gS:=nU.1 aR;exact⟨u,a6,iG ν (tn c),iG ν (tnL cs),I,⟨wj (fun x ad=>kk _ ad),wj (fun x ad=>iz _ ad),fun _ b af=>EG eF aR b af⟩,⟨Bb eF c u aa ag.1 gS.1,ak⟩,EO eF cs a6 aK ag.2 gS.2.1⟩
mutual
theorem zV{t:Bool}{w:World}{A:Nat->Nat->Prop}{ν:aD}(aT:∀b o,A b o->ν.A b o):∀(p:ab) (F:Nat->Prop) (v:Value),bQ t w A F p v->aw w ν (bC p) v
 | .int k n,_,_,h=>by simpa only[aw,bC,bQ]using h
 | .bool b,_,_,h=>by simpa only[aw,bC,bQ]using h
 | .str s,_,_,h=>by simpa only[aw,bC,bQ]using h
 | .slice sz tag xs,F,v,h=>by
  simp only[bQ,bC,aw]at h⊢;obtain⟨a,cap,I,aa,ak,aK⟩:=h;refine⟨⟨a,cap,by rw[kf];exact I,by rw[kf];exact aa,by rw[kf];exact ak,?_⟩,fun e=>(by cases e),fun g e=>(by cases e),fun _ _ e=>(by cases e),fun _ e=>(by cases e)⟩;rcases aK with rfl|⟨b,off,us,G,ah,_,_,cB,_,e0⟩
  ·exact .inl rfl
  ·exact .inr ⟨b,off,us,ah,sW (fun b o h=>⟨aT b o h,rfl⟩) _ _ cB,It aT xs G us e0⟩
 | .agg cs,F,v,h=>by simp only[bQ,bC,aw]at h⊢;obtain⟨us,I,aa⟩:=h;exact⟨us,I,Iv aT cs F _ aa⟩
 | .junk,_,_,h=>by simp[bQ]at h
 | .ptr _ _,_,_,h=>by simp[bQ]at h
 | .eptr _,_,_,h=>by simp[bQ]at h
 | .iface _ _,_,_,h=>by simp[bQ]at h
 | .nilp,_,_,h=>by simp[bQ]at h
 | .tuple _,_,_,h=>by simp[bQ]at h
 | .func _ _,_,_,h=>by simp[bQ]at h
 | .gmap _,_,_,h=>by simp[bQ]at h
 | .row _ _ _,_,_,h=>by simp[bQ]at h
 | .rptr _ _ _ _ _,_,_,h=>by simp[bQ]at h
 | .hdm _ _,_,_,h=>by simp[bQ]at h
 | .hdi _ _ _,_,_,h=>by simp[bQ]at h
 | .cst _,_,_,h=>by simp[bQ]at h
theorem Iv{t:Bool}{w:World}{A:Nat->Nat->Prop}{ν:aD}(aT:∀b o,A b o->ν.A b o):∀(cs:List ab) (F:Nat->Prop) (us:List Value),h1 t w A F cs us->bV w ν (bz cs) us
 |[],_,_,h=>by simpa only[h1,bz,bV]using h
 |c::cs,F,us,h=>by simp only[h1,bz,bV]at h⊢;obtain⟨u,a6,e2,e3,I,_,⟨bb,ct⟩,dZ⟩:=h;exact⟨u,a6,I,⟨zV aT c e2 u bb,ct⟩,Iv aT cs e3 a6 dZ⟩
theorem It{t:Bool}{w:World}{A:Nat->Nat->Prop}{ν:aD}(aT:∀b o,A b o->ν.A b o){sz:Nat}:∀(cs:List ab) (F:Nat->Prop) (us:List Value),hA t w A F sz cs us->b4 w ν sz (bz cs) us
 |[],_,_,h=>by simpa only[hA,bz,b4]using h
 |c::cs,F,us,h=>by simp only[hA,bz,b4]at h⊢;obtain⟨u,a6,e2,e3,I,_,⟨bb,ct⟩,dZ⟩:=h;exact⟨u,a6,I,⟨zV aT c e2 u bb,ct⟩,It aT cs e3 a6 dZ⟩
end
mutual
theorem FF:∀p:ab,bC (bC p)=bC p
 | .slice _ _ xs=>by simp[bC,pL xs]
 | .agg cs=>by simp[bC,pL cs]
 | .tuple vs=>by simp[bC,pL vs]
 | .eptr x=>by simp[bC,FF x]
 | .iface t x=>by simp[bC,FF x]
 | .func f cG=>by simp[bC,pL cG]
 | .junk=>rfl
 | .int _ _=>rfl
 | .bool _=>rfl
 | .str _=>rfl
 | .ptr _ _=>rfl
 | .nilp=>rfl
 | .gmap _=>rfl
 | .row _ _ _=>rfl
 | .rptr _ _ _ _ _=>rfl
 | .hdm _ _=>rfl
 | .hdi _ _ _=>rfl
 | .cst _=>rfl
theorem pL:∀xs:List ab,bz (bz xs)=bz xs
 |[]=>rfl
 |x::xs=>by simp[bz,FF x,pL xs]
end
mutual
def bW:ab->List aq
 | .slice _ tag _=>match tag with| .own k=>[k]|_=>[]
 | .row _ k _=>[k]
 | .agg cs=>db cs
 | .tuple cs=>db cs
 |_=>[]
def db:List ab->List aq
 |[]=>[]
 |x::xs=>bW x++db xs
end
def rF(e:List (aq×cq))(k:aq):List ab:=((look k e).bind (·.xs)).getD []
mutual
def b8(e:List (aq×cq)):ab->List (aq×Nat)
 | .slice _ tag xs=>match tag with| .tr k i=>[(k,i)]| .own _=>tnL xs|_=>[]
 | .row _ k _=>tnL (rF e k)
 | .agg cs=>dd e cs
 | .tuple cs=>dd e cs
 |_=>[]
def dd(e:List (aq×cq)):List ab->List (aq×Nat)
 |[]=>[]
 |x::xs=>b8 e x++dd e xs
end
mutual
def cC(e:List (aq×cq)):ab->Prop
 | .int _ _=>True
 | .bool _=>True
 | .str _=>True
 | .slice sz tag xs=>match tag with| .tr k _=>k≠cV| .own k=>True/\(∃el,look k e=some ⟨xs.length,el,sz,none⟩)/\dW xs/\0<sz|_=>xs=[]
 | .row sz k n=>True/\(∃xs el,look k e=some ⟨n,el,sz,some xs⟩/\dW xs)/\0<sz
 | .agg cs=>dN e cs
 | .tuple cs=>dN e cs
 |_=>cw
def dN(e:List (aq×cq)):List ab->Prop
 |[]=>True
 |x::xs=>cC e x/\dN e xs
end
mutual
def dU:ab->Nat
 | .slice _ _ _=>1
 | .row _ _ _=>1
 | .agg cs=>eJ cs
 | .tuple cs=>eJ cs
 |_=>0
def eJ:List ab->Nat
 |[]=>0
 |x::xs=>dU x+eJ xs
end
mutual
def fold(κ:Nat)(e:List (aq×cq)):Nat->ab->ab
 |j,.slice sz _ xs=>.slice sz (.tr (.loc κ) j) (bz xs)
 |j,.row sz k _=>.slice sz (.tr (.loc κ) j) (bz (rF e k))
 |j,.agg cs=>.agg (dV κ e j cs)
 |j,.tuple cs=>.tuple (dV κ e j cs)
 |_,p=>p
def dV(κ:Nat)(e:List (aq×cq)):Nat->List ab->List ab
 |_,[]=>[]
 |j,x::xs=>fold κ e j x::dV κ e (j+dU x) xs
end
def iI(ν:aD)(k:aq)(b:Nat):Prop:= ∃n v,ν.ow k=some (n,v)/\v.ownBlock=some b
mutual
def ed(ν:aD)(R:Nat->Prop)(e:List (aq×cq)):ab->List (Nat->Prop)
 | .slice _ tag xs=>match tag with| .tr k i=>[fun b=>ν.tr k i b/\¬R b]| .own k=>[fun b=>iI ν k b\/(iG ν (tnL xs) b/\¬R b)]|_=>[fun _=>cw]
 | .row _ k _=>[fun b=>iI ν k b\/(iG ν (tnL (rF e k)) b/\¬R b)]
 | .agg cs=>lK ν R e cs
 | .tuple cs=>lK ν R e cs
 |_=>[]
def lK(ν:aD)(R:Nat->Prop)(e:List (aq×cq)):List ab->List (Nat->Prop)
 |[]=>[]
 |x::xs=>ed ν R e x++lK ν R e xs
end
mutual
theorem uU(ν:aD)(R:Nat->Prop)(e:List (aq×cq)):∀p,(ed ν R e p).length=dU p
 | .slice _ tag _=>by cases tag<;>simp[ed,dU]
 | .row _ k _=>by simp[ed,dU]
 | .agg cs=>by simp[ed,dU,FB ν R e cs]
 | .tuple cs=>by simp[ed,dU,FB ν R e cs]
 | .int _ _=>rfl
 | .bool _=>rfl
 | .str _=>rfl
 | .junk=>rfl
 | .ptr _ _=>rfl
 | .eptr _=>rfl
 | .iface _ _=>rfl
 | .nilp=>rfl
 | .func _ _=>rfl
 | .gmap _=>rfl
 | .rptr _ _ _ _ _=>rfl
 | .hdm _ _=>rfl
 | .hdi _ _ _=>rfl
 | .cst _=>rfl
theorem FB(ν:aD)(R:Nat->Prop)(e:List (aq×cq)):∀p,(lK ν R e p).length=eJ p
 |[]=>rfl
 |x::xs=>by simp[lK,eJ,uU ν R e x,FB ν R e xs]
end
def zS(ν:aD)(R:Nat->Prop)(ns:List (aq×Nat))(rw:List aq)(b:Nat):Prop:=(∃k∈rw,iI ν k b)\/(iG ν ns b/\¬R b)
mutual
theorem wR{ν:aD}{R:Nat->Prop}{e:List (aq×cq)}:∀(p:ab) (i:Nat) (S:Nat->Prop),(ed ν R e p)[i]? =some S->∀b,S b->zS ν R (b8 e p) (bW p) b
 | .slice _ tag _,i,S,h,b,af=>by
  cases tag<;>(simp only[ed]at h;cases i<;>simp at h;subst h);all_goals first|exact af.elim|skip
  ·rcases af with af|af
   ·exact .inl ⟨_,by simp[bW],af⟩
   ·exact .inr (by simpa only[b8]using af)
  ·exact .inr ⟨⟨_,_,by simp[b8],af.1⟩,af.2⟩
 | .row _ k _,i,S,h,b,af=>by
  simp only[ed]at h;cases i<;>simp at h;subst h;rcases af with af|af
  ·exact .inl ⟨k,by simp[bW],af⟩
  ·exact .inr (by simpa only[b8]using af)
 | .agg cs,i,S,h,b,af=>by simp only[ed,b8,bW]at h⊢;exact y3 cs i S h b af
 | .tuple cs,i,S,h,b,af=>by simp only[ed,b8,bW]at h⊢;exact y3 cs i S h b af
 | .int _ _,_,_,h,_,_=>by simp[ed]at h
 | .bool _,_,_,h,_,_=>by simp[ed]at h
 | .str _,_,_,h,_,_=>by simp[ed]at h
 | .junk,_,_,h,_,_=>by simp[ed]at h
 | .ptr _ _,_,_,h,_,_=>by simp[ed]at h
 | .eptr _,_,_,h,_,_=>by simp[ed]at h
 | .iface _ _,_,_,h,_,_=>by simp[ed]at h
 | .nilp,_,_,h,_,_=>by simp[ed]at h
 | .func _ _,_,_,h,_,_=>by simp[ed]at h
 | .gmap _,_,_,h,_,_=>by simp[ed]at h
 | .rptr _ _ _ _ _,_,_,h,_,_=>by simp[ed]at h
 | .hdm _ _,_,_,h,_,_=>by simp[ed]at h
 | .hdi _ _ _,_,_,h,_,_=>by simp[ed]at h
 | .cst _,_,_,h,_,_=>by simp[ed]at h
theorem y3{ν:aD}{R:Nat->Prop}{e:List (aq×cq)}:∀(p:List ab) (i:Nat) (S:Nat->Prop),(lK ν R e p)[i]? =some S->∀b,S b->zS ν R (dd e p) (db p) b
 |[],i,S,h,b,af=>by simp[lK]at h
 |x::xs,i,S,h,b,af=>by
  simp only[lK]at h;simp only[dd,db];by_cases aB:i<(ed ν R e x).length
  ·rw[nS aB]at h;rcases wR x i S h b af with⟨k,I,aa⟩|⟨I,aa⟩
   ·exact .inl ⟨k,kk _ I,aa⟩
   ·exact .inr ⟨wj (fun _ h=>kk _ h) b I,aa⟩
  ·rw[List.getElem?_append_right Ω]at h;rcases y3 xs _ S h b af with⟨k,I,aa⟩|⟨I,aa⟩
   ·exact .inl ⟨k,iz _ I,aa⟩
   ·exact .inr ⟨wj (fun _ h=>iz _ h) b I,aa⟩
end
structure u4 (ν:aD) (R:Nat->Prop) (rw:List aq):Prop where
 trd:∀k j aX dj b,ν.tr k j b->ν.tr aX dj b->k=aX/\j=dj
 inj:∀k aX b,k∈rw->aX∈rw->iI ν k b->iI ν aX b->k=aX
 R:∀k b,k∈rw->iI ν k b->R b
theorem Ir{ν:aD}{R:Nat->Prop}{rw:List aq}(he:u4 ν R rw){ft eM:List (aq×Nat)}{eH fB:List aq}(aR:(ft++eM).Nodup)(hr:(eH++fB).Nodup)(I:∀k∈eH,k∈rw)(aa:∀k∈fB,k∈rw)(b:Nat)(af:zS ν R ft eH b):¬zS ν R eM fB b:=by
 rintro dR;rcases af with⟨k,cu,cI⟩|⟨cu,cI⟩<;>rcases dR with⟨aX,gP,ir⟩|⟨gP,ir⟩
 ·have:=he.inj k aX b (I k cu) (aa aX gP) cI ir;subst this;exact(nU.1 hr).2.2 _ cu _ gP rfl
 ·exact ir (he.R k b (I k cu) cI)
 ·exact cI (he.R aX b (aa aX gP) ir)
 ·exact EG he.trd aR b cu gP
mutual
theorem FC{ν:aD}{R:Nat->Prop}{rw:List aq}(he:u4 ν R rw){e:List (aq×cq)}:∀(p:ab),(b8 e p).Nodup->(bW p).Nodup->(∀k∈bW p,k∈rw)->∀(i jr:Nat) (S iR:Nat->Prop),(ed ν R e p)[i]? =some S->(ed ν R e p)[jr]? =some iR->∀b,S b->iR b->i=jr
 | .slice sz tag xs,_,_,_,i,jr,S,iR,h,b6,b,_,_=>by have aA:(ed ν R e (.slice sz tag xs)).length=1:=uU ν R e _;have:=(fG.1 h).1;have:=(fG.1 b6).1;omega
 | .row sz k n,_,_,_,i,jr,S,iR,h,b6,b,_,_=>by have aA:(ed ν R e (.row sz k n)).length=1:=uU ν R e _;have:=(fG.1 h).1;have:=(fG.1 b6).1;omega
 | .agg cs,aR,hr,J,i,jr,S,iR,h,b6,b,af,dR=>by simp only[ed,b8,bW]at h b6 aR hr J;exact FA he cs aR hr J i jr S iR h b6 b af dR
 | .tuple cs,aR,hr,J,i,jr,S,iR,h,b6,b,af,dR=>by simp only[ed,b8,bW]at h b6 aR hr J;exact FA he cs aR hr J i jr S iR h b6 b af dR
 | .int _ _,_,_,_,_,_,_,_,h,_,_,_,_=>by simp[ed]at h
 | .bool _,_,_,_,_,_,_,_,h,_,_,_,_=>by simp[ed]at h
 | .str _,_,_,_,_,_,_,_,h,_,_,_,_=>by simp[ed]at h
 | .junk,_,_,_,_,_,_,_,h,_,_,_,_=>by simp[ed]at h
 | .ptr _ _,_,_,_,_,_,_,_,h,_,_,_,_=>by simp[ed]at h
 | .eptr _,_,_,_,_,_,_,_,h,_,_,_,_=>by simp[ed]at h
 | .iface _ _,_,_,_,_,_,_,_,h,_,_,_,_=>by simp[ed]at h
 | .nilp,_,_,_,_,_,_,_,h,_,_,_,_=>by simp[ed]at h
 | .func _ _,_,_,_,_,_,_,_,h,_,_,_,_=>by simp[ed]at h
 | .gmap _,_,_,_,_,_,_,_,h,_,_,_,_=>by simp[ed]at h
 | .rptr _ _ _ _ _,_,_,_,_,_,_,_,h,_,_,_,_=>by simp[ed]at h
 | .hdm _ _,_,_,_,_,_,_,_,h,_,_,_,_=>by simp[ed]at h
 | .hdi _ _ _,_,_,_,_,_,_,_,h,_,_,_,_=>by simp[ed]at h
 | .cst _,_,_,_,_,_,_,_,h,_,_,_,_=>by simp[ed]at h
theorem FA{ν:aD}{R:Nat->Prop}{rw:List aq}(he:u4 ν R rw){e:List (aq×cq)}:∀(p:List ab),(dd e p).Nodup->(db p).Nodup->(∀k∈db p,k∈rw)->∀(i jr:Nat) (S iR:Nat->Prop),(lK ν R e p)[i]? =some S->(lK ν R e p)[jr]? =some iR->∀b,S b->iR b->i=jr
 |[],_,_,_,i,jr,S,iR,h,_,_,_,_=>by simp[lK]at h
 |x::xs,aR,hr,J,i,jr,S,iR,h,b6,b,af,dR=>by
  simp only[lK]at h b6;simp only[dd]at aR;simp only[db]at hr J;have cu:∀k∈bW x,k∈rw:=fun k bq=>J k (kk _ bq);have cI:∀k∈db xs,k∈rw:=fun k bq=>J k (iz _ bq);by_cases aB:i<(ed ν R e x).length<;>by_cases ue:jr<(ed ν R e x).length
  ·rw[nS aB]at h;rw[nS ue]at b6;exact FC he x (nU.1 aR).1 (nU.1 hr).1 cu i jr S iR h b6 b af dR
  ·rw[nS aB]at h;rw[List.getElem?_append_right Ω]at b6;exact absurd (y3 xs _ iR b6 b dR) (Ir he aR hr cu cI b (wR x i S h b af))
  ·rw[List.getElem?_append_right Ω]at h;rw[nS ue]at b6;exact absurd (y3 xs _ S h b af) (Ir he aR hr cu cI b (wR x jr iR b6 b dR))
  ·rw[List.getElem?_append_right Ω]at h b6;have:=FA he xs (nU.1 aR).2.1 (nU.1 hr).2.1 cI _ _ S iR h b6 b af dR;omega
end
end
section
open Go Go.RowKit
theorem BY{w:World}{μ:aD}{k:aq}{j sz:Nat}{tag:jZ}{ys:List ab}{v:Value}(h:bQ true w μ.A (μ.tr k j) (.slice sz tag ys) v)(bk:bz ys=ys):aw w μ (.slice sz (.tr k j) ys) v:=by have I:=zV (ν:=μ) (fun _ _ h=>h) _ _ _ h;simp only[bC,bk]at I;simp only[aw]at I⊢;refine⟨I.1,fun e=>(by cases e),fun _ e=>(by cases e),fun aX dj e=>?_,fun _ e=>(by cases e)⟩;cases e;simp only[bQ]at h⊢;exact h
section
variable {pr:Nat->Prop} {w:World} {ν μ:aD} {B:List (aq×List ab)} {e:List (aq×cq)} {R:Nat->Prop} {rw:List aq} {κ:Nat}
 (aP:Good pr w ν B e) (he:u4 ν R rw) (bF:∀b,R b->∀k j,¬ν.tr k j b) (xL:∀b o,ν.A b o->μ.A b o) (I2:∀k∈rw,∀own,look k e=some own->∀b,iI ν k b->∀o,o<own.n*own.sz->μ.A b o)
include aP he bF xL I2
mutual
theorem zR:∀(p:ab) (v:Value) (j:Nat),aw w ν p v->cC e p->(b8 e p).Nodup->(∀k∈bW p,k∈rw)->(∀i S,(ed ν R e p)[i]? =some S->∀b,S b->μ.tr (.loc κ) (j+i) b)->aw w μ (fold κ e j p) v
 | .int k n,v,_,h,_,_,_,_=>by simpa only[aw,fold]using h
 | .bool b,v,_,h,_,_,_,_=>by simpa only[aw,fold]using h
 | .str s,v,_,h,_,_,_,_=>by simpa only[aw,fold]using h
 | .slice sz tag xs,v,j,h,ag,aR,J,ao=>by
  simp only[aw]at h;obtain⟨⟨a,cap,I,aa,ak,aK⟩,_,dZ,hS,_⟩:=h;simp only[fold];refine BY (tag:= .no) ?_ (pL xs);by_cases au:∃k i,tag= .tr k i
  ·obtain⟨k,i,rfl⟩:=au;have aH:=xE .no v (hS k i rfl);refine p5 (fun b o h=>⟨xL b o h,rfl⟩) (fun _ _ _=>rfl) _ _ _ v (fun b af=>?_) aH;simpa using ao 0 (fun b=>ν.tr k i b/\¬R b) (by simp[ed]) b ⟨af,fun hr=>bF b hr _ _ af⟩
  by_cases yd:∃k,tag= .own k
  ·obtain⟨k,rfl⟩:=yd;simp only[cC]at ag;obtain⟨_,⟨el,aA⟩,lB,cO⟩:=ag;obtain⟨n',u,g1,g2,g3⟩:=dZ k rfl;obtain⟨v0,dX,bJ,cj,de,du⟩:=aP.own k _ aA;simp only at bJ cj de;rw[g1]at bJ;simp only[dv,hx]at bJ;obtain⟨rfl,rfl⟩:=bJ;have DV:=g3 rfl;subst DV;have Ak:k∈rw:=J k (by simp[bW]);simp only[bQ];refine⟨a,cap,by rw[kf];exact I,by rw[kf];exact aa,by rw[kf];exact ak,?_⟩;rcases aK with rfl|⟨b,off,us,ah,cB,e0⟩
   ·exact .inl rfl
   by_cases ou:xs=[]
   ·left;rw[ou];rfl
   right;subst ah;rcases cj.2 with⟨ah,_⟩|⟨g,xo,cur,f1,f2,f3,f4,f5,f6,f7⟩
   ·rw[ah]at I;cases I
   have h0:v.ownBlock=some g:=by rw[f1];rfl
   have q8:iI ν k g:=⟨_,_,g1,h0⟩;have vE:∀b,(iI ν k b\/(iG ν (tnL xs) b/\¬R b))->μ.tr (.loc κ) j b:=fun b af=>by simpa using ao 0 (fun b=>iI ν k b\/(iG ν (tnL xs) b/\¬R b)) (by simp[ed]) b af
   rw[f1]at I;simp only[aay,dv,Addr.mk.injEq]at I;obtain⟨⟨rfl,rfl,_⟩,_,rfl⟩:=I;have hlen:=nI e0;refine⟨g,0,us,fun c=>iG ν (tnL xs) c/\¬R c,rfl,vE g (.inl q8),fun c az=>⟨vE c (.inr az),fun _ CH=>az.2 (by rw[CH];exact he.R k g Ak q8)⟩,sW (fun b o h=>⟨xL b o h,rfl⟩) _ _ cB,fun _=>⟨rfl,?_,el,?_⟩,?_⟩
   ·rw[hlen];exact Nat.mul_pos (nT.2 ou) cO
   ·simp only[shape,f3,f6]
   ·have I:=EO he.trd xs us e0 lB (by simpa only[b8]using aR);exact zT (fun b o h=>⟨xL b o h,rfl⟩) (fun _ _ _=>rfl) _ _ _ us (fun b af=>⟨af,fun hr=>by obtain⟨aX,jr,_,au⟩:=af;exact bF b hr _ _ au⟩) I
  ·have ad:xs=[]:=by
    simp only[cC]at ag;split at ag
    ·exact absurd ⟨_,_,rfl⟩ au
    ·exact absurd ⟨_,rfl⟩ yd
    ·exact ag
   subst ad;simp only[bz,bQ];exact⟨a,cap,I,aa,ak,.inl trivial⟩
 | .row sz k n,v,j,h,ag,aR,J,ao=>by
  simp only[cC]at ag;obtain⟨⟨m,hm⟩,⟨xs,el,aA,lB⟩,cO⟩:=ag;have gh:rF e k=xs:=by simp[rF,aA]
  simp only[aw]at h;obtain⟨⟨GI,c0,AA⟩,hg,n',u,g1,g2,g3⟩:=h;obtain⟨v0,us,bJ,cj,de,du⟩:=aP.own k _ aA;simp only at bJ cj de;rw[g1]at bJ;simp only[dv,hx]at bJ;obtain⟨rfl,rfl⟩:=bJ;have DV:=g3 rfl;subst DV;obtain⟨cy,kK,qq⟩:=du xs rfl;simp only at cy kK;have Ak:k∈rw:=J k (by simp[bW]);rcases cj.2 with⟨ah,_⟩|⟨g,cap,cur,f1,f2,f3,f4,f5,f6,f7⟩
  ·rw[ah]at AA;cases AA
  have h0:v.ownBlock=some g:=by rw[f1];rfl
  have q8:iI ν k g:=⟨_,_,g1,h0⟩;have vE:∀b,(iI ν k b\/(iG ν (tnL (rF e k)) b/\¬R b))->μ.tr (.loc κ) j b:=fun b af=>by simpa using ao 0 (fun b=>iI ν k b\/(iG ν (tnL (rF e k)) b/\¬R b)) (by simp[ed]) b af
  rw[gh]at vE;simp only[fold,gh];refine BY (tag:= .no) ?_ (pL xs);simp only[bQ];refine⟨some ⟨g,0,none⟩,cap,by rw[kf,cy];exact f1,by rw[kf,cy];exact f4,⟨f5,by rw[kf,cy];exact hg⟩,?_⟩;by_cases ou:xs=[]
  ·left;rw[ou];rfl
  ·right;have hlen:=nI kK;refine⟨g,0,us,fun c=>iG ν (tnL xs) c/\¬R c,rfl,vE g (.inl q8),fun c az=>⟨vE c (.inr az),fun _ CH=>az.2 (by rw[CH];exact he.R k g Ak q8)⟩,v7 us 0 fun i u aB=>?_,fun _=>⟨rfl,?_,el,?_⟩,?_⟩
   ·have k4:i<us.length:=(fG.1 aB).1;refine⟨I2 k Ak _ aA g q8 _ (by simp only;rw[cj.1]at k4;omega),?_⟩;have:=cj.cells h0 i u aB;rwa[lU]at this
   ·rw[hlen];exact Nat.mul_pos (nT.2 ou) cO
   ·simp only[shape,f3,f6]
   ·have I:=EO he.trd xs us kK lB (by simpa only[b8,gh]using aR);exact zT (fun b o h=>⟨xL b o h,rfl⟩) (fun _ _ _=>rfl) _ _ _ us (fun b af=>⟨af,fun hr=>by obtain⟨aX,jr,_,au⟩:=af;exact bF b hr _ _ au⟩) I
 | .agg cs,v,j,h,ag,aR,J,ao=>by simp only[aw,cC,b8,bW,ed,fold]at h ag aR J ao⊢;obtain⟨us,I,aa⟩:=h;exact⟨us,I,Io cs _ j aa ag aR J ao⟩
 | .tuple cs,v,j,h,ag,aR,J,ao=>by simp only[aw,cC,b8,bW,ed,fold]at h ag aR J ao⊢;obtain⟨us,I,aa⟩:=h;exact⟨us,I,Ip cs _ j aa ag aR J ao⟩
 | .junk,_,_,_,ag,_,_,_=>by simp[cC]at ag
 | .ptr _ _,_,_,_,ag,_,_,_=>by simp[cC]at ag
 | .eptr _,_,_,_,ag,_,_,_=>by simp[cC]at ag
 | .iface _ _,_,_,_,ag,_,_,_=>by simp[cC]at ag
 | .nilp,_,_,_,ag,_,_,_=>by simp[cC]at ag
 | .func _ _,_,_,_,ag,_,_,_=>by simp[cC]at ag
 | .gmap _,_,_,_,ag,_,_,_=>by simp[cC]at ag
 | .rptr _ _ _ _ _,_,_,_,ag,_,_,_=>by simp[cC]at ag
 | .hdm _ _,_,_,_,ag,_,_,_=>by simp[cC]at ag
 | .hdi _ _ _,_,_,_,ag,_,_,_=>by simp[cC]at ag
 | .cst _,_,_,_,ag,_,_,_=>by simp[cC]at ag
theorem Io:∀(cs:List ab) (us:List Value) (j:Nat),bV w ν cs us->dN e cs->(dd e cs).Nodup->(∀k∈db cs,k∈rw)->(∀i S,(lK ν R e cs)[i]? =some S->∀b,S b->μ.tr (.loc κ) (j+i) b)->bV w μ (dV κ e j cs) us
 |[],us,j,h,_,_,_,_=>by simpa only[bV,dV]using h
 |c::cs,us,j,h,ag,aR,J,ao=>by
  simp only[bV,dN,dd,db,lK,dV]at h ag aR J ao⊢;obtain⟨u,a6,I,⟨aa,ak⟩,aK⟩:=h;have gS:=nU.1 aR;refine⟨u,a6,I,⟨zR c u j aa ag.1 gS.1 (fun k bq=>J k (kk _ bq)) (fun i S aB b af=>ao i S (by rw[nS (fG.1 aB).1];exact aB) b af),ak⟩,
   Io cs a6 _ aK ag.2 gS.2.1 (fun k bq=>J k (iz _ bq)) (fun i S aB b af=>?_)⟩
  have:=ao (dU c+i) S (by rw[List.getElem?_append_right (by rw[uU];omega),uU];simpa using aB) b af;rwa[<-Nat.add_assoc]at this
theorem Ip:∀(cs:List ab) (us:List Value) (j:Nat),bP w ν cs us->dN e cs->(dd e cs).Nodup->(∀k∈db cs,k∈rw)->(∀i S,(lK ν R e cs)[i]? =some S->∀b,S b->μ.tr (.loc κ) (j+i) b)->bP w μ (dV κ e j cs) us
 |[],us,j,h,_,_,_,_=>by simpa only[bP,dV]using h
 |c::cs,us,j,h,ag,aR,J,ao=>by
  simp only[bP,dN,dd,db,lK,dV]at h ag aR J ao⊢;obtain⟨u,a6,I,aa,aK⟩:=h;have gS:=nU.1 aR;refine⟨u,a6,I,zR c u j aa ag.1 gS.1 (fun k bq=>J k (kk _ bq)) (fun i S aB b af=>ao i S (by rw[nS (fG.1 aB).1];exact aB) b af),
   Ip cs a6 _ aK ag.2 gS.2.1 (fun k bq=>J k (iz _ bq)) (fun i S aB b af=>?_)⟩
  have:=ao (dU c+i) S (by rw[List.getElem?_append_right (by rw[uU];omega),uU];simpa using aB) b af;rwa[<-Nat.add_assoc]at this
end
end
end
section
open Go Go.RowKit
mutual
theorem KN:∀p:ab,dk p->∀x∈tn p,x.1≠cV
 | .slice _ tag xs,ag,x,ad=>by cases tag<;>simp only[tn,dk]at ag ad<;>simp at ad;subst ad;exact ag
 | .agg cs,ag,x,ad=>by simp only[tn,dk]at ag ad;exact Ba cs ag x ad
 | .int _ _,_,_,ad=>by simp[tn]at ad
 | .bool _,_,_,ad=>by simp[tn]at ad
 | .str _,_,_,ad=>by simp[tn]at ad
 | .junk,_,_,ad=>by simp[tn]at ad
 | .ptr _ _,_,_,ad=>by simp[tn]at ad
 | .eptr _,_,_,ad=>by simp[tn]at ad
 | .iface _ _,_,_,ad=>by simp[tn]at ad
 | .nilp,_,_,ad=>by simp[tn]at ad
 | .tuple _,_,_,ad=>by simp[tn]at ad
 | .func _ _,_,_,ad=>by simp[tn]at ad
 | .gmap _,_,_,ad=>by simp[tn]at ad
 | .row _ _ _,_,_,ad=>by simp[tn]at ad
 | .rptr _ _ _ _ _,_,_,ad=>by simp[tn]at ad
 | .hdm _ _,_,_,ad=>by simp[tn]at ad
 | .hdi _ _ _,_,_,ad=>by simp[tn]at ad
 | .cst _,_,_,ad=>by simp[tn]at ad
theorem Ba:∀p:List ab,dW p->∀x∈tnL p,x.1≠cV
 |[],_,x,ad=>by simp[tnL]at ad
 |c::cs,ag,x,ad=>by
  simp only[tnL,dW,ha]at ag ad;rcases ad with ad|ad
  ·exact KN c ag.1 x ad
  ·exact Ba cs ag.2 x ad
end
mutual
theorem EN{e:List (aq×cq)}:∀p:ab,cC e p->∀x∈b8 e p,x.1≠cV
 | .slice _ tag xs,ag,x,ad=>by
  cases tag with
  |own k=>simp only[b8,cC]at ag ad;exact Ba xs ag.2.2.1 x ad
  |tr k i=>simp only[b8,cC]at ag ad;simp at ad;subst ad;exact ag
  |no=>simp[b8]at ad
  |nil=>simp[b8]at ad
  |lo k=>simp[b8]at ad
 | .row _ k _,ag,x,ad=>by simp only[b8,cC]at ag ad;obtain⟨_,⟨xs,el,aA,lB⟩,_⟩:=ag;rw[show rF e k=xs from by simp[rF,aA]]at ad;exact Ba xs lB x ad
 | .agg cs,ag,x,ad=>by simp only[b8,cC]at ag ad;exact EL cs ag x ad
 | .tuple cs,ag,x,ad=>by simp only[b8,cC]at ag ad;exact EL cs ag x ad
 | .int _ _,_,_,ad=>by simp[b8]at ad
 | .bool _,_,_,ad=>by simp[b8]at ad
 | .str _,_,_,ad=>by simp[b8]at ad
 | .junk,_,_,ad=>by simp[b8]at ad
 | .ptr _ _,_,_,ad=>by simp[b8]at ad
 | .eptr _,_,_,ad=>by simp[b8]at ad
 | .iface _ _,_,_,ad=>by simp[b8]at ad
 | .nilp,_,_,ad=>by simp[b8]at ad
 | .func _ _,_,_,ad=>by simp[b8]at ad
 | .gmap _,_,_,ad=>by simp[b8]at ad
 | .rptr _ _ _ _ _,_,_,ad=>by simp[b8]at ad
 | .hdm _ _,_,_,ad=>by simp[b8]at ad
 | .hdi _ _ _,_,_,ad=>by simp[b8]at ad
 | .cst _,_,_,ad=>by simp[b8]at ad
theorem EL{e:List (aq×cq)}:∀p:List ab,dN e p->∀x∈dd e p,x.1≠cV
 |[],_,x,ad=>by simp[dd]at ad
 |c::cs,ag,x,ad=>by
  simp only[dd,dN,ha]at ag ad;rcases ad with ad|ad
  ·exact EN c ag.1 x ad
  ·exact EL cs ag.2 x ad
end
mutual
theorem yw{e:List (aq×cq)}:∀p:ab,cC e p->∀k∈bW p,∃own,look k e=some own
 | .row sz k n,ag,aX,J=>by simp only[bW,cC]at ag J;obtain⟨_,⟨xs,el,aA,lB⟩,_⟩:=ag;simp at J;subst J;exact⟨_,aA⟩
 | .agg cs,ag,x,ad=>by simp only[bW,cC]at ag ad;exact EM cs ag x ad
 | .tuple cs,ag,x,ad=>by simp only[bW,cC]at ag ad;exact EM cs ag x ad
 | .slice sz tag xs,ag,aX,J=>by
  cases tag with
  |own k=>simp only[bW,cC]at ag J;obtain⟨_,⟨el,aA⟩,_⟩:=ag;simp at J;subst J;exact⟨_,aA⟩
  |tr k i=>simp[bW]at J
  |no=>simp[bW]at J
  |nil=>simp[bW]at J
  |lo k=>simp[bW]at J
 | .int _ _,_,_,ad=>by simp[bW]at ad
 | .bool _,_,_,ad=>by simp[bW]at ad
 | .str _,_,_,ad=>by simp[bW]at ad
 | .junk,_,_,ad=>by simp[bW]at ad
 | .ptr _ _,_,_,ad=>by simp[bW]at ad
 | .eptr _,_,_,ad=>by simp[bW]at ad
 | .iface _ _,_,_,ad=>by simp[bW]at ad
 | .nilp,_,_,ad=>by simp[bW]at ad
 | .func _ _,_,_,ad=>by simp[bW]at ad
 | .gmap _,_,_,ad=>by simp[bW]at ad
 | .rptr _ _ _ _ _,_,_,ad=>by simp[bW]at ad
 | .hdm _ _,_,_,ad=>by simp[bW]at ad
 | .hdi _ _ _,_,_,ad=>by simp[bW]at ad
 | .cst _,_,_,ad=>by simp[bW]at ad
theorem EM{e:List (aq×cq)}:∀p:List ab,dN e p->∀k∈db p,∃own,look k e=some own
 |[],_,x,ad=>by simp[db]at ad
 |c::cs,ag,x,ad=>by
  simp only[db,dN,ha]at ag ad;rcases ad with ad|ad
  ·exact yw c ag.1 x ad
  ·exact EM cs ag.2 x ad
end
end
end Go.Pv
