/- Contracts of functions that hand back memory of their own, II. -/
import Derived.Test.YtlnndmgfngfeiaaGreatDoorV2
set_option linter.all false
set_option maxHeartbeats 4000000
set_option maxRecDepth 4000
open Bool renaming and_eq_true->bF,false_eq_true->kE
open Go renaming Operand->ix,Program->b3,TypeId->fT
open Go.Region renaming wanted->o2
open Go.Result renaming andThen_ok->e8
open Go.Sem renaming run_bind->e4,run_pure->fO
open Go.Value.slice renaming injEq->amR
open List renaming all_eq_true->hq,cons_append->ds,eq_nil_of_length_eq_zero->n5,getElem?_append_left->rE,getElem?_eq_some_iff->eV,length_cons->ga,length_nil->mh,length_pos_iff->sY,map_cons->ek,mem_append->fM,mem_append_left->rF,mem_cons->gb,mem_map->n8,mem_singleton->mi,nil_append->eW,nodup_append->rG
open Nat renaming le_refl->c7,zero_add->n9
open Option renaming getD_some->qE,isSome_iff_exists->fG,map_some->oa
open Option.some renaming inj->hd,injEq->dH
open Prod.mk renaming injEq->gz
open _root_ renaming False->dD,Option->a1,beq_iff_eq->dK,decide_eq_true_eq->ea,if_neg->bo,if_pos->bP
namespace Go.Pv
section
open Go Go.RowKit
inductive dM where
 |s (i:dL)
 |call (d:a1 Nat) (f:cY) (xs:List cY)
 |next (d:Nat) (x:cY)
 |opn (d:a1 Nat) (f:cY) (xs:List cY)
 |callb (d:a1 Nat) (f:cY)
structure cT where
 g:a1 (Nat×Bool)
 i:dM
def dL.dst:dL->a1 Nat
 | .v d _| .box d _ _| .alloc d _ _| .bsl d _ _ _| .app d _ _ _ _| .bslm d _ _ _ _| .appm d _ _ _ _ _| .mkmap d _| .range d _ _| .mks d _ _ _ _ _| .apps d _ _ _=>some d
 | .store _ _ _| .mput _ _ _ _| .storeE _ _ _=>none
def dM.dst:dM->a1 Nat
 | .s i=>i.dst
 | .call d _ _=>d
 | .next d _=>some d
 | .opn d _ _=>d
 | .callb d _=>d
def bc(P:b3)(n:Nat)(args:List al)(st:a6)(d:a1 Nat)(K:a6->Prop):Prop:=
 (∃s Q,oX (ag s) s.b st.b/\oY (ag s) s.e st.e/\jc s/\aj (ag s) args/\bJ P n args s Q/\
  ∀r aq,Q r aq->((∀m,(look (.obj m) aq.b).isSome->(look (.obj m) s.b).isSome\/ .obj m∉st.o)/\(∀m,(look (.obj m) aq.e).isSome->(look (.obj m) s.e).isSome\/ .obj m∉st.o))/\K (after st s aq d r))\/
 (∃s Q,oX (ag s) s.b st.b/\oY (ag s) s.e st.e/\jc s/\aj (ag s) args/\ .loc st.n∉st.o/\Hh P n st.n args s Q/\
  ∀r aq,Q r aq->((∀m,(look (.obj m) aq.b).isSome->(look (.obj m) s.b).isSome\/ .obj m∉st.o)/\(∀m,(look (.obj m) aq.e).isSome->(look (.obj m) s.e).isSome\/ .obj m∉st.o))/\K {after st s aq d r with n:=st.n+1})
def SM(st:a6)(d:Nat)(hl mk:aO)(since:Nat)(seen:List Nat)(last clock:Nat)(borns:List Nat)(kvs:List al)(K:a6->Prop):Prop:=
 (since=clock/\last=clock)/\((∀b∈borns,b∈seen)->K {st with t:=put d (.tuple [.bool false]) st.t})/\
 (∀b k v,oM b borns kvs=some (.tuple [k,v])->b∉seen->K {st with t:=put d (.tuple [.bool true,k,v]) st.t,b:=dd hl [.hdi since (seen++[b]) last,.gmap mk] st.b})
def xA(st:a6)(d:Nat)(v:al)(K:a6->Prop):Prop:=
 match v with
 | .ptr hl 0=>match look hl st.b with
  |some [.hdi since seen last,.gmap mk]=>match look mk st.b with
   |some (.hdm clock borns::kvs)=>SM st d hl mk since seen last clock borns kvs K
   |_=>dD
  |_=>dD
 |_=>dD
def A0(P:b3)(ob:List aO)(n:Nat)(args:List al)(st:a6)(d:a1 Nat)(K:a6->Prop):Prop:=
 ∀(C:eI) (a:Act) (w:World) (ν:aW) (vs:Array Value),C.ob=ob->cv C st a w ν->cw w ν args vs.toList->hv C.N d=true->
  vF P n vs w fun e w'=> ∃v st' ν',e= .returned v/\K st'/\cv C st' (a.put d v) w' ν'
def pZ(P:b3)(ob:List aO)(st:a6)(K:a6->Prop):dM->Prop
 | .next d x=>xA st d (bQ st.t x) K
 | .s i=>match lO st i with
  |some (c,st')=>c/\K st'
  |none=>dD
 | .call d f xs=>match bQ st.t f with
  | .func n dy=>bc P n (ca (xs.map (bQ st.t)++dy)) st d K
  |_=>dD
 | .opn d f xs=>match bQ st.t f with
  | .func n dy=>A0 P ob n (xs.map (bQ st.t)++dy) st d K
  |_=>dD
 | .callb d f=>match bQ st.t f with
  | .func n dy=> ¬n<1000000/\bc P (vD n) (ca dy) st d K
  |_=>dD
def hh(P:b3)(ob:List aO):List cT->a6->(a6->Prop)->Prop
 |[],st,K=>K st
 |⟨none,i⟩::r,st,K=>pZ P ob st (fun st'=>hh P ob r st' K) i
 |⟨some (s,want),i⟩::r,st,K=>match get s st.t with
  | .bool b=>(b=want->pZ P ob {st with t:=put s (.bool want) st.t} (fun st'=>hh P ob r st' K) i)/\(b= !want->hh P ob r {st with t:=fk i.dst (.tuple []) (put s (.bool !want) st.t)} K)
  | .tuple []=>hh P ob r {st with t:=fk i.dst (.tuple []) st.t} K
  |_=>dD
def sC(N:Nat)(bu:List (Nat×dt))(i:dM)(o:Oper):Bool:=
 match i with
 | .s i=>rl N bu i o
 | .next d x=>match o.op with
  | .next it false=>o.dst==some d&&decide (d<N)&&dX x it
  |_=>false
 | .call d f xs=>match o.op with
  | .call ⟨.value iJ,args,_⟩=>o.dst==d&&hv N d&&dX f iJ&&vj xs args.toList
  |_=>false
 | .opn d f xs=>match o.op with
  | .call ⟨.value iJ,args,_⟩=>o.dst==d&&hv N d&&dX f iJ&&vj xs args.toList
  |_=>false
 | .callb d f=>match o.op with
  | .call ⟨.value iJ,⟨[]⟩,_⟩=>o.dst==d&&hv N d&&dX f iJ
  |_=>false
def BP(N:Nat)(bu:List (Nat×dt))(ops:List Oper)(g:cT)(o:Oper):Bool:=
 (match g.g,o.guard with
  |none,none=>true
  |some (s,b),some (j,fN)=>b==fN&&((ops[j]?).bind (·.dst))==some s&&decide (s<N)&&o.dst==g.i.dst&&hv N g.i.dst
  |_,_=>false)&&sC N bu g.i o
def ko(N:Nat)(bu:List (Nat×dt))(ops:List Oper):List cT->List Oper->Bool
 |[],[]=>true
 |g::gs,o::os=>BP N bu ops g o&&ko N bu ops gs os
 |_,_=>false
theorem UL{w:World}{ν:aW}:∀{b2 bD:List al} {vs us:List Value},cw w ν b2 vs->cw w ν bD us->cw w ν (b2++bD) (vs++us)
 |[],bD,vs,us,h,cx=>by simp only[cw]at h;subst h;simpa using cx
 |p::b2,bD,vs,us,h,cx=>by simp only[cw]at h;obtain⟨u,bI,rfl,I,J⟩:=h;simp only[ds,cw];exact⟨u,_,rfl,I,UL J cx⟩
theorem vF.mono{P:b3}{f:FuncId}{vs:Array Value}{w:World}{R Hi:Ending->World->Prop}(h:vF P f vs w R)(bH:∀e w',R e w'->Hi e w'):vF P f vs w Hi:=by
 rcases h with⟨I,J⟩|⟨v,w',I,J⟩
 ·exact .inl ⟨I,J.mono bH⟩
 ·exact .inr ⟨v,w',I,bH _ _ J⟩
theorem agY{P:b3}{a:Act}{w:World}{o:Oper}{iJ:ix}{args:Array ix}{ts:Array fT}(ja:o.op= .call ⟨.value iJ,args,ts⟩){n:Nat}{us:Array Value}(aK:a.eval iJ= .func (.func n) #[] us)(r:Result Next)(hr:(callFunc n (args.map a.eval++us)).run P w=r):(execOp a.eval o).run P w=r:=by obtain⟨dst,op,ty,pos,Hv,Qi⟩:=o;simp only at ja;subst ja;simp only[execOp,resolve,aK,Deferred.ofValue,e4,fO,e8,invoke];simpa using hr
theorem agZ{P:b3}{a:Act}{w:World}{o:Oper}{iJ:ix}{ts:Array fT}(ja:o.op= .call ⟨.value iJ,#[],ts⟩){n:Nat}{us:Array Value}(aK:a.eval iJ= .func (.func n) us #[])(r:Result Next)(hr:(callFunc n us).run P w=r):(execOp a.eval o).run P w=r:=by obtain⟨dst,op,ty,pos,Hv,Qi⟩:=o;simp only at ja;subst ja;simp only[execOp,resolve,aK,Deferred.ofValue,e4,fO,e8,invoke];simpa using hr
theorem Lu{P:b3}(ef:P.funcs.size<=1000000){a:Act}{w:World}{ν:aW}{o:Oper}{iJ:ix}{args:Array ix}{ts:Array fT}(ja:o.op= .call ⟨.value iJ,args,ts⟩){n:Nat}{dy:List al}(aY:aT w ν (.func n dy) (a.eval iJ)){b2:List al}(jD:cw w ν b2 (args.toList.map a.eval)):
  ∃vs:Array Value,(∀x w',(callFunc n vs).run P w= .ok x w'->(execOp a.eval o).run P w= .ok x w')/\cw w ν (b2++dy) vs.toList:=by
 rw[aT]at aY;obtain⟨us,aK,hu⟩:=aY;refine⟨args.map a.eval++us,fun x w' hr=>?_,by simpa using UL jD hu⟩;by_cases aJ:n<1000000
 ·exact agY ja (aK.trans (aau aJ us)) _ hr
 ·have hM:P.funcs[n]? =none:=Array.getElem?_eq_none (Nat.le_trans ef (Nat.le_of_not_lt aJ));simp only[callFunc,e4,e8,run_program,hM]at hr;cases hr
theorem ag0{P:b3}{a:Act}{w:World}{ν:aW}{o:Oper}{iJ:ix}{ts:Array fT}(ja:o.op= .call ⟨.value iJ,#[],ts⟩){n:Nat}{dy:List al}(aY:aT w ν (.func n dy) (a.eval iJ))(aJ:¬n<1000000):
  ∃vs:Array Value,(∀x w',(callFunc (vD n) vs).run P w= .ok x w'->(execOp a.eval o).run P w= .ok x w')/\cw w ν dy vs.toList:=by
 rw[aT]at aY;obtain⟨us,aK,hu⟩:=aY;exact⟨us,fun x w' hr=>agZ ja (aK.trans (aat aJ us)) _ hr,hu⟩
theorem OD{P:b3}{C:eI}{st:a6}{a:Act}{w:World}{ν:aW}(hr:cv C st a w ν){o:Oper}{d:a1 Nat}(aP:o.dst=d)(r8:hv C.N d=true)
  {n:Nat} {b2:List al} {qz:Array Value} (k6:∀x w',(callFunc n qz).run P w= .ok x w'->(execOp a.eval o).run P w= .ok x w') (jD:cw w ν b2 qz.toList) {K:a6->Prop}
  (aH:∃(s:dF) (qI:al->dF->Prop) (κ:a1 Nat) (n':Nat) (o':dF->List aO),oX (ag s) s.b st.b/\oY (ag s) s.e st.e/\jc s/\aj (ag s) (ca b2)/\(∀(w:World) (ν:aW) (vs:Array Value) (gl:oc w ν),Good (gn ν s) w ν s.b s.e->qW ν s->cw w ν (ca b2) vs.toList->
   vF P n vs w fun e w'=> ∃v r aq ν',e= .returned v/\qI r aq/\aT w' ν' r v/\Good (fun bl=>gn ν s bl\/w.heap.size<=bl) w' ν' aq.b aq.e/\Eu κ ν' aq/\jc aq/\qG ⟨w,ν,gn ν s,0,gj s,gl,[]⟩ w' ν')/\
   (∀m,κ=some m->fresh st.n st.o (.loc m))/\(∀k r aq,qI r aq->fresh n' (o' aq) k->fresh st.n (st.o++gj aq) k/\∀m,κ=some m->k≠ .loc m)/\
   ∀r aq,qI r aq->((∀m,(look (.obj m) aq.b).isSome->(look (.obj m) s.b).isSome\/ .obj m∉st.o)/\(∀m,(look (.obj m) aq.e).isSome->(look (.obj m) s.e).isSome\/ .obj m∉st.o))/\K {after st s aq d r with n:=n',o:=o' aq})
  {mR:Act->World->Prop} {Q:Exit->Act->World->Prop} (dk:∀st' c1 w' ν',K st'->cv C st' c1 w' ν'->mR c1 w'):o.wp P a w mR Q:=by
 obtain⟨s,qI,κ,n',o',c8,c2,c3,c4,c5,O5,OW,iW⟩:=aH;have kh:cw w (ν.cut (ag s)) (ca b2) qz.toList:=AF (oe.cut _ w ν) _ _ c4 (GK _ _ jD);have E5:Good (gn (ν.cut (ag s)) s) w (ν.cut (ag s)) s.b s.e:=hr.good.cut c8 c2 (fun bl _ h=>h);have hex:qW (ν.cut (ag s)) s:=by
  intro k;refine⟨?_,?_,?_⟩;rotate_left 2
  ·rintro j b ⟨au,ao⟩;obtain⟨t1,t2⟩:=hr.fr.trn k j b ao;rcases au with au|au<;>obtain⟨x,ad⟩:=fG.1 au
   ·obtain⟨bl,bI,el,aB,_⟩:=hr.good.box k x (c8 k x ad).1;rw[t1]at aB;cases aB
   ·obtain⟨v',bI,aB,_⟩:=hr.good.own k x (c2 k x ad).1;rw[t2]at aB;cases aB
  ·intro aG;by_cases au:ag s k
   ·rw[aW.cut_bx au];rcases au with au|au
    ·rw[aG]at au;cases au
    ·obtain⟨x,ad⟩:=fG.1 au;obtain⟨v',bI,aB,_⟩:=hr.good.own k x (c2 k x ad).1;rcases hr.good.one k with I|I
     ·exact I
     ·rw[I]at aB;cases aB
   ·exact(aW.cut_no au).1
  ·intro aG;by_cases au:ag s k
   ·rw[aW.cut_ow au];rcases au with au|au
    ·obtain⟨x,ad⟩:=fG.1 au;obtain⟨bl,bI,el,aB,_⟩:=hr.good.box k x (c8 k x ad).1;rcases hr.good.one k with I|I
     ·rw[I]at aB;cases aB
     ·exact I
    ·rw[aG]at au;cases au
   ·exact(aW.cut_no au).2.1
 rcases c5 w (ν.cut (ag s)) qz (hr.fr.gl.cut _) E5 hex kh with⟨⟨fn,g1,g2,g3⟩,c5⟩|⟨v,w',c5,bn⟩
 ·obtain⟨code,I0⟩:=fG.1 g2;have hA:(execOp a.eval o).run P w= .ok (.enter n qz) w:=by refine k6 _ _ ?_;simp only[callFunc,e4,fO,e8,run_program,g1,g3,I0];simp
  unfold Oper.wp;rw[hA];simp only[Oper.upon];refine c5.mono fun e w' bn=>?_;obtain⟨v,r,aq,ν',rfl,bA,cz,db,eo,dC,dc⟩:=bn;obtain⟨⟨hn,fS⟩,aa⟩:=iW r aq bA;rw[aP];exact dk _ _ _ _ aa (hr.callK c8 c2 c3 db eo (fun m hm=>hr.new _ (O5 m hm)) (n':=n') (o':=o' aq) (fun k aa=>OW k r aq bA aa) dC dc hn fS d r8 cz)
 ·have hA:(execOp a.eval o).run P w= .ok (.value v) w':=by exact k6 _ _ c5
  obtain⟨v2,r,aq,ν',JR,bA,cz,db,eo,dC,dc⟩:=bn;cases JR;obtain⟨⟨hn,fS⟩,aa⟩:=iW r aq bA;refine kD hA ?_;rw[aP];exact dk _ _ _ _ aa (hr.callK c8 c2 c3 db eo (fun m hm=>hr.new _ (O5 m hm)) (n':=n') (o':=o' aq) (fun k aa=>OW k r aq bA aa) dC dc hn fS d r8 cz)
theorem afZ{P:b3}(ef:P.funcs.size<=1000000){C:eI}{st:a6}{a:Act}{w:World}{ν:aW}(hr:cv C st a w ν){o:Oper}{iJ:ix}{args:Array ix}{ts:Array fT}(ja:o.op= .call ⟨.value iJ,args,ts⟩){d:a1 Nat}(aP:o.dst=d)(r8:hv C.N d=true)
  {n:Nat} {dy:List al} (aY:aT w ν (.func n dy) (a.eval iJ)) {b2:List al} (jD:cw w ν b2 (args.toList.map a.eval)) {K:a6->Prop} (aH:A0 P C.ob n (b2++dy) st d K)
  {mR:Act->World->Prop} {Q:Exit->Act->World->Prop} (dk:∀st' c1 w' ν',K st'->cv C st' c1 w' ν'->mR c1 w'):o.wp P a w mR Q:=by
 obtain⟨qz,k6,kh⟩:=Lu ef ja aY jD;rcases aH C a w ν _ rfl hr kh r8 with⟨⟨fn,g1,g2,g3⟩,c5⟩|⟨v,w',c5,bn⟩
 ·obtain⟨code,I0⟩:=fG.1 g2;have hA:(execOp a.eval o).run P w= .ok (.enter n qz) w:=by refine k6 _ _ ?_;simp only[callFunc,e4,fO,e8,run_program,g1,g3,I0];simp
  unfold Oper.wp;rw[hA];simp only[Oper.upon];refine c5.mono fun e w' bn=>?_;obtain⟨v,st',ν',rfl,aa,dA⟩:=bn;rw[aP];exact dk _ _ _ _ aa dA
 ·have hA:(execOp a.eval o).run P w= .ok (.value v) w':=by exact k6 _ _ c5
  obtain⟨v2,st',ν',JR,aa,dA⟩:=bn;cases JR;refine kD hA ?_;rw[aP];exact dk _ _ _ _ aa dA
theorem OE{P:b3}{C:eI}{st:a6}{a:Act}{w:World}{ν:aW}(hr:cv C st a w ν){o:Oper}{d:a1 Nat}(aP:o.dst=d)(r8:hv C.N d=true)
  {n:Nat} {b2:List al} {qz:Array Value} (k6:∀x w',(callFunc n qz).run P w= .ok x w'->(execOp a.eval o).run P w= .ok x w') (jD:cw w ν b2 qz.toList) {K:a6->Prop} (aH:bc P n (ca b2) st d K)
  {mR:Act->World->Prop} {Q:Exit->Act->World->Prop} (dk:∀st' c1 w' ν',K st'->cv C st' c1 w' ν'->mR c1 w'):o.wp P a w mR Q:=by
 refine OD hr aP r8 k6 jD (K:=K) ?_ dk;rcases aH with⟨s,qI,c8,c2,c3,c4,c5,iW⟩|⟨s,qI,c8,c2,c3,c4,c0,c5,iW⟩
 ·refine⟨s,qI,none,st.n,fun aq=>st.o++gj aq,c8,c2,c3,c4,fun w ν vs gl I J aA=>(c5 w ν vs gl I J aA).mono fun e w' bn=>?_,fun m hm=>(by cases hm),fun k _ aq _ aa=>⟨aa,fun m hm=>by cases hm⟩,iW⟩;obtain⟨v,r,aq,ν',g1,g2,g3,g4,g5,g6⟩:=bn;exact⟨v,r,aq,ν',g1,g2,g3,g4,g5.k,g6⟩
 ·refine⟨s,qI,some st.n,st.n+1,fun aq=>st.o++gj aq,c8,c2,c3,c4,c5,fun m hm=>(by cases hm;exact⟨c7 _,c0⟩),fun k _ aq _ aa=>⟨xI (Nat.le_succ _) (fun _ h=>h) aa,fun m hm=>?_⟩,iW⟩;cases hm;rintro rfl;have:=aa.1;simp only at this;omega
theorem OC{P:b3}(ef:P.funcs.size<=1000000){C:eI}{st:a6}{a:Act}{w:World}{ν:aW}(hr:cv C st a w ν){o:Oper}{iJ:ix}{args:Array ix}{ts:Array fT}(ja:o.op= .call ⟨.value iJ,args,ts⟩){d:a1 Nat}(aP:o.dst=d)(r8:hv C.N d=true)
  {n:Nat} {dy:List al} (aY:aT w ν (.func n dy) (a.eval iJ)) {b2:List al} (jD:cw w ν b2 (args.toList.map a.eval)) {K:a6->Prop} (aH:bc P n (ca (b2++dy)) st d K)
  {mR:Act->World->Prop} {Q:Exit->Act->World->Prop} (dk:∀st' c1 w' ν',K st'->cv C st' c1 w' ν'->mR c1 w'):o.wp P a w mR Q:=by
 obtain⟨qz,k6,kh⟩:=Lu ef ja aY jD;exact OE hr aP r8 k6 kh aH dk
theorem cv.drawn{C:eI}{st:a6}{a:Act}{w:World}{ν:aW}(hr:cv C st a w ν)(n:Nat):cv C st a {w with drawn:=n} ν:=by
 have nP:lW w ν {w with drawn:=n} ν:=⟨fun _ _ h=>⟨h,rfl⟩,fun _ _ _ h=>h,fun _ n u _ h=>⟨n,u,h,.inl ⟨rfl,rfl⟩⟩,fun _ _ _=>rfl,fun _ _ _ _ h=>h⟩;refine hr.over nP rfl ⟨hr.good.alt,fun k cs aa=>?_,hr.good.inj,fun g o aR=>?_,hr.good.oinj,hr.good.obx,hr.good.one,hr.good.otr⟩ ⟨hr.fr.os,hr.fr.tape,hr.fr.output,hr.fr.size,hr.fr.block,hr.fr.keep,hr.fr.fresh,hr.fr.obj,hr.fr.obn,hr.fr.row,hr.fr.obr,hr.fr.trd,hr.fr.trb,hr.fr.trn,hr.fr.sh,hr.fr.nrow⟩ hr.new
 ·obtain⟨bl,us,el,I,J,aA,aS,bG⟩:=hr.good.box k cs aa;exact⟨bl,us,el,I,J,aA,aS,pz nP bG⟩
 ·obtain⟨v,us,I,J,aA,aS⟩:=hr.good.own g o aR;exact⟨v,us,I,J,aA,rj nP (fun _ _ _ h=>h) aS⟩
theorem aao{α:Type}{l:List α}{p:α->Bool}(h:∀x∈l,p x=false):l.filter p=[]:=by rw[List.filter_eq_nil_iff];intro x ad;simp[h x ad]
theorem aan{α:Type}{l:List α}{p:α->Bool}(h:∀x∈l,p x=true):l.filter p=l:=List.filter_eq_self.2 h
def F5(r m since clock:Nat)(seen:Array Nat)(OH:Array (a1 MapEntry)):Sem Value:=do
 match OH[<-choose (.mapNext OH.size)]? with
 |some (some e)=>
  setObj r (.mapIter (some m) since (seen.push e.born) clock)
  pure (.tuple #[.bool true,e.key,e.val])
 |some none=>pure (.tuple #[.bool false])
 |none=>stuck "Next: no such candidate"
theorem UX{P:b3}{w:World}(r m since clock:Nat)(seen:Array Nat)(l:List (a1 MapEntry))(aG:l≠[]):∃n x,x∈l/\(F5 r m since clock seen l.toArray).run P w=
  (match x with|some e=>(do setObj r (.mapIter (some m) since (seen.push e.born) clock);pure (.tuple #[.bool true,e.key,e.val]):Sem Value)|none=>pure (.tuple #[.bool false])).run P {w with drawn:=n}:=by
 have gW:0<l.length:=sY.2 aG;unfold F5;have key:∀i,i<l.length->∀w',((do match(l.toArray[i]?:a1 (a1 MapEntry))with
   |some (some e)=>setObj r (.mapIter (some m) since (seen.push e.born) clock);pure (.tuple #[.bool true,e.key,e.val])
   |some none=>pure (.tuple #[.bool false])
   |none=>stuck "Next: no such candidate" :Sem Value)).run P w'=((match l[i]! with|some e=>(do setObj r (.mapIter (some m) since (seen.push e.born) clock);pure (.tuple #[.bool true,e.key,e.val]):Sem Value)|none=>pure (.tuple #[.bool false]))).run P w':=by
  intro i aE w';have I:l.toArray[i]? =some l[i]!:=by simp[aE]
  rw[I];cases l[i]!<;>rfl
 by_cases aY:(Question.mapNext l.length).forced=true
 ·refine⟨w.drawn,l[0]!,by simp[gW],?_⟩;rw[<-key 0 gW];have aH:(choose (.mapNext l.length):Sem Nat).run P w= .ok 0 w:=by simp[aY]
  simp only[List.size_toArray,e4,aH,e8]
 ·refine⟨w.drawn+1,l[(w.tape w.drawn (.mapNext l.length))%l.length]!,by simp[Nat.mod_lt _ gW],?_⟩;rw[<-key _ (Nat.mod_lt _ gW)];have aH:(choose (.mapNext l.length):Sem Nat).run P w= .ok ((w.tape w.drawn (.mapNext l.length))%l.length) {w with drawn:=w.drawn+1}:=by simp[aY,Question.cut]
  simp only[List.size_toArray,e4,aH,e8]
theorem ag8{P:b3}{w:World}{bl qj:Nat}{seen:List Nat}{es:List MapEntry}{clock:Nat}{ty:fT}(I:w.heap[bl]? =some (.mapIter (some qj) clock seen.toArray clock))(J:w.heap[qj]? =some (.map es.toArray clock))(bY:∀e∈es,e.born<clock):
  ∃n,((∀e∈es,e.born∈seen)/\(Instr.next (.pointer (some ⟨bl,0,none⟩)) false ty).run P w= .ok (.tuple #[.bool false]) {w with drawn:=n})\/
   ∃e∈es,e.born∉seen/\(Instr.next (.pointer (some ⟨bl,0,none⟩)) false ty).run P w= .ok (.tuple #[.bool true,e.key,e.val]) {w with drawn:=n,heap:=w.heap.setIfInBounds bl (.mapIter (some qj) clock (seen++[e.born]).toArray clock)}:=by
 have BZ:(!seen.toArray.isEmpty&& !es.toArray.isEmpty&&es.toArray.all (fun e=>decide (e.born≥clock)))=false:=by
  cases es with
  |nil=>simp
  |cons e r=>have:=bY e Ψ;simp;intro _ h;omega
 generalize xO:(es.filter fun e=> !seen.contains e.born)=left;have acJ:(es.toArray.filter fun e=> !seen.toArray.contains e.born)=left.toArray:=by rw[<-xO];simp
 have k4:∀e∈left,e∈es/\e.born∉seen:=fun e he=>by rw[<-xO]at he;have:=List.mem_filter.1 he;exact⟨this.1,by simpa using this.2⟩
 have hold:(left.toArray.filter fun e=>decide (e.born<clock))=left.toArray:=by rw[List.filter_toArray,aan];intro e he;have:=bY e (k4 e he).1;simp[this]
 have lC:(left.toArray.filter fun e=>decide (e.born≥clock))= #[]:=by rw[List.filter_toArray,aao];intro e he;have:=bY e (k4 e he).1;simp;omega
 have hA:(Instr.next (.pointer (some ⟨bl,0,none⟩)) false ty).run P w=(F5 bl qj clock clock seen.toArray ((if left.toArray.isEmpty then #[none]else #[])++(left.toArray++ #[]).map some)).run P w:=by unfold Instr.next F5;simp only[e4,vw I,vw J,e8,BZ,acJ,hold,lC,kE,if_false];rfl
 rw[hA];by_cases wi:left=[]
 ·subst wi;obtain⟨n,x,g1,g2⟩:=UX (P:=P) (w:=w) bl qj clock clock seen.toArray [none] Ψ;refine⟨n,.inl ⟨fun e he=>?_,?_⟩⟩
  ·have:=List.filter_eq_nil_iff.1 xO e he;simpa using this
  ·simp only[mi]at g1;subst g1;have aH:((if(([]:List MapEntry).toArray).isEmpty then #[none]else #[])++(([]:List MapEntry).toArray++ #[]).map some)=[none].toArray:=by simp
   rw[aH,g2];rfl
 ·have aH:((if left.toArray.isEmpty then #[none]else #[])++(left.toArray++ #[]).map some)=(left.map some).toArray:=by simp[wi]
  obtain⟨n,x,g1,g2⟩:=UX (P:=P) (w:=w) bl qj clock clock seen.toArray (left.map some) (by simpa using wi);simp only[n8]at g1;obtain⟨e,he,rfl⟩:=g1;refine⟨n,.inr ⟨e,(k4 e he).1,(k4 e he).2,?_⟩⟩;rw[aH,g2];simp only[e4];rw[Du (w:={w with drawn:=n}) (o:= .mapIter (some qj) clock seen.toArray clock) I];simp
theorem Im:∀{borns:List Nat} {us:List Value} {e:MapEntry},e∈ft borns us->e.born∈borns
 |[],us,e,h=>by simp[ft]at h
 |b::ev,[],e,h=>by simp[ft]at h
 |b::ev,[_],e,h=>by simp[ft]at h
 |b::ev,k::v::us,e,h=>by
  simp only[ft,gb]at h;rcases h with rfl|h
  ·simp
  ·exact List.mem_cons_of_mem _ (Im h)
theorem Pl:∀{borns:List Nat} {kvs:List al} {us:List Value},kvs.length=2*borns.length->us.length=kvs.length->∀{b:Nat},b∈borns->∃e∈ft borns us,e.born=b
 |[],_,_,_,_,b,ao=>by simp at ao
 |fN::ev,kvs,[],I,J,b,ao=>by rw[I]at J;simp at J
 |fN::ev,kvs,[_],I,J,b,ao=>by rw[I]at J;simp at J;omega
 |fN::ev,kvs,k::v::us,I,J,b,ao=>by
  rcases gb.1 ao with rfl|ao
  ·exact⟨⟨k,v,b⟩,by simp[ft],rfl⟩
  ·obtain⟨e,g1,g2⟩:=Pl (kvs:=kvs.drop 2) (us:=us) (borns:=ev) (by simp at I⊢;omega) (by simp at I J⊢;omega) ao;exact⟨e,by simp[ft,g1],g2⟩
theorem Sy{w:World}{ν:aW}:∀{borns:List Nat} {kvs:List al} {us:List Value},kvs.length=2*borns.length->borns.Pairwise (· < ·)->cw w ν kvs us->∀{e:MapEntry},e∈ft borns us->∃k v,oM e.born borns kvs=some (.tuple [k,v])/\aT w ν k e.key/\aT w ν v e.val
 |[],_,_,_,_,_,e,h=>by simp[ft]at h
 |b::ev,[],us,I,_,_,e,_=>by simp at I
 |b::ev,[_],us,I,_,_,e,_=>by simp at I;omega
 |b::ev,k::v::kvs,us,I,J,aA,e,h=>by
  simp only[cw]at aA;obtain⟨ik,AQ,rfl,eU,hF,pH,rfl,e3,n1⟩:=aA;simp only[ft,gb]at h;rw[List.pairwise_cons]at J;rcases h with rfl|h
  ·exact⟨k,v,by simp[oM],eU,e3⟩
  ·obtain⟨bz,v',g1,g2,g3⟩:=Sy (by simp at I;omega) J.2 n1 h;have cD:b≠e.born:=Nat.ne_of_lt (J.1 _ (Im h));exact⟨bz,v',by simp[oM,cD,g1],g2,g3⟩
theorem aeM{P:b3}{C:eI}{st:a6}{a:Act}{w:World}{ν:aW}(hr:cv C st a w ν){o:Oper}{it:ix}(ja:o.op= .next it false){d:Nat}(aP:o.dst=some d)(r8:hv C.N (some d)=true){v:al}(aK:aT w ν v (a.eval it)){K:a6->Prop}(he:xA st d v K)
  {mR:Act->World->Prop} {Q:Exit->Act->World->Prop} (dk:∀st' c1 w' ν',K st'->cv C st' c1 w' ν'->mR c1 w'):o.wp P a w mR Q:=by
 unfold xA at he;split at he
 ·rename_i hl;split at he
  ·rename_i since seen last mk kd;split at he
   ·rename_i clock borns kvs x4;obtain⟨⟨rfl,rfl⟩,I7,I8⟩:=he;simp only[aT]at aK;obtain⟨bl,ck,cr⟩:=aK;obtain⟨iy,us,el,cz,db,eo,dC,dc⟩:=hr.good.box hl _ kd;rw[ck]at cz;cases cz;obtain⟨qj,ms,alF,m1,m2,m3,m4,m5⟩:=hr.good.box mk _ x4;simp only[h9,cw]at dc;obtain⟨u,bI,hu,⟨alE,eU,rfl⟩,rfl⟩:=dc;rw[m1]at eU;cases eU;simp only[iP,hu]at dC;simp only[iP]at m4;simp only[h9]at m5;obtain⟨n,l1⟩:=ag8 (P:=P) (ty:=o.type) dC m4 (fun e he=>m5.2.lt _ (Im he));have kc:∀v' w',(Instr.next (.pointer (some ⟨bl,0,none⟩)) false o.type).run P w= .ok v' w'->(execOp a.eval o).run P w= .ok (.value v') w':=by intro v' w' hA;obtain⟨dst,op,ty,pos,Hv,Qi⟩:=o;simp only at ja hA;subst ja;simp only[execOp,cr];exact DL hA
    rcases l1 with⟨I,J⟩|⟨e,I,J,aA⟩
    ·refine kD (kc _ _ J) ?_;rw[aP];refine dk _ _ _ _ (I7 fun b ao=>?_) ((hr.drawn n).put r8 (p:= .tuple [.bool false]) (by simp[aT,cw]));obtain⟨e,f1,f2⟩:=Pl m5.2.len (GJ m5.1) ao;rw[<-f2];exact I e f1
    ·obtain⟨k,v,f1,f2,f3⟩:=Sy m5.2.len m5.2.inc m5.1 I;refine kD (kc _ _ aA) ?_;rw[aP];have ni:=((hr.drawn n).setBox (w':={w with drawn:=n,heap:=w.heap.setIfInBounds bl (.mapIter (some qj) last (seen++[e.born]).toArray last)}) kd ck (cs':=[.hdi last (seen++[e.born]) last,.gmap mk]) (us:=us) (el:=el) rfl rfl rfl
      (fun j aD=>Array.getElem?_setIfInBounds_ne (Ne.symm aD)) Ψ (by simp[iP,hu,(Array.getElem?_eq_some_iff.1 dC).1]) (by simp only[h9,cw];exact⟨_,_,hu,by simp only[aT];exact⟨qj,m1,rfl⟩,rfl⟩))
     refine dk _ _ _ _ (I8 e.born k v f1 J) (ni.1.put r8 (p:= .tuple [.bool true,k,v]) ?_);simp only[aT];refine⟨_,rfl,?_⟩;simp only[cw];have nP:lW w ν {w with drawn:=n} ν:=⟨fun _ _ h=>⟨h,rfl⟩,fun _ _ _ h=>h,fun _ n u _ h=>⟨n,u,h,.inl ⟨rfl,rfl⟩⟩,fun _ _ _=>rfl,fun _ _ _ _ h=>h⟩;exact⟨_,_,rfl,by simp[aT],_,_,rfl,vt ni.2 (vt nP f2),_,_,rfl,vt ni.2 (vt nP f3),rfl⟩
   ·exact he.elim
  ·exact he.elim
 ·exact he.elim
theorem Pn{P:b3}{bu:List (Nat×dt)}(aI:e7 P bu=true){C:eI}{st:a6}{a:Act}{w:World}{ν:aW}(hr:cv C st a w ν){i:dM}{o:Oper}(az:sC C.N bu i o=true){K:a6->Prop}(he:pZ P C.ob st K i)
  {mR:Act->World->Prop} {Q:Exit->Act->World->Prop} (dk:∀st' c1 w' ν',K st'->cv C st' c1 w' ν'->mR c1 w'):o.wp P a w mR Q:=by
 cases i with
 |s i=>
  simp only[pZ]at he;split at he
  ·rename_i c st' au;exact ahc aI hr (by simpa only[sC]using az) au he.1 fun c1 w' ν' h=>dk _ _ _ _ he.2 h
  ·exact he.elim
 |next d x=>
  simp only[pZ]at he;simp only[sC]at az;split at az
  ·rename_i it ja;simp only[bF,dK,ea]at az;obtain⟨⟨I,J⟩,aA⟩:=az;exact aeM hr ja I (by simpa[hv]using J) (dY hr aA) he dk
  ·cases az
 |call d f xs=>
  simp only[pZ]at he;simp only[sC]at az;split at az
  ·rename_i iJ args ts ja;simp only[bF,dK]at az;obtain⟨⟨⟨I,J⟩,aA⟩,aS⟩:=az;split at he
   ·rename_i n dy aY;have:=dY hr aA;rw[aY]at this;exact OC (e7.sz aI) hr ja I J this (yB hr aS) he dk
   ·exact he.elim
  ·cases az
 |opn d f xs=>
  simp only[pZ]at he;simp only[sC]at az;split at az
  ·rename_i iJ args ts ja;simp only[bF,dK]at az;obtain⟨⟨⟨I,J⟩,aA⟩,aS⟩:=az;split at he
   ·rename_i n dy aY;have:=dY hr aA;rw[aY]at this;exact afZ (e7.sz aI) hr ja I J this (yB hr aS) he dk
   ·exact he.elim
  ·cases az
 |callb d f=>
  simp only[pZ]at he;simp only[sC]at az;split at az
  ·rename_i iJ ts ja;simp only[bF,dK]at az;obtain⟨⟨I,J⟩,aA⟩:=az;split at he
   ·rename_i n dy aY;have:=dY hr aA;rw[aY]at this;obtain⟨qz,k6,kh⟩:=ag0 (P:=P) ja this he.1;exact OE hr I J k6 kh he.2 dk
   ·exact he.elim
  ·cases az
theorem Ld{C:eI}{st:a6}{a:Act}{w:World}{ν:aW}(h:cv C st a w ν){s:Nat}{b:Bool}(au:get s st.t= .bool b):cv C {st with t:=put s (.bool b) st.t} a w ν:=by
 refine⟨h.good,h.fr,h.defers,h.size,fun i=>?_,h.new,h.ext,h.obk⟩;have:=h.slot i;simp only[get_put];split
 ·rename_i e;subst e;rw[<-au];exact this
 ·exact this
theorem Wb{C:eI}{st:a6}{a:Act}{w:World}{ν:aW}(h:cv C st a w ν){ops:Array Oper}{j s:Nat}(aD:(ops.toList[j]?).bind (·.dst)=some s)(au:s<C.N):
  (∀b,get s st.t= .bool b->yielded ops a.tmps j=some b)/\(get s st.t= .tuple []->yielded ops a.tmps j=none):=by
 have bY:s<a.tmps.size:=by rw[h.size];exact au
 have l7:=h.slot s;have kq:a.tmps.getD s undef=a.tmps[s]:=by simp[Array.getD,bY]
 rw[kq]at l7;have bB:yielded ops a.tmps j=match a.tmps[s]with| .bool b=>some b|_=>none:=by unfold yielded;rw[Array.getElem?_toList]at aD;rw[aD];simp only[Option.bind_some,Array.getElem?_eq_getElem bY];cases a.tmps[s]<;>rfl
 constructor
 ·intro b ao;rw[ao]at l7;simp only[aT]at l7;rw[bB,l7]
 ·intro ao;rw[ao]at l7;simp only[aT,cw]at l7;obtain⟨us,aB,aU⟩:=l7;rw[bB,aB]
theorem Ps{P:b3}{bu:List (Nat×dt)}(aI:e7 P bu=true){C:eI}{ops:Array Oper}{K:a6->Prop}{Q:Exit->Act->World->Prop}(jm:∀st' c1 w' ν',K st'->cv C st' c1 w' ν'->Q .normal c1 w'):
  ∀(gs:List cT) (os:List Oper) (k:Nat),(∀j,os[j]? =ops[k+j]?)->ko C.N bu ops.toList gs os=true->∀(st:a6) (a:Act) (w:World) (ν:aW),hh P C.ob gs st K->cv C st a w ν->wpOps P ops Q (List.range' k gs.length) a w
 |[],[],k,_,_,st,a,w,ν,he,hr=>by simp only[mh,List.range'_zero,wpOps];exact jm _ _ _ _ he hr
 |[],_::_,_,_,aa,_,_,_,_,_,_=>by simp[ko]at aa
 |_::_,[],_,_,aa,_,_,_,_,_,_=>by simp[ko]at aa
 |g::gs,o::os,k,wo,aa,st,a,w,ν,he,hr=>by
  simp only[ko,bF]at aa;have bK:ops[k]? =some o:=by simpa using(wo 0).symm
  have tI:∀j,os[j]? =ops[k+1+j]?:=fun j=>by have:=wo (j+1);simpa[Nat.add_assoc,Nat.add_comm 1 j]using this
  simp only[ga,List.range'_succ,wpOps,bK];have bp:∀st' c1 w' ν',hh P C.ob gs st' K->cv C st' c1 w' ν'->wpOps P ops Q (List.range' (k+1) gs.length) c1 w':=fun st' c1 w' ν' I J=>Ps aI jm gs os (k+1) tI aa.2 st' c1 w' ν' I J;obtain⟨IG,Ql⟩:=g;have aR:=aa.1;simp only[BP,bF]at aR;obtain⟨mE,lz⟩:=aR;cases IG with
  |none=>
   cases eL:o.guard with
   |some x=>simp[eL]at mE
   |none=>
    have hw:o2 o (yielded ops a.tmps)=true:=by simp[o2,eL]
    rw[bP hw];simp only[hh]at he;exact .inl (Pn aI hr lz he bp)
  |some yM=>
   obtain⟨s,want⟩:=yM;cases eL:o.guard with
   |none=>simp[eL]at mE
   |some x=>
    obtain⟨j,fN⟩:=x;simp only[eL,bF,dK,ea]at mE;obtain⟨⟨⟨⟨rfl,J⟩,aA⟩,aS⟩,bG⟩:=mE;obtain⟨He,Hf⟩:=Wb hr J aA;simp only[hh]at he;split at he
    ·rename_i b ao;have bB:=He b ao;by_cases e:b=want
     ·subst e;have hw:o2 o (yielded ops a.tmps)=true:=by simp[o2,eL,bB]
      rw[bP hw];exact .inl (Pn aI (Ld hr ao) lz (he.1 rfl) bp)
     ·have hw:¬(o2 o (yielded ops a.tmps)=true):=by simp[o2,eL,bB,e]
      rw[bo hw];have hL:b= !want:=by cases b<;>cases want<;>simp at e⊢
      have l5:cv C {st with t:=put s (.bool !want) st.t} a w ν:=Ld hr (by rw[ao,hL]);rw[aS];exact bp _ _ _ _ (he.2 hL) (l5.put bG (by simp[aT,cw,undef]))
    ·rename_i ao;have bB:=Hf ao;have hw:¬(o2 o (yielded ops a.tmps)=true):=by simp[o2,eL,bB]
     rw[bo hw,aS];exact bp _ _ _ _ he (hr.put bG (by simp[aT,cw,undef]))
    ·exact he.elim
structure de where
 t:Nat->al
 b:aO->a1 (List al)
 e:aO->a1 dU
 F:aO->Prop
structure kI where
 d:a1 Nat
 p:al
 bw:List (aO×List al)
 ew:List (aO×dU)
 rm:a1 aO
def iB{α:Type}(l:List (aO×α))(f:aO->a1 α):aO->a1 α:=fun k=>match look k l with|some x=>some x|none=>f k
def de.do(A:de)(x:kI):de:={t:=fun i=>if x.d=some i then x.p else A.t i,b:=iB x.bw A.b,e:=iB x.ew A.e,F:=fun k=>A.F k/\x.rm≠some k}
structure kI.apart (x y:kI):Prop where
 d:∀i,x.d=some i->y.d≠some i
 b:∀k,(look k x.bw).isSome->look k y.bw=none
 e:∀k,(look k x.ew).isSome->look k y.ew=none
theorem de.do_comm(A:de){x y:kI}(h:x.apart y):(A.do x).do y=(A.do y).do x:=by
 simp only[de.do,de.mk.injEq];refine⟨?_,?_,?_,?_⟩
 ·funext i;by_cases I:x.d=some i
  ·have:=h.d i I;simp[I,this]
  ·simp[I]
 ·funext k;simp only[iB];cases ad:look k x.bw with
  |none=>cases look k y.bw<;>rfl
  |some u=>rw[h.b k (by simp[ad])]
 ·funext k;simp only[iB];cases ad:look k x.ew with
  |none=>cases look k y.ew<;>rfl
  |some u=>rw[h.e k (by simp[ad])]
 ·funext k;exact propext ⟨fun h=>⟨⟨h.1.1,h.2⟩,h.1.2⟩,fun h=>⟨⟨h.1.1,h.2⟩,h.1.2⟩⟩
def di(t:Nat->al):cY->al
 | .t i=>t i
 | .c p=>p
def sn(b:aO->a1 (List al))(e:aO->a1 dU)(agg:Bool)(sz:Nat):al->a1 (Prop×al)
 | .rptr dn k n i f=>yE agg sz dn n i f (e k)
 | .ptr k off=>
  match b k with
  |some cs=>if agg then some (iH cs=true/\off+sz<=cs.length,.agg ((cs.drop off).take sz))else(cs[off]?).map fun p=>(iH cs=true,p)
  |none=>none
 | .eptr p=>if agg then some (isAgg sz p,p)else some (eG p=true/\cells p=[p],p)
 |_=>none
def xm(t:Nat->al):List al->List (Nat×Nat×cY)->a1 (Prop×List al)
 |cs,[]=>some (True,cs)
 |cs,(off,sz,x)::r=>
  match xm t (oV cs off (cells (di t x))) r with
  |some (c,cs')=>some ((eG (di t x)=true/\(cells (di t x)).length=sz/\off+sz<=cs.length)/\c,cs')
  |none=>none
def pI(t:Nat->al)(b:aO->a1 (List al))(e:aO->a1 dU):fP->a1 (Prop×al)
 | .mov x=>some (True,di t x)
 | .pick c x y=>Gj (di t c) (di t x) (di t y)
 | .load agg sz x=>sn b e agg sz (di t x)
 | .faddr off agg sz x=>ov off agg sz (di t x)
 | .fld off agg sz x=>rX off agg sz (di t x)
 | .iaddr sz x i=>zU sz (di t x) (di t i)
 | .sidx x i=>GQ (di t x) (di t i)
 | .ssl x lo aE=>GV (di t x) (lo.map (di t)) (aE.map (di t))
 | .lsl sz x lo aE=>FU sz (di t x) (lo.map (di t)) (aE.map (di t))
 | .bin op wr x y=>aw op wr (di t x) (di t y)
 | .notB x=>F7 (di t x)
 | .neg x=>F3 (di t x)
 | .conv k x=>Ee k (di t x)
 | .ext i x=>Ev i (di t x)
 | .len x=>z6 (di t x)
 | .slen x=>Dy (di t x)
 | .build zero parts=>(xm t zero parts).map fun(c,cs)=>(c,.agg cs)
 | .nck x=>Ac (di t x)
 | .min2 x y=>FY (di t x) (di t y)
 | .mkf n xs=>some (True,.func n (xs.map (di t)))
 | .mget b7 zero ok x k=>oN b b7 zero ok (di t x) (di t k)
 | .ment x=>tP b (di t x)
 | .mlen x=>ve b (di t x)
 | .beq neg dG x y=>D1 neg dG (di t x) (di t y)
 | .max2 x y=>FW (di t x) (di t y)
 | .mkif n x=>some (True,.iface n (di t x))
 | .loadB agg sz x=>sn b (fun _=>none) agg sz (di t x)
 | .mgetB b7 zero ok x k=>oN b b7 zero ok (di t x) (di t k)
 | .loadZ agg sz x=>BO agg sz (di t x)
 | .b2s x=>DZ (di t x)
 | .isn neg x=>FC neg (di t x)
structure ln (st:a6) (A:de):Prop where
 t:∀i,get i st.t=A.t i
 b:∀k,look k st.b=A.b k
 e:∀k,look k st.e=A.e k
theorem hV{st:a6}{A:de}(h:ln st A)(x:cY):bQ st.t x=di A.t x:=by
 cases x
 ·exact h.t _
 ·rfl
theorem p2{st:a6}{A:de}(h:ln st A):bQ st.t=di A.t:=funext (hV h)
theorem aeg{st:a6}{A:de}(h:ln st A)(agg:Bool)(sz:Nat)(p:al):mH st.b st.e agg sz p=sn A.b A.e agg sz p:=by
 cases p<;>simp only[mH,sn]
 ·rw[h.b];try rfl
 ·rw[h.e]
theorem aeh{st:a6}{A:de}(h:ln st A)(agg:Bool)(sz:Nat)(p:al):mH st.b [] agg sz p=sn A.b (fun _=>none) agg sz p:=by
 cases p<;>simp only[mH,sn]
 ·rw[h.b];try rfl
 ·rfl
theorem Nq{st:a6}{A:de}(h:ln st A):∀(parts:List (Nat×Nat×cY)) (cs:List al),uz st.t cs parts=xm A.t cs parts
 |[],cs=>rfl
 |(off,sz,x)::r,cs=>by simp only[uz,xm,hV h,Nq h r];try rfl
theorem Vz{st:a6}{A:de}(h:ln st A)(i:fP):gH st i=pI A.t A.b A.e i:=by have ao:(fun k=>look k st.b)=A.b:=funext h.b;cases i<;>simp only[gH,pI,p2 h,aeg h,aeh h,Nq h,ao]
def gu:cY->List Nat
 | .t i=>[i]
 | .c _=>[]
def KP:a1 cY->List Nat
 |some x=>gu x
 |none=>[]
def fP.looks:fP->List Nat
 | .mov x| .load _ _ x| .loadB _ _ x| .loadZ _ _ x| .faddr _ _ _ x| .fld _ _ _ x| .notB x| .neg x| .conv _ x| .ext _ x| .len x| .slen x| .nck x| .ment x| .mlen x| .mkif _ x| .b2s x| .isn _ x=>gu x
 | .pick c x y=>gu c++gu x++gu y
 | .iaddr _ x i| .sidx x i=>gu x++gu i
 | .ssl x lo aE| .lsl _ x lo aE=>gu x++KP lo++KP aE
 | .bin _ _ x y| .min2 x y| .max2 x y| .beq _ _ x y=>gu x++gu y
 | .build _ b2=>b2.flatMap fun p=>gu p.2.2
 | .mkf _ xs=>xs.flatMap gu
 | .mget _ _ _ x k| .mgetB _ _ _ x k=>gu x++gu k
def dL.looks:dL->List Nat
 | .v _ i=>i.looks
 | .box _ _ x=>gu x
 | .alloc _ _ _=>[]
 | .store _ x y=>gu x++gu y
 | .storeE _ x y=>gu x++gu y
 | .bsl _ _ _ xs=>xs.flatMap gu
 | .app _ _ _ x y=>gu x++gu y
 | .bslm _ _ _ _ xs=>xs.flatMap gu
 | .mks _ _ _ _ _ x=>gu x
 | .apps _ _ x y=>gu x++gu y
 | .appm _ _ _ _ x y=>gu x++gu y
 | .mkmap _ _=>[]
 | .mput _ x k y=>gu x++gu k++gu y
 | .range _ _ x=>gu x
def dM.looks:dM->List Nat
 | .s i=>i.looks
 | .call _ f xs=>gu f++xs.flatMap gu
 | .next _ x=>gu x
 | .opn _ f xs=>gu f++xs.flatMap gu
 | .callb _ f=>gu f
def cT.looks(g:cT):List Nat:=(match g.g with|some (s,_)=>[s]|none=>[])++g.i.looks
def pV(l:List Nat)(t eH:Nat->al):Prop:= ∀i∈l,t i=eH i
theorem fX{t eH:Nat->al}{x:cY}(h:pV (gu x) t eH):di t x=di eH x:=by
 cases x
 ·exact h _ (by simp[gu])
 ·rfl
theorem j6{l cF:List Nat}{t eH:Nat->al}(h:pV (l++cF) t eH):pV l t eH/\pV cF t eH:=⟨fun i aE=>h i (by simp[aE]),fun i aE=>h i (by simp[aE])⟩
theorem Et{t eH:Nat->al}{x:a1 cY}(h:pV (KP x) t eH):x.map (di t)=x.map (di eH):=by
 cases x
 ·rfl
 ·simp[fX h]
theorem Np{t eH:Nat->al}:∀{parts:List (Nat×Nat×cY)} {cs:List al},pV (parts.flatMap fun p=>gu p.2.2) t eH->xm t cs parts=xm eH cs parts
 |[],cs,_=>rfl
 |(off,sz,x)::r,cs,h=>by simp only[List.flatMap_cons]at h;obtain⟨I,J⟩:=j6 h;simp only[xm,fX I,Np J]
theorem CW{t eH:Nat->al}:∀{xs:List cY},pV (xs.flatMap gu) t eH->xs.map (di t)=xs.map (di eH)
 |[],_=>rfl
 |x::xs,h=>by simp only[List.flatMap_cons]at h;obtain⟨I,J⟩:=j6 h;simp[fX I,CW J]
def fP.isLoad:fP->Bool
 | .load _ _ _=>true
 | .loadB _ _ _=>true
 | .mgetB _ _ _ _ _=>true
 | .mget _ _ _ _ _=>true
 | .ment _=>true
 | .mlen _=>true
 |_=>false
theorem ahU{t eH:Nat->al}{b fN:aO->a1 (List al)}{e jk:aO->a1 dU}{i:fP}(h:pV i.looks t eH)(ao:i.isLoad=false):pI t b e i=pI eH fN jk i:=by
 cases i<;>simp only[fP.looks]at h<;>simp only[pI];case load agg sz x=>simp[fP.isLoad]at ao
 case loadB agg sz x=>simp[fP.isLoad]at ao
 case pick c x y=>obtain⟨I,aA⟩:=j6 h;obtain⟨I,J⟩:=j6 I;rw[fX I,fX J,fX aA]
 case iaddr=>obtain⟨I,J⟩:=j6 h;rw[fX I,fX J]
 case sidx=>obtain⟨I,J⟩:=j6 h;rw[fX I,fX J]
 case ssl=>obtain⟨I,aA⟩:=j6 h;obtain⟨I,J⟩:=j6 I;rw[fX I,Et J,Et aA]
 case lsl=>obtain⟨I,aA⟩:=j6 h;obtain⟨I,J⟩:=j6 I;rw[fX I,Et J,Et aA]
 case bin=>obtain⟨I,J⟩:=j6 h;rw[fX I,fX J]
 case min2=>obtain⟨I,J⟩:=j6 h;rw[fX I,fX J]
 case build=>rw[Np h]
 case mkf=>rw[CW h]
 case mget=>simp[fP.isLoad]at ao
 case mgetB=>simp[fP.isLoad]at ao
 case ment=>simp[fP.isLoad]at ao
 case mlen=>simp[fP.isLoad]at ao
 case max2=>obtain⟨I,J⟩:=j6 h;rw[fX I,fX J]
 case beq=>obtain⟨I,J⟩:=j6 h;rw[fX I,fX J]
 all_goals rw[fX h]
def aeI(A:de)(s aq:dF)(rm:a1 aO):Prop:=(∀k,(look k aq.b).isSome->(look k s.b).isSome\/rm=some k)/\(∀k,(look k aq.e).isSome->(look k s.e).isSome\/rm=some k)/\(∀k,(look k s.b).isSome->(look k aq.b).isSome)/\(∀k,(look k s.e).isSome->(look k aq.e).isSome)/\
 (∀k,rm=some k->(∃j,k= .obj j)/\A.F k/\A.b k=none/\A.e k=none/\((look k aq.b).isSome\/(look k aq.e).isSome))
def Wl(P:b3)(n:Nat)(args:List al)(A:de)(d:a1 Nat)(x:kI):Prop:=
 ∃s aq r rm,(∀k cs,look k s.b=some cs->A.b k=some cs/\aj (ag s) cs)/\(∀k o,look k s.e=some o->A.e k=some o/\cc (ag s) o)/\jc s/\jc aq/\aeI A s aq rm/\aj (ag s) args/\
  bJ P n args s (fun dh eH=>dh=r/\eH=aq)/\x=⟨d,r,aq.b,aq.e,rm⟩
def Wm(P:b3)(n0 n:Nat)(args:List al)(A:de)(d:a1 Nat)(x:kI):Prop:=
 ∃gd r,d=some gd/\(A.F (.loc (n0+gd))/\A.b (.loc (n0+gd))=none/\A.e (.loc (n0+gd))=none)/\aj (fun _=>dD) args/\
  Hh P n (n0+gd) args ⟨[],[]⟩ (fun dh eH=>dh=r/\eH=⟨[],[]⟩)/\x=⟨d,r,[],[],some (.loc (n0+gd))⟩
def yf:al->Bool
 | .ptr (.loc _) _=>true
 | .eptr _=>true
 |_=>false
def fP.isB:fP->Bool
 | .loadB _ _ _=>true
 | .mgetB _ _ _ _ _=>true
 |_=>false
def fP.ptrOf(t:Nat->al):fP->al
 | .load _ _ x=>di t x
 | .loadB _ _ x=>di t x
 |_=>.junk
def dB(P:b3)(q:Bool)(n0:Nat):dM->de->kI->Prop
 | .s (.v d i),A,x=> ∃c p,pI A.t A.b A.e i=some (c,p)/\c/\(i.isLoad=true->i.isB=true\/q=true\/yf (i.ptrOf A.t)=true)/\x=⟨some d,p,[],[],none⟩
 | .s (.box d none v),A,x=>(A.F (.loc (n0+d))/\A.b (.loc (n0+d))=none/\A.e (.loc (n0+d))=none)/\eG (di A.t v)=true/\x=⟨some d,.ptr (.loc (n0+d)) 0,[(.loc (n0+d),cells (di A.t v))],[],some (.loc (n0+d))⟩
 | .s (.alloc d none z),A,x=>(A.F (.loc (n0+d))/\A.b (.loc (n0+d))=none/\A.e (.loc (n0+d))=none)/\x=⟨some d,.ptr (.loc (n0+d)) 0,[(.loc (n0+d),cells z)],[],some (.loc (n0+d))⟩
 | .s (.store sz u v),A,x=> ∃k off cs,di A.t u= .ptr k off/\A.b k=some cs/\(iH cs=true/\eG (di A.t v)=true/\(cells (di A.t v)).length=sz/\off+sz<=cs.length)/\x=⟨none,.junk,[(k,oV cs off (cells (di A.t v)))],[],none⟩
 | .s (.bsl d sz el xs),A,x=>(A.F (.loc (n0+d))/\A.b (.loc (n0+d))=none/\A.e (.loc (n0+d))=none)/\qQ sz (xs.map (di A.t))/\x=⟨some d,.slice sz (.own (.loc (n0+d))) (xs.map (di A.t)),[],[(.loc (n0+d),⟨xs.length,el,sz,none⟩)],some (.loc (n0+d))⟩
 | .s (.app d sz el u v),A,x=> ∃tag xs gT ys,di A.t u= .slice sz tag xs/\di A.t v= .slice sz gT ys/\
   ((∃k o,tag= .own k/\A.e k=some o/\(o.xs=none/\o.n=xs.length/\o.el=el/\o.sz=sz/\xs.length+ys.length<=bs)/\x=⟨some d,.slice sz (.own k) (xs++ys),[],[(k,⟨xs.length+ys.length,el,sz,none⟩)],none⟩)\/
    (tag= .nil/\ys.length<=bs/\(A.F (.loc (n0+d))/\A.b (.loc (n0+d))=none/\A.e (.loc (n0+d))=none)/\x=⟨some d,.slice sz (.own (.loc (n0+d))) ys,[],[(.loc (n0+d),⟨ys.length,el,sz,none⟩)],some (.loc (n0+d))⟩))
 | .s (.bslm d (some m) sz el xs),A,x=>(A.F (.obj m)/\A.b (.obj m)=none/\A.e (.obj m)=none)/\qQ sz (xs.map (di A.t))/\x=⟨some d,.row sz (.obj m) xs.length,[],[(.obj m,⟨xs.length,el,sz,some (xs.map (di A.t))⟩)],some (.obj m)⟩
 | .s (.appm d none sz el u v),A,x=> ∃k n xs gT ys,di A.t u= .row sz k n/\di A.t v= .slice sz gT ys/\A.e k=some ⟨n,el,sz,some xs⟩/\xs.length+ys.length<=bs/\x=⟨some d,.row sz k (xs.length+ys.length),[],[(k,⟨xs.length+ys.length,el,sz,some (xs++ys)⟩)],none⟩
 | .s (.appm d (some m) sz el u v),A,x=>(∃k n xs gT ys,di A.t u= .row sz k n/\di A.t v= .slice sz gT ys/\A.e k=some ⟨n,el,sz,some xs⟩/\xs.length+ys.length<=bs/\x=⟨some d,.row sz k (xs.length+ys.length),[],[(k,⟨xs.length+ys.length,el,sz,some (xs++ys)⟩)],none⟩)\/ ∃xs gT ys,di A.t u= .slice sz .nil xs/\di A.t v= .slice sz gT ys/\(A.F (.obj m)/\A.b (.obj m)=none/\A.e (.obj m)=none)/\(ys.length<=bs/\ys≠[])/\x=⟨some d,.row sz (.obj m) ys.length,[],[(.obj m,⟨ys.length,el,sz,some ys⟩)],some (.obj m)⟩
 | .s (.storeE sz u v),A,x=> ∃k n i f el dn xs q,di A.t u= .rptr dn k n i f/\A.e k=some ⟨n,el,dn,some xs⟩/\xs[i]? =some q/\(eG q=true/\eG (di A.t v)=true/\(cells (di A.t v)).length=sz/\f+sz<=(cells q).length/\0<sz)/\x=⟨none,.junk,[],[(k,⟨n,el,dn,some (xs.set i (rk q f (cells (di A.t v))))⟩)],none⟩
 | .s (.mkmap d (some m)),A,x=>(A.F (.obj m)/\A.b (.obj m)=none/\A.e (.obj m)=none)/\x=⟨some d,.gmap (.obj m),[(.obj m,[.hdm 0 []])],[],some (.obj m)⟩
 | .s (.mput b7 u k v),A,x=> ∃m cs cs',di A.t u= .gmap m/\A.b m=some cs/\ra b7 (di A.t k) (di A.t v) cs=some cs'/\x=⟨none,.junk,[(m,cs')],[],none⟩
 | .call d f xs,A,x=> ∃n dy,di A.t f= .func n dy/\((Wl P n (ca (xs.map (di A.t)++dy)) A d x/\(q=true->x.bw=[]/\x.ew=[]))\/Wm P n0 n (ca (xs.map (di A.t)++dy)) A d x)
 |_,_,_=>dD
inductive AY where
 |v|l|n|s|w|a|c|m|r|k|z
 deriving DecidableEq
def dM.mode:dM->AY
 | .s (.v _ (.loadB _ _ _))=>.m
 | .s (.v _ (.mgetB _ _ _ _ _))=>.m
 | .s (.v _ i)=>if i.isLoad then .l else .v
 | .s (.storeE _ _ _)=>.r
 | .s (.box _ _ _)=>.n
 | .s (.alloc _ _ _)=>.n
 | .s (.store _ _ _)=>.w
 | .s (.bsl _ _ _ _)=>.s
 | .s (.app _ _ _ _ _)=>.a
 | .s (.bslm _ none _ _ _)=>.w
 | .s (.bslm _ (some _) _ _ _)=>.z
 | .s (.mks _ _ _ _ _ _)=>.w
 | .s (.apps _ _ _ _)=>.w
 | .s (.appm _ none _ _ _ _)=>.r
 | .s (.appm _ (some _) _ _ _ _)=>.z
 | .s (.mkmap _ _)=>.k
 | .s (.mput _ _ _ _)=>.w
 | .s (.range _ _ _)=>.w
 | .call _ _ _=>.c
 | .next _ _=>.w
 | .opn _ _ _=>.w
 | .callb _ _=>.w
structure Hn (q:Bool) (n0:Nat) (m:AY) (dst:a1 Nat) (A:de) (x:kI):Prop where
 d:x.d=dst
 b:∀k,(look k x.bw).isSome->(m= .n/\∃d,dst=some d/\k= .loc (n0+d)/\A.b k=none/\A.e k=none)\/m= .w\/(m= .c/\(∃j,k= .obj j)/\q=false)\/(m= .k/\(∃j,k= .obj j)/\A.b k=none/\A.e k=none)
 e:∀k,(look k x.ew).isSome->(m= .s/\∃d,dst=some d/\k= .loc (n0+d)/\A.b k=none/\A.e k=none)\/(m= .a/\(A.e k≠none\/ ∃d,dst=some d/\k= .loc (n0+d)/\A.b k=none/\A.e k=none))\/(m= .c/\(∃j,k= .obj j)/\q=false)\/(m= .r/\∃o,A.e k=some o/\o.xs≠none)\/m= .z
 r:∀k,x.rm=some k->(∃d,dst=some d/\k= .loc (n0+d))\/((m= .c\/m= .k\/m= .z)/\(∃j,k= .obj j)/\((look k x.bw).isSome\/(look k x.ew).isSome))
 ex:m= .a->∀k o,(look k x.ew).isSome->A.e k=some o->o.xs=none
 xn:m= .a\/m= .s->∀k o,look k x.ew=some o->o.xs=none
theorem tN{α:Type}{k bz:aO}{x:α}(h:(look k [(bz,x)]).isSome):k=bz:=by
 simp only[look]at h;split at h
 ·rename_i e;exact e.symm
 ·cases h
theorem Kg{k bz:aO}{n el sz:Nat}{o:dU}(h:look k [(bz,(⟨n,el,sz,none⟩:dU))]=some o):o.xs=none:=by
 simp only[look]at h;split at h
 ·cases h;rfl
 ·cases h
theorem Vo{P:b3}{q:Bool}{n0:Nat}{i:dM}{A:de}{x:kI}(h:dB P q n0 i A x):Hn q n0 i.mode i.dst A x:=by
 cases i with
 |s i=>
  cases i with
  |v d i=>simp only[dB]at h;obtain⟨c,p,_,_,_,rfl⟩:=h;exact⟨rfl,fun k aa=>by simp[look]at aa,fun k aa=>by simp[look]at aa,fun k aa=>by simp at aa,fun _ k o aa=>by simp[look]at aa,fun _ k o aa=>by simp[look]at aa⟩
  |box d key v=>
   cases key with
   |some m=>simp only[dB]at h
   |none=>simp only[dB]at h;obtain⟨⟨_,J,aA⟩,_,rfl⟩:=h;exact⟨rfl,fun k aa=>by obtain rfl:=tN aa;exact .inl ⟨rfl,d,rfl,rfl,J,aA⟩,fun k aa=>by simp[look]at aa,fun k aa=>by simp at aa;exact .inl ⟨d,rfl,aa.symm⟩,fun _ k o aa=>by simp[look]at aa,fun _ k o aa=>by simp[look]at aa⟩
  |alloc d key z=>
   cases key with
   |some m=>simp only[dB]at h
   |none=>simp only[dB]at h;obtain⟨⟨_,J,aA⟩,rfl⟩:=h;exact⟨rfl,fun k aa=>by obtain rfl:=tN aa;exact .inl ⟨rfl,d,rfl,rfl,J,aA⟩,fun k aa=>by simp[look]at aa,fun k aa=>by simp at aa;exact .inl ⟨d,rfl,aa.symm⟩,fun _ k o aa=>by simp[look]at aa,fun _ k o aa=>by simp[look]at aa⟩
  |store sz u v=>simp only[dB]at h;obtain⟨k,off,cs,_,_,_,rfl⟩:=h;exact⟨rfl,fun k aa=>.inr (.inl rfl),fun k aa=>by simp[look]at aa,fun k aa=>by simp at aa,fun _ k o aa=>by simp[look]at aa,fun _ k o aa=>by simp[look]at aa⟩
  |bsl d sz el xs=>simp only[dB]at h;obtain⟨⟨_,J,aA⟩,_,rfl⟩:=h;exact⟨rfl,fun k aa=>by simp[look]at aa,fun k aa=>by obtain rfl:=tN aa;exact .inl ⟨rfl,d,rfl,rfl,J,aA⟩,fun k aa=>by simp at aa;exact .inl ⟨d,rfl,aa.symm⟩,fun e=>by simp[dM.mode]at e,fun _ k o aa=>Kg aa⟩
  |app d sz el u v=>
   simp only[dB]at h;obtain⟨tag,xs,gT,ys,_,_,h⟩:=h;rcases h with⟨k,o,_,I,⟨eR,_⟩,rfl⟩|⟨_,_,⟨_,J,aA⟩,rfl⟩
   ·exact⟨rfl,fun k aa=>by simp[look]at aa,fun k aa=>by obtain rfl:=tN aa;exact .inr (.inl ⟨rfl,.inl (by rw[I];simp)⟩),fun k aa=>by simp at aa,fun _ bz o' aa az=>by obtain rfl:=tN aa;rw[I]at az;cases az;exact eR,fun _ k o aa=>Kg aa⟩
   ·exact⟨rfl,fun k aa=>by simp[look]at aa,fun k aa=>by obtain rfl:=tN aa;exact .inr (.inl ⟨rfl,.inr ⟨d,rfl,rfl,J,aA⟩⟩),fun k aa=>by simp at aa;exact .inl ⟨d,rfl,aa.symm⟩,fun _ bz o' aa az=>(by obtain rfl:=tN aa;rw[aA]at az;cases az),fun _ k o aa=>Kg aa⟩
  |bslm d key sz el xs=>
   cases key with
   |none=>simp only[dB]at h
   |some m=>simp only[dB]at h;obtain⟨⟨_,J,aA⟩,_,rfl⟩:=h;exact⟨rfl,fun k aa=>by simp[look]at aa,fun k aa=>.inr (.inr (.inr (.inr rfl))),fun k aa=>by simp at aa;subst aa;exact .inr ⟨.inr (.inr rfl),⟨m,rfl⟩,.inr (by simp[look])⟩,fun e=>by simp[dM.mode]at e,fun e=>by simp[dM.mode]at e⟩
  |mks d key sz el z x=>simp only[dB]at h
  |apps d el x y=>simp only[dB]at h
  |appm d key sz el u v=>
   cases key with
   |none=>simp only[dB]at h;obtain⟨k,n,xs,gT,ys,_,_,I,_,rfl⟩:=h;exact⟨rfl,fun k aa=>by simp[look]at aa,fun k aa=>by obtain rfl:=tN aa;exact .inr (.inr (.inr (.inl ⟨rfl,_,I,Ψ⟩))),fun k aa=>by simp at aa,fun e=>by simp[dM.mode]at e,fun e=>by simp[dM.mode]at e⟩
   |some m=>
    simp only[dB]at h;rcases h with⟨k,n,xs,gT,ys,_,_,I,_,rfl⟩|⟨xs,gT,ys,_,_,⟨_,J,aA⟩,_,rfl⟩
    ·exact⟨rfl,fun k aa=>by simp[look]at aa,fun k aa=>.inr (.inr (.inr (.inr rfl))),fun k aa=>by simp at aa,fun e=>by simp[dM.mode]at e,fun e=>by simp[dM.mode]at e⟩
    exact⟨rfl,fun k aa=>by simp[look]at aa,fun k aa=>.inr (.inr (.inr (.inr rfl))),fun k aa=>by simp at aa;subst aa;exact .inr ⟨.inr (.inr rfl),⟨m,rfl⟩,.inr (by simp[look])⟩,fun e=>by simp[dM.mode]at e,fun e=>by simp[dM.mode]at e⟩
  |storeE sz u v=>simp only[dB]at h;obtain⟨k,n,i,f,el,dn,xs,q,_,I,_,_,rfl⟩:=h;exact⟨rfl,fun k aa=>by simp[look]at aa,fun k aa=>by obtain rfl:=tN aa;exact .inr (.inr (.inr (.inl ⟨rfl,_,I,Ψ⟩))),fun k aa=>by simp at aa,fun e=>by simp[dM.mode]at e,fun e=>by simp[dM.mode]at e⟩
  |mkmap d key=>
   cases key with
   |none=>simp only[dB]at h
   |some m=>simp only[dB]at h;obtain⟨⟨_,J,aA⟩,rfl⟩:=h;exact⟨rfl,fun k aa=>by obtain rfl:=tN aa;exact .inr (.inr (.inr ⟨rfl,⟨m,rfl⟩,J,aA⟩)),fun k aa=>by simp[look]at aa,fun k aa=>by simp at aa;subst aa;exact .inr ⟨.inr (.inl rfl),⟨m,rfl⟩,.inl (by simp[look])⟩,fun e=>by simp[dM.mode]at e,fun e=>by simp[dM.mode]at e⟩
  |mput b7 x k v=>simp only[dB]at h;obtain⟨m,cs,cs',_,_,_,rfl⟩:=h;exact⟨rfl,fun k aa=>.inr (.inl rfl),fun k aa=>by simp[look]at aa,fun k aa=>by simp at aa,fun e=>by simp[dM.mode]at e,fun e=>by simp[dM.mode]at e⟩
  |range d key x=>simp only[dB]at h
 |next d x=>simp only[dB]at h
 |opn d f x=>simp only[dB]at h
 |callb d f=>simp only[dB]at h
 |call d f xs=>
  simp only[dB]at h;obtain⟨n,dy,_,h⟩:=h;rcases h with⟨⟨s,aq,r,rm,_,_,_,az,Q7,_,_,rfl⟩,bA⟩|⟨gd,r,rfl,_,_,_,rfl⟩;rotate_left
  ·exact⟨rfl,fun k aa=>by simp[look]at aa,fun k aa=>by simp[look]at aa,fun k aa=>by simp at aa;exact .inl ⟨gd,rfl,aa.symm⟩,fun _ k o aa=>by simp[look]at aa,fun _ k o aa=>by simp[look]at aa⟩
  refine⟨rfl,fun k aa=>.inr (.inr (.inl ⟨rfl,?_,?_⟩)),fun k aa=>.inr (.inr (.inl ⟨rfl,?_,?_⟩)),fun k aa=>.inr ⟨.inl rfl,(Q7.2.2.2.2 k aa).1,(Q7.2.2.2.2 k aa).2.2.2.2⟩,fun e=>by simp[dM.mode]at e,fun e=>by simp[dM.mode]at e⟩
  ·cases k with
   |loc m=>rw[az.1 m]at aa;cases aa
   |obj m=>exact⟨m,rfl⟩
  ·cases q with
   |false=>rfl
   |true=>rw[(bA rfl).1]at aa;simp[look]at aa
  ·cases k with
   |loc m=>rw[az.2 m]at aa;cases aa
   |obj m=>exact⟨m,rfl⟩
  ·cases q with
   |false=>rfl
   |true=>rw[(bA rfl).2]at aa;simp[look]at aa
theorem MP{P:b3}{q:Bool}{n0:Nat}{i:dM}{A A':de}{x:kI}(h:dB P q n0 i A x)(aI:pV i.looks A.t A'.t)
  (aG:i.mode= .l->∀k,(q=true\/ ∃m,k= .loc m)->A.b k≠none->A'.b k=A.b k) (wj:i.mode= .m->∀k,A.b k≠none->A'.b k=A.b k)
  (JD:i.mode= .l->q=true->∀k o,A.e k=some o->o.xs≠none->A'.e k=some o)
  (aJ:∀d,i.dst=some d->(i.mode= .n\/i.mode= .s\/i.mode= .a\/i.mode= .c)->(A.F (.loc (n0+d))/\A.b (.loc (n0+d))=none/\A.e (.loc (n0+d))=none)->(A'.F (.loc (n0+d))/\A'.b (.loc (n0+d))=none/\A'.e (.loc (n0+d))=none))
  (bM:i.mode= .a->∀k o,A.e k=some o->A'.e k=some o) (hw:i.mode= .w->∀k,A'.b k=A.b k) (yd:i.mode= .z->(∀m,(A.F (.obj m)/\A.b (.obj m)=none/\A.e (.obj m)=none)->(A'.F (.obj m)/\A'.b (.obj m)=none/\A'.e (.obj m)=none))/\∀k,A'.e k=A.e k) (Fw:i.mode= .k->∀m,(A.F (.obj m)/\A.b (.obj m)=none/\A.e (.obj m)=none)->(A'.F (.obj m)/\A'.b (.obj m)=none/\A'.e (.obj m)=none)) (Cq:i.mode= .r->∀k o,A.e k=some o->o.xs≠none->A'.e k=some o)
  (aH:i.mode= .c->∀m,A'.b (.obj m)=A.b (.obj m)/\A'.e (.obj m)=A.e (.obj m)/\(A.F (.obj m)->A'.F (.obj m))):dB P q n0 i A' x:=by
 cases i with
 |s i=>
  cases i with
  |v d i=>
   simp only[dB]at h⊢;obtain⟨c,p,I,J,aA,aS⟩:=h;by_cases hB:∃agg sz y,i= .loadB agg sz y
   ·obtain⟨agg,sz,y,rfl⟩:=hB;simp only[dM.looks,dL.looks,fP.looks]at aI;have xT:=fX aI;refine⟨c,p,?_,J,fun _=>.inl rfl,aS⟩;rw[<-I];simp only[pI,<-xT];have hm:=wj (by simp[dM.mode]);simp only[pI]at I;cases bn:di A.t y<;>simp only[sn];rename_i key off;rw[bn]at I;simp only[sn]at I;cases ao:A.b key with
    |none=>simp[ao]at I
    |some cs=>have:A'.b key=A.b key:=hm key (by rw[ao];simp);rw[this,ao]
   by_cases ES:∃b7 zero ok y z,i= .mgetB b7 zero ok y z
   ·obtain⟨b7,zero,ok,y,z,rfl⟩:=ES;simp only[dM.looks,dL.looks,fP.looks]at aI;obtain⟨t1,t2⟩:=j6 aI;refine⟨c,p,?_,J,fun _=>.inl rfl,aS⟩;simp only[pI]at I⊢;rw[<-fX t1,<-fX t2];exact SC (wj (by simp[dM.mode])) I
   replace aA:i.isLoad=true->q=true\/yf (i.ptrOf A.t)=true:=fun nN=>(aA nN).resolve_left (fun ao=>by cases i<;>simp[fP.isB]at ao;exact hB ⟨_,_,_,rfl⟩;exact ES ⟨_,_,_,_,_,rfl⟩);have acP:i.isLoad=true->(dM.s (.v d i)).mode= .l:=by intro nN;cases i<;>simp only[fP.isLoad]at nN<;>first|(cases nN;done)|(simp[dM.mode,fP.isLoad];done)|exact absurd ⟨_,_,_,rfl⟩ hB|exact absurd ⟨_,_,_,_,_,rfl⟩ ES
   by_cases nN:i.isLoad=true
   ·have bA:∀(bn:yf (i.ptrOf A.t)=false),∀k,A.b k≠none->A'.b k=A.b k:=fun bn k aa=>aG (acP nN) k (.inl ((aA nN).resolve_right (by rw[bn];simp))) aa;cases i<;>simp only[fP.isLoad]at nN<;>try(cases nN;done)
    case mget b7 zero ok y z=>simp only[dM.looks,dL.looks,fP.looks]at aI;obtain⟨t1,t2⟩:=j6 aI;refine⟨c,p,?_,J,fun _=>.inr (aA rfl),aS⟩;simp only[pI]at I⊢;rw[<-fX t1,<-fX t2];exact SC (bA rfl) I
    case ment y=>simp only[dM.looks,dL.looks,fP.looks]at aI;refine⟨c,p,?_,J,fun _=>.inr (aA rfl),aS⟩;simp only[pI]at I⊢;rw[<-fX aI];exact aet (bA rfl) I
    case mlen y=>simp only[dM.looks,dL.looks,fP.looks]at aI;refine⟨c,p,?_,J,fun _=>.inr (aA rfl),aS⟩;simp only[pI]at I⊢;rw[<-fX aI];exact aex (bA rfl) I
    case loadB agg sz y=>exact absurd ⟨_,_,_,rfl⟩ hB
    case mgetB=>exact absurd ⟨_,_,_,_,_,rfl⟩ ES
    rename_i agg sz y;simp only[dM.looks,dL.looks,fP.looks]at aI;have xT:=fX aI;refine⟨c,p,?_,J,fun _=>.inr (by have:=aA rfl;simpa only[fP.ptrOf,<-xT]using this),aS⟩;rw[<-I];simp only[pI,<-xT];have hm:=aG (by simp[dM.mode,fP.isLoad]);simp only[pI]at I;have BS:=aA rfl;simp only[fP.ptrOf]at BS;cases bn:di A.t y<;>simp only[sn]
    ·rename_i key off;rw[bn]at I BS;simp only[sn]at I;cases ao:A.b key with
     |none=>simp[ao]at I
     |some cs=>have:A'.b key=A.b key:=hm key (by rcases BS with h|h;exact .inl h;cases key;exact .inr ⟨_,rfl⟩;simp[yf]at h) (by rw[ao];simp);rw[this,ao]
    ·rename_i dn key n i f;rw[bn]at I BS;simp only[sn]at I;have Co:q=true:=BS.resolve_right (by simp[yf]);unfold yE at I;split at I
     ·rename_i n' el ia xs he;rw[he,JD (by simp[dM.mode,fP.isLoad]) Co key _ he Ψ]
     ·cases I
   ·have nN:i.isLoad=false:=by simpa using nN
    refine⟨c,p,?_,J,(fun e=>by rw[nN]at e;cases e),aS⟩;rw[<-I];exact(ahU (by simpa only[dM.looks,dL.looks]using aI) nN).symm
  |box d key v=>
   cases key with
   |some m=>simp only[dB]at h
   |none=>simp only[dB,dM.looks,dL.looks]at h aI⊢;obtain⟨I,J,aA⟩:=h;rw[<-fX aI];exact⟨aJ d rfl (.inl rfl) I,J,aA⟩
  |alloc d key z=>
   cases key with
   |some m=>simp only[dB]at h
   |none=>simp only[dB]at h⊢;exact⟨aJ d rfl (.inl rfl) h.1,h.2⟩
  |store sz u v=>simp only[dB,dM.looks,dL.looks]at h aI⊢;obtain⟨I,J⟩:=j6 aI;rw[<-fX I,<-fX J];obtain⟨k,off,cs,g1,g2,g3,g4⟩:=h;exact⟨k,off,cs,g1,by rw[hw rfl];exact g2,g3,g4⟩
  |bsl d sz el xs=>simp only[dB,dM.looks,dL.looks]at h aI⊢;rw[<-CW aI];exact⟨aJ d rfl (.inr (.inl rfl)) h.1,h.2⟩
  |app d sz el u v=>
   simp only[dB,dM.looks,dL.looks]at h aI⊢;obtain⟨I,J⟩:=j6 aI;rw[<-fX I,<-fX J];obtain⟨tag,xs,gT,ys,g1,g2,h⟩:=h;refine⟨tag,xs,gT,ys,g1,g2,?_⟩;rcases h with⟨k,o,aB,aU,b1⟩|⟨aB,aU,b1,dN⟩
   ·exact .inl ⟨k,o,aB,bM rfl k o aU,b1⟩
   ·exact .inr ⟨aB,aU,aJ d rfl (.inr (.inr (.inl rfl))) b1,dN⟩
  |bslm d key sz el xs=>
   cases key with
   |none=>simp only[dB]at h
   |some m=>simp only[dB,dM.looks,dL.looks]at h aI⊢;rw[<-CW aI];exact⟨(yd rfl).1 m h.1,h.2⟩
  |mks d key sz el z x=>simp only[dB]at h
  |apps d el x y=>simp only[dB]at h
  |appm d key sz el u v=>
   cases key with
   |none=>simp only[dB,dM.looks,dL.looks]at h aI⊢;obtain⟨I,J⟩:=j6 aI;rw[<-fX I,<-fX J];obtain⟨k,n,xs,gT,ys,g1,g2,g3,g4,g5⟩:=h;exact⟨k,n,xs,gT,ys,g1,g2,Cq rfl k _ g3 Ψ,g4,g5⟩
   |some m=>
    simp only[dB,dM.looks,dL.looks]at h aI⊢;obtain⟨I,J⟩:=j6 aI;rw[<-fX I,<-fX J];rcases h with⟨k,n,xs,gT,ys,g1,g2,g3,g4,g5⟩|⟨xs,gT,ys,g1,g2,g3,g4⟩
    ·exact .inl ⟨k,n,xs,gT,ys,g1,g2,by rw[(yd rfl).2];exact g3,g4,g5⟩
    ·exact .inr ⟨xs,gT,ys,g1,g2,(yd rfl).1 m g3,g4⟩
  |storeE sz u v=>simp only[dB,dM.looks,dL.looks]at h aI⊢;obtain⟨I,J⟩:=j6 aI;rw[<-fX I,<-fX J];obtain⟨k,n,i,f,el,dn,xs,q,g1,g2,g3⟩:=h;exact⟨k,n,i,f,el,dn,xs,q,g1,Cq rfl k _ g2 Ψ,g3⟩
  |mkmap d key=>
   cases key with
   |none=>simp only[dB]at h
   |some m=>simp only[dB]at h⊢;exact⟨Fw rfl m h.1,h.2⟩
  |mput b7 u k v=>simp only[dB,dM.looks,dL.looks]at h aI⊢;obtain⟨t1,t3⟩:=j6 aI;obtain⟨t1,t2⟩:=j6 t1;obtain⟨m,cs,cs',g1,g2,g3,g4⟩:=h;rw[<-fX t1,<-fX t2,<-fX t3];exact⟨m,cs,cs',g1,by rw[hw rfl];exact g2,g3,g4⟩
  |range d key x=>simp only[dB]at h
 |next d x=>simp only[dB]at h
 |opn d f x=>simp only[dB]at h
 |callb d f=>simp only[dB]at h
 |call d f xs=>
  simp only[dB,dM.looks]at h aI⊢;obtain⟨I,J⟩:=j6 aI;rw[<-fX I,<-CW J];obtain⟨n,dy,g1,h⟩:=h;rcases h with⟨⟨s,aq,r,rm,c8,c2,c3,c4,c5,iW⟩,g3⟩|⟨gd,r,rfl,c8,c2⟩;rotate_left
  ·exact⟨n,dy,g1,.inr ⟨gd,r,rfl,aJ gd rfl (.inr (.inr (.inr rfl))) c8,c2⟩⟩
  refine⟨n,dy,g1,.inl ⟨⟨s,aq,r,rm,fun k cs aa=>?_,fun k o aa=>?_,c3,c4,⟨c5.1,c5.2.1,c5.2.2.1,c5.2.2.2.1,fun k aa=>?_⟩,iW⟩,g3⟩⟩
  ·cases k with
   |loc m=>rw[c3.1 m]at aa;cases aa
   |obj m=>rw[(aH rfl m).1];exact c8 _ _ aa
  ·cases k with
   |loc m=>rw[c3.2 m]at aa;cases aa
   |obj m=>rw[(aH rfl m).2.1];exact c2 _ _ aa
  ·obtain⟨⟨j,rfl⟩,d2,d3,d4,d5⟩:=c5.2.2.2.2 k aa;exact⟨⟨j,rfl⟩,(aH rfl j).2.2 d2,by rw[(aH rfl j).1];exact d3,by rw[(aH rfl j).2.1];exact d4,d5⟩
def lj(d:a1 Nat):kI:=⟨d,.tuple [],[],[],none⟩
def kJ(P:b3)(q:Bool)(n0:Nat)(g:cT)(A:de)(x:kI):Prop:=
 match g.g with
 |none=>dB P q n0 g.i A x
 |some (s,w)=>match A.t s with
  | .bool b=>(b=w/\dB P q n0 g.i A x)\/(b= !w/\x=lj g.i.dst)
  | .tuple []=>x=lj g.i.dst
  |_=>dD
def eC:AY->AY->Bool
 | .v,_=>true
 |_,.v=>true
 | .l,.l| .l,.n| .l,.s| .l,.a| .l,.c=>true
 | .n,.n| .n,.s| .n,.a| .n,.c=>true
 | .s,.l| .s,.n| .s,.s| .s,.c=>true
 | .a,.l| .a,.n| .a,.s=>true
 | .c,.l| .c,.n| .c,.s=>true
 | .l,.m| .m,.l| .m,.m| .m,.n| .m,.s| .m,.a| .s,.m| .a,.m=>true
 | .l,.k| .m,.k| .n,.k| .s,.k=>true
 | .m,.r| .r,.m| .r,.n| .r,.s| .n,.r| .s,.r| .r,.w| .w,.r=>true
 | .m,.z| .z,.m| .z,.n=>true
 |_,_=>false
def zu(g h:cT):Bool:=(match g.i.dst with|some d=> !(h.looks.contains d)&&h.i.dst !=some d|none=>true)&&(match h.i.dst with|some d=> !(g.looks.contains d)|none=>true)&&eC g.i.mode h.i.mode
theorem Vp(q:Bool)(n0:Nat)(m:AY)(d:a1 Nat)(A:de):Hn q n0 m d A (lj d):=⟨rfl,fun k aa=>by simp[lj,look]at aa,fun k aa=>by simp[lj,look]at aa,fun k aa=>by simp[lj]at aa,fun _ k o aa=>by simp[lj,look]at aa,fun _ k o aa=>by simp[lj,look]at aa⟩
theorem L3{P:b3}{q:Bool}{n0:Nat}{g:cT}{A:de}{x:kI}(h:kJ P q n0 g A x):Hn q n0 g.i.mode g.i.dst A x:=by
 unfold kJ at h;split at h
 ·exact Vo h
 ·split at h
  ·rcases h with⟨_,h⟩|⟨_,rfl⟩
   ·exact Vo h
   ·exact Vp _ _ _ _ _
  ·subst h;exact Vp _ _ _ _ _
  ·exact h.elim
theorem rT{A:de}{x:kI}{k:aO}(h:look k x.bw=none):(A.do x).b k=A.b k:=by simp[de.do,iB,h]
theorem pY{A:de}{x:kI}{k:aO}(h:look k x.ew=none):(A.do x).e k=A.e k:=by simp[de.do,iB,h]
theorem Ej{A:de}{x:kI}{k:aO}(h:(A.do x).b k=none):A.b k=none:=by
 simp only[de.do,iB]at h;split at h
 ·cases h
 ·exact h
theorem Ek{A:de}{x:kI}{k:aO}(h:(A.do x).e k=none):A.e k=none:=by
 simp only[de.do,iB]at h;split at h
 ·cases h
 ·exact h
theorem kj{α:Type}{o:a1 α}(h:¬o.isSome):o=none:=by cases o<;>simp at h⊢
theorem MR{P:b3}{q:Bool}{n0:Nat}{g:cT}{A A':de}{x:kI}(h:kJ P q n0 g A x)(aI:pV g.looks A.t A'.t)(hm:dB P q n0 g.i A x->dB P q n0 g.i A' x):kJ P q n0 g A' x:=by
 unfold kJ at h⊢;cases aR:g.g with
 |none=>simp only[aR]at h⊢;exact hm h
 |some yM=>
  obtain⟨s,w⟩:=yM;have:A.t s=A'.t s:=aI s (by simp[cT.looks,aR]);simp only[aR,this]at h⊢;split at h
  ·rcases h with⟨I,J⟩|h
   ·exact .inl ⟨I,hm J⟩
   ·exact .inr h
  ·exact h
  ·exact h
theorem ahD{P:b3}{q:Bool}{n0:Nat}{g h:cT}(QW:zu g h=true){A:de}{x y:kI}(ad:kJ P q n0 g A x)(bB:kJ P q n0 h (A.do x) y):
  kJ P q n0 h A y/\kJ P q n0 g (A.do y) x/\x.apart y:=by
 simp only[zu,bF]at QW;obtain⟨⟨jS,ie⟩,hm⟩:=QW;have pF:=L3 ad;have cD:∀d j7,g.i.dst=some d->h.i.dst=some j7->d≠j7:=by intro d j7 aB aU e;simp only[aB,bF,bne_iff_ne]at jS;exact jS.2 (by rw[aU,e])
 have EU:pV h.looks (A.do x).t A.t:=by intro i aE;simp only[de.do];rw[bo];intro e;rw[pF.d]at e;simp only[e,bF,Bool.not_eq_true',List.contains_eq_mem,decide_eq_false_iff_not]at jS;exact jS.1 aE
 have wk:∀k,(look k x.bw).isSome->_:=pF.b;have hle:∀k,(look k x.ew).isSome->_:=pF.e;have R8:kJ P q n0 h A y:=by
  refine MR bB EU fun IS=>MP IS (fun i aE=>EU i (by simp[cT.looks,aE])) (fun e k aa ao=>?_) (fun e k ao=>?_) (fun e bA k o az eR=>?_) (fun d aP Jq iY=>?_) (fun e k o az=>?_) (fun e k=>?_) (fun e=>⟨fun m iY=>⟨iY.1.1,Ej iY.2.1,Ek iY.2.2⟩,fun k=>?_⟩) (fun e m iY=>⟨iY.1.1,Ej iY.2.1,Ek iY.2.2⟩) (fun e k o az eR=>?_) (fun e m=>?_)
  ·rw[rT (kj fun au=>?_)];rcases wk k au with⟨aB,_⟩|aB|⟨aB,⟨j,aU⟩,b1⟩|⟨aB,_⟩;rotate_left 3
   ·rw[e,aB]at hm;simp[eC]at hm
   ·rw[e,aB]at hm;simp[eC]at hm
   ·rw[e,aB]at hm;simp[eC]at hm
   ·rcases aa with aa|⟨m,aa⟩
    ·rw[aa]at b1;cases b1
    ·rw[aa]at aU;cases aU
  ·rw[rT (kj fun au=>?_)];rcases wk k au with⟨aB,_⟩|aB|⟨aB,_⟩|⟨aB,_⟩<;>(rw[e,aB]at hm;simp[eC]at hm)
  ·rw[e]at hm;cases iC:look k x.ew with
   |none=>rw[pY iC]at az;exact az
   |some o'=>
    exfalso;have Jv:(A.do x).e k=some o':=by simp[de.do,iB,iC]
    rw[Jv]at az;cases az;rcases hle k (by simp[iC])with⟨aB,_⟩|⟨aB,_⟩|⟨aB,_,b1⟩|⟨aB,_⟩|aB
    ·exact eR (pF.xn (.inr aB) k _ iC)
    ·exact eR (pF.xn (.inl aB) k _ iC)
    ·rw[bA]at b1;cases b1
    ·rw[aB]at hm;simp[eC]at hm
    ·rw[aB]at hm;simp[eC]at hm
  ·exact⟨iY.1.1,Ej iY.2.1,Ek iY.2.2⟩
  ·rw[pY (kj fun au=>?_)]at az
   ·exact az
   ·rw[e]at hm;rcases hle k au with⟨aB,_⟩|⟨aB,_⟩|⟨aB,_⟩|⟨aB,_⟩|aB<;>(rw[aB]at hm;simp[eC]at hm)
  ·rw[rT (kj fun au=>?_)];rw[e]at hm;rcases wk k au with⟨aB,_⟩|aB|⟨aB,_⟩|⟨aB,_⟩<;>(rw[aB]at hm;simp[eC]at hm)
  ·rw[pY (kj fun au=>?_)];rw[e]at hm;rcases hle k au with⟨aB,_⟩|⟨aB,_⟩|⟨aB,_⟩|⟨aB,_⟩|aB<;>(rw[aB]at hm;simp[eC]at hm)
  ·rw[e]at hm;cases iC:look k x.ew with
   |none=>rw[pY iC]at az;exact az
   |some o'=>
    exfalso;have Jv:(A.do x).e k=some o':=by simp[de.do,iB,iC]
    rw[Jv]at az;cases az;rcases hle k (by simp[iC])with⟨aB,_⟩|⟨aB,_⟩|⟨aB,_⟩|⟨aB,_⟩|aB
    ·exact eR (pF.xn (.inr aB) k _ iC)
    ·rw[aB]at hm;simp[eC]at hm
    ·rw[aB]at hm;simp[eC]at hm
    ·rw[aB]at hm;simp[eC]at hm
    ·rw[aB]at hm;simp[eC]at hm
  ·rw[e]at hm;refine⟨?_,?_,fun fw=>fw.1⟩
   ·rw[rT (kj fun au=>?_)];rcases wk _ au with⟨aB,d,_,aU,_⟩|aB|⟨aB,_⟩|⟨aB,_⟩;rotate_left 3
    ·rw[aB]at hm;simp[eC]at hm
    ·cases aU
    ·rw[aB]at hm;simp[eC]at hm
    ·rw[aB]at hm;simp[eC]at hm
   ·rw[pY (kj fun au=>?_)];rcases hle _ au with⟨aB,d,_,aU,_⟩|⟨aB,_⟩|⟨aB,_⟩|⟨aB,_⟩|aB
    ·cases aU
    ·rw[aB]at hm;simp[eC]at hm
    ·rw[aB]at hm;simp[eC]at hm
    ·rw[aB]at hm;simp[eC]at hm
    ·rw[aB]at hm;simp[eC]at hm
 have ty:=L3 R8;have QG:pV g.looks A.t (A.do y).t:=by intro i aE;simp only[de.do];rw[bo];intro e;rw[ty.d]at e;simp only[e,Bool.not_eq_true',List.contains_eq_mem,decide_eq_false_iff_not]at ie;exact ie aE
 refine⟨R8,?_,?_⟩
 ·refine MR ad QG fun IS=>MP IS (fun i aE=>QG i (by simp[cT.looks,aE])) (fun e k aa ao=>?_) (fun e k ao=>?_) (fun e bA k o az eR=>?_) (fun d aP Jq iY=>?_) (fun e k o az=>?_) (fun e k=>?_) (fun e=>⟨fun m iY=>?_,fun k=>?_⟩) (fun e m iY=>?_) (fun e k o az eR=>?_) (fun e m=>?_)
  ·refine rT (kj fun au=>?_);rcases ty.b k au with⟨aB,d,_,_,aU,_⟩|aB|⟨aB,⟨j,aU⟩,b1⟩|⟨_,_,aU,_⟩;rotate_left 3
   ·exact ao aU
   ·exact ao aU
   ·rw[e,aB]at hm;simp[eC]at hm
   ·rcases aa with aa|⟨m,aa⟩
    ·rw[aa]at b1;cases b1
    ·rw[aa]at aU;cases aU
  ·refine rT (kj fun au=>?_);rcases ty.b k au with⟨aB,d,_,_,aU,_⟩|aB|⟨aB,_⟩|⟨_,_,aU,_⟩;rotate_left 3
   ·exact ao aU
   ·exact ao aU
   ·rw[e,aB]at hm;simp[eC]at hm
   ·rw[e,aB]at hm;simp[eC]at hm
  ·rw[pY (kj fun au=>?_)]
   ·exact az
   ·rcases ty.e k au with⟨aB,d,_,_,_,aU⟩|⟨aB,aU⟩|⟨aB,_,b1⟩|⟨aB,_⟩|aB
    ·rw[aU]at az;cases az
    ·exact eR (ty.ex aB k o au az)
    ·rw[bA]at b1;cases b1
    ·rw[e,aB]at hm;simp[eC]at hm
    ·rw[e,aB]at hm;simp[eC]at hm
  ·refine⟨⟨iY.1,fun rV=>?_⟩,?_,?_⟩
   ·rcases ty.r _ rV with⟨j7,aB,aU⟩|⟨_,⟨j,aU⟩,_⟩
    ·simp only[aO.loc.injEq]at aU;exact cD d j7 aP aB Ω
    ·cases aU
   ·rw[rT (kj fun au=>?_)]
    ·exact iY.2.1
    ·rcases ty.b _ au with⟨aB,j7,aU,b1,_⟩|aB|⟨aB,⟨j,aU⟩,_⟩|⟨aB,⟨j,aU⟩,_⟩;rotate_left 3
     ·cases aU
     ·simp only[aO.loc.injEq]at b1;exact cD d j7 aP aU Ω
     ·rcases Jq with aU|aU|aU|aU<;>(rw[aB,aU]at hm;simp[eC]at hm)
     ·cases aU
   ·rw[pY (kj fun au=>?_)]
    ·exact iY.2.2
    ·rcases ty.e _ au with⟨aB,j7,aU,b1,_⟩|⟨aB,aU⟩|⟨aB,⟨j,aU⟩,_⟩|⟨aB,o,aU,_⟩|aB;rotate_left 4
     ·rcases Jq with aU|aU|aU|aU<;>(rw[aB,aU]at hm;simp[eC]at hm)
     ·simp only[aO.loc.injEq]at b1;exact cD d j7 aP aU Ω
     ·rcases aU with aU|⟨j7,aU,b1,_⟩
      ·exact aU iY.2.2
      ·simp only[aO.loc.injEq]at b1;exact cD d j7 aP aU Ω
     ·cases aU
     ·rw[iY.2.2]at aU;cases aU
  ·rw[pY (kj fun au=>?_)]
   ·exact az
   ·rw[e]at hm;rcases ty.e k au with⟨aB,d,_,_,_,aU⟩|⟨aB,_⟩|⟨aB,_⟩|⟨aB,_⟩|aB
    ·rw[aU]at az;cases az
    ·rw[aB]at hm;simp[eC]at hm
    ·rw[aB]at hm;simp[eC]at hm
    ·rw[aB]at hm;simp[eC]at hm
    ·rw[aB]at hm;simp[eC]at hm
  ·refine rT (kj fun au=>?_);rw[e]at hm;rcases ty.b k au with⟨aB,_⟩|aB|⟨aB,_⟩|⟨aB,_⟩<;>(rw[aB]at hm;simp[eC]at hm)
  ·rw[e]at hm;refine⟨⟨iY.1,fun rV=>?_⟩,?_,?_⟩
   ·rcases ty.r _ rV with⟨j7,aB,aU⟩|⟨aB|aB|aB,_⟩
    ·cases aU
    ·rw[aB]at hm;simp[eC]at hm
    ·rw[aB]at hm;simp[eC]at hm
    ·rw[aB]at hm;simp[eC]at hm
   ·rw[rT (kj fun au=>?_)]
    ·exact iY.2.1
    ·rcases ty.b _ au with⟨aB,d,_,aU,_⟩|aB|⟨aB,_⟩|⟨aB,_⟩
     ·cases aU
     all_goals(rw[aB]at hm;simp[eC]at hm)
   ·rw[pY (kj fun au=>?_)]
    ·exact iY.2.2
    ·rcases ty.e _ au with⟨aB,_⟩|⟨aB,_⟩|⟨aB,_⟩|⟨aB,_⟩|aB<;>(rw[aB]at hm;simp[eC]at hm)
  ·rw[pY (kj fun au=>?_)];rw[e]at hm;rcases ty.e _ au with⟨aB,_⟩|⟨aB,_⟩|⟨aB,_⟩|⟨aB,_⟩|aB<;>(rw[aB]at hm;simp[eC]at hm)
  ·rw[e]at hm;refine⟨⟨iY.1,fun rV=>?_⟩,?_,?_⟩
   ·rcases ty.r _ rV with⟨j7,aB,aU⟩|⟨aB|aB|aB,_⟩
    ·cases aU
    ·rw[aB]at hm;simp[eC]at hm
    ·rw[aB]at hm;simp[eC]at hm
    ·rw[aB]at hm;simp[eC]at hm
   ·rw[rT (kj fun au=>?_)]
    ·exact iY.2.1
    ·rcases ty.b _ au with⟨aB,_⟩|aB|⟨aB,_⟩|⟨aB,_⟩<;>(rw[aB]at hm;simp[eC]at hm)
   ·rw[pY (kj fun au=>?_)]
    ·exact iY.2.2
    ·rcases ty.e _ au with⟨aB,_⟩|⟨aB,_⟩|⟨aB,_⟩|⟨aB,o,aU,_⟩|aB
     ·rw[aB]at hm;simp[eC]at hm
     ·rw[aB]at hm;simp[eC]at hm
     ·rw[aB]at hm;simp[eC]at hm
     ·rw[iY.2.2]at aU;cases aU
     ·rw[aB]at hm;simp[eC]at hm
  ·rw[pY (kj fun au=>?_)]
   ·exact az
   ·rw[e]at hm;rcases ty.e k au with⟨aB,d,_,_,_,aU⟩|⟨aB,_⟩|⟨aB,_⟩|⟨aB,_⟩|aB
    ·rw[aU]at az;cases az
    ·rw[aB]at hm;simp[eC]at hm
    ·rw[aB]at hm;simp[eC]at hm
    ·rw[aB]at hm;simp[eC]at hm
    ·rw[aB]at hm;simp[eC]at hm
  ·rw[e]at hm;refine⟨?_,?_,fun fw=>⟨fw,fun rV=>?_⟩⟩;rotate_left 2
   ·rcases ty.r _ rV with⟨j7,_,aU⟩|⟨aU|aU|aU,_⟩
    ·cases aU
    ·rw[aU]at hm;simp[eC]at hm
    ·rw[aU]at hm;simp[eC]at hm
    ·rw[aU]at hm;simp[eC]at hm
   ·refine rT (kj fun au=>?_);rcases ty.b _ au with⟨aB,d,_,aU,_⟩|aB|⟨aB,_⟩|⟨aB,_⟩;rotate_left 3
    ·rw[aB]at hm;simp[eC]at hm
    ·cases aU
    ·rw[aB]at hm;simp[eC]at hm
    ·rw[aB]at hm;simp[eC]at hm
   ·refine pY (kj fun au=>?_);rcases ty.e _ au with⟨aB,d,_,aU,_⟩|⟨aB,_⟩|⟨aB,_⟩|⟨aB,_⟩|aB
    ·cases aU
    ·rw[aB]at hm;simp[eC]at hm
    ·rw[aB]at hm;simp[eC]at hm
    ·rw[aB]at hm;simp[eC]at hm
    ·rw[aB]at hm;simp[eC]at hm
 ·refine⟨fun i aE e=>?_,fun k aa=>kj fun au=>?_,fun k aa=>kj fun au=>?_⟩
  ·rw[pF.d]at aE;rw[ty.d]at e;exact cD i i aE e rfl
  ·rcases wk k aa with⟨b4,d,a2,a3,_⟩|b4|⟨b4,⟨j,a2⟩,_⟩|⟨b4,_⟩<;>rcases ty.b k au with⟨ck,j7,cr,fo,_⟩|ck|⟨ck,⟨fb,cr⟩,_⟩|⟨ck,⟨fb,cr⟩,_⟩;all_goals first|(rw[b4,ck]at hm;simp[eC]at hm;done)|skip
   ·rw[a3]at fo;simp only[aO.loc.injEq]at fo;exact cD d j7 a2 cr Ω
   ·rw[a3]at cr;cases cr
   ·rw[a3]at cr;cases cr
   ·rw[a2]at fo;cases fo
  ·rcases hle k aa with⟨b4,d,a2,a3,_,a4⟩|⟨b4,a2⟩|⟨b4,⟨j,a2⟩,_⟩|⟨b4,mb,a2,_⟩|b4<;>rcases ty.e k au with⟨ck,j7,cr,fo,_,Bn⟩|⟨ck,cr⟩|⟨ck,⟨fb,cr⟩,_⟩|⟨ck,kz,cr,_⟩|ck;all_goals first|(rw[b4,ck]at hm;simp[eC]at hm;done)|skip
   ·rw[a3]at fo;simp only[aO.loc.injEq]at fo;exact cD d j7 a2 cr Ω
   ·rw[a3]at cr;cases cr
   ·rw[a4]at cr;cases cr
   ·rcases a2 with a2|⟨d,a2,a3,_⟩
    ·exact a2 Bn
    ·rw[a3]at fo;simp only[aO.loc.injEq]at fo;exact cD d j7 a2 cr Ω
   ·rw[a2]at fo;cases fo
   ·rw[Bn]at a2;cases a2
def xc(C:eI)(A:de)(a:Act)(w:World):Prop:= ∃st ν,ln st A/\(∀k,A.F k->fresh st.n st.o k)/\cv C st a w ν
theorem Kb{st:a6}{A:de}(h:ln st A)(d:Nat)(p:al):ln {st with t:=put d p st.t} (A.do ⟨some d,p,[],[],none⟩):=by
 refine⟨fun i=>?_,fun k=>?_,fun k=>?_⟩
 ·simp only[de.do,get_put,dH,h.t]
 ·simpa[de.do,iB,look]using h.b k
 ·simpa[de.do,iB,look]using h.e k
theorem Sq{st:a6}{A:de}(h:ln st A)(d:Nat)(p:al)(o':List aO)(rm:a1 aO):ln {st with t:=put d p st.t,o:=o'} (A.do ⟨some d,p,[],[],rm⟩):=by have:=Kb h d p;exact⟨this.t,this.b,this.e⟩
theorem V5{α:Type}{β:Type}:∀l:List (aO×α),aX ([]:List (aO×β)) l=l
 |[]=>rfl
 |(k,x)::r=>by simp[aX,look,V5 r]
theorem z7{st:a6}{A:de}(h:ln st A)(d:Nat)(p:al)(κ:aO)(cs:List al)(n':Nat)(o':List aO)(rm:a1 aO):ln ⟨put d p st.t,dd κ cs st.b,st.e,n',o'⟩ (A.do ⟨some d,p,[(κ,cs)],[],rm⟩):=by
 refine⟨fun i=>?_,fun k=>?_,fun k=>?_⟩
 ·simp only[de.do,get_put,dH,h.t]
 ·simp only[de.do,iB,look,jG,h.b];by_cases e:κ=k<;>simp[e]
 ·simpa[de.do,iB,look]using h.e k
theorem FR{st:a6}{A:de}(h:ln st A)(κ:aO)(cs:List al)(p:al):ln {st with b:=dd κ cs st.b} (A.do ⟨none,p,[(κ,cs)],[],none⟩):=by
 refine⟨fun i=>?_,fun k=>?_,fun k=>?_⟩
 ·simpa[de.do]using h.t i
 ·simp only[de.do,iB,look,jG,h.b];by_cases e:κ=k<;>simp[e]
 ·simpa[de.do,iB,look]using h.e k
theorem ps{st:a6}{A:de}(h:ln st A)(d:Nat)(p:al)(κ:aO)(o:dU)(n':Nat)(o':List aO)(rm:a1 aO):ln ⟨put d p st.t,st.b,dd κ o st.e,n',o'⟩ (A.do ⟨some d,p,[],[(κ,o)],rm⟩):=by
 refine⟨fun i=>?_,fun k=>?_,fun k=>?_⟩
 ·simp only[de.do,get_put,dH,h.t]
 ·simpa[de.do,iB,look]using h.b k
 ·simp only[de.do,iB,look,jG,h.e];by_cases e:κ=k<;>simp[e]
theorem Sp{st:a6}{A:de}(h:ln st A)(κ:aO)(o:dU)(p:al):ln {st with e:=dd κ o st.e} (A.do ⟨none,p,[],[(κ,o)],none⟩):=by
 refine⟨fun i=>?_,fun k=>?_,fun k=>?_⟩
 ·simpa[de.do]using h.t i
 ·simpa[de.do,iB,look]using h.b k
 ·simp only[de.do,iB,look,jG];by_cases e:κ=k<;>simp[e,h.e]
theorem Kl{α:Type}{k:aO}:∀{l:List (aO×α)},k∈l.map (·.1)->(look k l).isSome
 |[],h=>by simp at h
 |(i,x)::r,h=>by
  simp only[look];split
  ·rfl
  ·rename_i e;simp only[ek,gb]at h;rcases h with h|h
   ·exact absurd h.symm e
   ·exact Kl h
theorem tx{n:Nat}{o:List aO}{κ:aO}:∀j,fresh n (κ::o) j->fresh n o j/\j≠κ:=by intro j aD;simp only[fresh,gb,not_or]at aD⊢;exact⟨⟨aD.1,aD.2.2⟩,aD.2.1⟩
theorem aax{n:Nat}{o:List aO}{κ j:aO}(h:fresh n o j)(aD:some κ≠some j):fresh n (κ::o) j:=by simp only[fresh,gb,not_or]at h⊢;exact⟨h.1,fun e=>aD (by rw[e]),h.2⟩
theorem MQ{P:b3}{bu:List (Nat×dt)}(aI:e7 P bu=true){C:eI}{q:Bool}{n0:Nat}{i:dM}{o:Oper}(az:sC C.N bu i o=true){A:de}{x:kI}(ad:dB P q n0 i A x){a:Act}{w:World}(hr:xc C A a w)
  {K:Act->World->Prop} {Q:Exit->Act->World->Prop} (dk:∀c1 w',xc C (A.do x) c1 w'->K c1 w'):o.wp P a w K Q:=by
 obtain⟨st,ν,aG,fw,hr⟩:=hr;have wc:∀(t:List (Nat×al)) (b:List (aO×List al)) (e:List (aO×dU)) (d:a1 Nat) (p:al) (bw:List (aO×List al)) (ew:List (aO×dU)),∀k,(A.do ⟨d,p,bw,ew,none⟩).F k->fresh st.n st.o k:=fun t b e d p bw ew k aa=>fw k aa.1;have na:∀(d:a1 Nat) (p:al) (bw:List (aO×List al)) (ew:List (aO×dU)) (κ:aO),∀k,(A.do ⟨d,p,bw,ew,some κ⟩).F k->fresh st.n (κ::st.o) k:=fun d p bw ew κ k aa=>aax (fw k aa.1) aa.2;cases i with
 |s i=>
  have h5:rl C.N bu i o=true:=by simpa only[sC]using az
  cases i with
  |v d i=>simp only[dB]at ad;obtain⟨c,p,I,J,_,rfl⟩:=ad;rw[<-Vz aG]at I;refine iS (κ:= .loc 0) (n':=0) (o₁:=[]) aI hr h5 (fun h=>by simp[dL.makes]at h) (fun h=>by simp[dL.makes]at h) (st':={st with t:=put d p st.t}) (by simp only[ei,I]) J fun c1 w' ν' cx=>dk _ _ ⟨_,ν',Kb aG d p,fun k aa=>fw k aa.1,cx⟩
  |box d key v=>
   cases key with
   |some m=>simp only[dB]at ad
   |none=>simp only[dB]at ad;obtain⟨⟨I,_⟩,J,rfl⟩:=ad;rw[<-hV aG]at J;refine iS (κ:= .loc (n0+d)) (n':=st.n) (o₁:= .loc (n0+d)::st.o) aI hr h5 (fun _=>fw _ I) (fun _=>tx) (st':=⟨put d (.ptr (.loc (n0+d)) 0) st.t,dd (.loc (n0+d)) (cells (bQ st.t v)) st.b,st.e,st.n,.loc (n0+d)::st.o⟩) (by simp only[ei]) J fun c1 w' ν' cx=>dk _ _ ⟨_,ν',?_,na _ _ _ _ _,cx⟩;rw[hV aG];exact z7 aG d _ _ _ _ _ _
  |alloc d key z=>
   cases key with
   |some m=>simp only[dB]at ad
   |none=>simp only[dB]at ad;obtain⟨⟨I,_⟩,rfl⟩:=ad;refine iS (κ:= .loc (n0+d)) (n':=st.n) (o₁:= .loc (n0+d)::st.o) aI hr h5 (fun _=>fw _ I) (fun _=>tx) (st':=⟨put d (.ptr (.loc (n0+d)) 0) st.t,dd (.loc (n0+d)) (cells z) st.b,st.e,st.n,.loc (n0+d)::st.o⟩) (by simp only[ei]) trivial fun c1 w' ν' cx=>dk _ _ ⟨_,ν',z7 aG d _ _ _ _ _ _,na _ _ _ _ _,cx⟩
  |store sz u v=>simp only[dB]at ad;obtain⟨k,off,cs,I,J,aA,rfl⟩:=ad;rw[<-hV aG]at I aA;rw[<-aG.b]at J;refine iS (κ:= .loc 0) (n':=0) (o₁:=[]) aI hr h5 (fun h=>by simp[dL.makes]at h) (fun h=>by simp[dL.makes]at h) (st':={st with b:=dd k (oV cs off (cells (bQ st.t v))) st.b}) (by simp only[ei,I,J]) aA fun c1 w' ν' cx=>dk _ _ ⟨{st with b:=dd k (oV cs off (cells (bQ st.t v))) st.b},ν',by rw[hV aG];exact FR aG k _ _,fun k aa=>fw k aa.1,cx⟩
  |bsl d sz el xs=>simp only[dB]at ad;obtain⟨⟨I,_⟩,J,rfl⟩:=ad;rw[<-p2 aG]at J;refine iS (κ:= .loc (n0+d)) (n':=st.n) (o₁:= .loc (n0+d)::st.o) aI hr h5 (fun _=>fw _ I) (fun _=>tx) (st':=⟨put d (.slice sz (.own (.loc (n0+d))) (xs.map (bQ st.t))) st.t,st.b,dd (.loc (n0+d)) ⟨xs.length,el,sz,none⟩ st.e,st.n,.loc (n0+d)::st.o⟩) (by simp only[ei]) J fun c1 w' ν' cx=>dk _ _ ⟨_,ν',?_,na _ _ _ _ _,cx⟩;rw[p2 aG];exact ps aG d _ _ _ _ _ _
  |app d sz el u v=>
   simp only[dB]at ad;obtain⟨tag,xs,gT,ys,I,J,ad⟩:=ad;rw[<-hV aG]at I J;rcases ad with⟨k,ow,rfl,aA,aS,rfl⟩|⟨rfl,aA,⟨aS,_⟩,rfl⟩
   ·rw[<-aG.e]at aA;refine iS (κ:= .loc 0) (n':=0) (o₁:=[]) aI hr h5 (fun h=>by simp[dL.makes,I]at h) (fun h=>by simp[dL.makes,I]at h) (st':=⟨put d (.slice sz (.own k) (xs++ys)) st.t,st.b,dd k ⟨xs.length+ys.length,el,sz,none⟩ st.e,st.n,st.o⟩) (by simp only[ei,I,J,aA,and_self,if_true]) aS.2 fun c1 w' ν' cx=>dk _ _ ⟨_,ν',ps aG d _ _ _ _ _ _,fun k aa=>fw k aa.1,cx⟩
   ·refine iS (κ:= .loc (n0+d)) (n':=st.n) (o₁:= .loc (n0+d)::st.o) aI hr h5 (fun _=>fw _ aS) (fun _=>tx) (st':=⟨put d (.slice sz (.own (.loc (n0+d))) ys) st.t,st.b,dd (.loc (n0+d)) ⟨ys.length,el,sz,none⟩ st.e,st.n,.loc (n0+d)::st.o⟩) (by simp only[ei,I,J,and_self,if_true]) aA fun c1 w' ν' cx=>dk _ _ ⟨_,ν',ps aG d _ _ _ _ _ _,na _ _ _ _ _,cx⟩
  |bslm d key sz el xs=>
   cases key with
   |none=>simp only[dB]at ad
   |some m=>simp only[dB]at ad;obtain⟨⟨I,_⟩,J,rfl⟩:=ad;rw[<-p2 aG]at J;refine iS (κ:= .obj m) (n':=st.n) (o₁:= .obj m::st.o) aI hr h5 (fun _=>fw _ I) (fun _=>tx) (st':=⟨put d (.row sz (.obj m) xs.length) st.t,st.b,dd (.obj m) ⟨xs.length,el,sz,some (xs.map (bQ st.t))⟩ st.e,st.n,.obj m::st.o⟩) (by simp only[ei]) J fun c1 w' ν' cx=>dk _ _ ⟨_,ν',?_,na _ _ _ _ _,cx⟩;rw[p2 aG];exact ps aG d _ _ _ _ _ _
  |mks d key sz el z x=>simp only[dB]at ad
  |apps d el x y=>simp only[dB]at ad
  |appm d key sz el u v=>
   cases key with
   |some m=>
    simp only[dB]at ad;rcases ad with⟨k,n,xs,gT,ys,I,J,aA,aS,rfl⟩|⟨xs,gT,ys,I,J,⟨aA,_⟩,aS,rfl⟩
    ·rw[<-hV aG]at I J;rw[<-aG.e]at aA;exact iS (κ:= .loc 0) (n':=0) (o₁:=[]) aI hr h5 (fun h=>by simp[dL.makes,I]at h) (fun h=>by simp[dL.makes,I]at h) (st':=⟨put d (.row sz k (xs.length+ys.length)) st.t,st.b,dd k ⟨xs.length+ys.length,el,sz,some (xs++ys)⟩ st.e,st.n,st.o⟩) (by simp only[ei,mn,I,J,aA,and_self,if_true]) aS fun c1 w' ν' cx=>dk _ _ ⟨_,ν',ps aG d _ _ _ _ _ _,fun k aa=>fw k aa.1,cx⟩
    rw[<-hV aG]at I J;refine iS (κ:= .obj m) (n':=st.n) (o₁:= .obj m::st.o) aI hr h5 (fun _=>fw _ aA) (fun _=>tx) (st':=⟨put d (.row sz (.obj m) ys.length) st.t,st.b,dd (.obj m) ⟨ys.length,el,sz,some ys⟩ st.e,st.n,.obj m::st.o⟩) (by simp only[ei,mn,I,J,and_self,if_true]) aS fun c1 w' ν' cx=>dk _ _ ⟨_,ν',ps aG d _ _ _ _ _ _,na _ _ _ _ _,cx⟩
   |none=>
   simp only[dB]at ad;obtain⟨k,n,xs,gT,ys,I,J,aA,aS,rfl⟩:=ad;rw[<-hV aG]at I J;rw[<-aG.e]at aA;refine iS (κ:= .loc 0) (n':=0) (o₁:=[]) aI hr h5 (fun h=>by simp[dL.makes,I]at h) (fun h=>by simp[dL.makes,I]at h) (st':=⟨put d (.row sz k (xs.length+ys.length)) st.t,st.b,dd k ⟨xs.length+ys.length,el,sz,some (xs++ys)⟩ st.e,st.n,st.o⟩) (by simp only[ei,mn,I,J,aA,and_self,if_true]) aS fun c1 w' ν' cx=>dk _ _ ⟨_,ν',ps aG d _ _ _ _ _ _,fun k aa=>fw k aa.1,cx⟩
  |storeE sz u v=>simp only[dB]at ad;obtain⟨k,n,i,f,el,dn,xs,q,I,J,aA,aS,rfl⟩:=ad;rw[<-hV aG]at I aS;rw[<-aG.e]at J;refine iS (κ:= .loc 0) (n':=0) (o₁:=[]) aI hr h5 (fun h=>by simp[dL.makes]at h) (fun h=>by simp[dL.makes]at h) (st':={st with e:=dd k ⟨n,el,dn,some (xs.set i (rk q f (cells (bQ st.t v))))⟩ st.e}) (by simp only[ei,rq,I,J,aA,and_self,if_true]) aS fun c1 w' ν' cx=>dk _ _ ⟨{st with e:=dd k ⟨n,el,dn,some (xs.set i (rk q f (cells (bQ st.t v))))⟩ st.e},ν',by rw[hV aG];exact Sp aG k _ _,fun k aa=>fw k aa.1,cx⟩
  |mkmap d key=>
   cases key with
   |none=>simp only[dB]at ad
   |some m=>simp only[dB]at ad;obtain⟨⟨I,_⟩,rfl⟩:=ad;refine iS (κ:= .obj m) (n':=st.n) (o₁:= .obj m::st.o) (hB:=fun e=>Ni h5 (by cases e;rfl)) aI hr h5 (fun _=>fw _ I) (fun _=>tx) (st':=⟨put d (.gmap (.obj m)) st.t,dd (.obj m) [.hdm 0 []] st.b,st.e,st.n,.obj m::st.o⟩) (by simp only[ei]) trivial fun c1 w' ν' cx=>dk _ _ ⟨_,ν',z7 aG d _ _ _ _ _ _,na _ _ _ _ _,cx⟩
  |mput b7 u k v=>simp only[dB]at ad;obtain⟨m,cs,cs',I,J,aA,rfl⟩:=ad;rw[<-hV aG]at I;rw[<-hV aG,<-hV aG]at aA;rw[<-aG.b]at J;exact iS (κ:= .loc 0) (n':=0) (o₁:=[]) aI hr h5 (fun h=>by simp[dL.makes]at h) (fun h=>by simp[dL.makes]at h) (st':={st with b:=dd m cs' st.b}) (by simp only[ei,I,J,aA]) trivial fun c1 w' ν' cx=>dk _ _ ⟨{st with b:=dd m cs' st.b},ν',FR aG m _ _,fun k aa=>fw k aa.1,cx⟩
  |range d key x=>simp only[dB]at ad
 |next d x=>simp only[dB]at ad
 |opn d f x=>simp only[dB]at ad
 |callb d f=>simp only[dB]at ad
 |call d f xs=>
  simp only[dB]at ad;obtain⟨n,dy,I,ad⟩:=ad;rw[<-hV aG]at I;rcases ad with⟨⟨s,aq,r,rm,c8,c2,c3,c4,c5,iW,jB,rfl⟩,_⟩|⟨gd,r,rfl,c8,c2,c3,rfl⟩;rotate_left
  ·rw[<-p2 aG]at c2 c3;simp only[sC]at az;split at az
   ·rename_i iJ args ts ja;simp only[bF,dK]at az;obtain⟨⟨⟨aB,aU⟩,b1⟩,dN⟩:=az;have l3:=dY hr b1;rw[I]at l3;obtain⟨qz,k6,jD⟩:=Lu (e7.sz aI) ja l3 (yB hr dN);refine OD hr aB aU k6 jD (K:=fun st'=>st'={st with t:=put gd r st.t,o:= .loc (n0+gd)::st.o}) ⟨⟨[],[]⟩,_,some (n0+gd),st.n,fun _=>.loc (n0+gd)::st.o,fun k cs aa=>by simp[look]at aa,fun k cs aa=>by simp[look]at aa,⟨fun _=>rfl,fun _=>rfl⟩,u4 (fun _ h=>h.elim) _ c2,c3,fun m hm=>?_,fun k dh aq bA aa=>?_,?_⟩ ?_
    ·cases hm;exact fw _ c8.1
    ·obtain⟨_,rfl⟩:=bA;have:=tx k aa;exact⟨by simpa[gj]using this.1,fun m hm=>by cases hm;exact this.2⟩
    ·rintro dh oU ⟨rfl,rfl⟩;refine⟨⟨fun m hm=>by simp[look]at hm,fun m hm=>by simp[look]at hm⟩,?_⟩;simp[after,V5,fk]
    ·rintro st' c1 w' ν' rfl cx;exact dk _ _ ⟨_,ν',Sq aG gd r _ _,na _ _ _ _ _,cx⟩
   ·cases az
  rw[<-p2 aG]at iW jB;simp only[sC]at az;split at az
  ·rename_i iJ args ts ja;simp only[bF,dK]at az;obtain⟨⟨⟨aB,aU⟩,b1⟩,dN⟩:=az;have l3:=dY hr b1;rw[I]at l3;obtain⟨cE,dj,gD,jV,q8⟩:=c5;refine OC (e7.sz aI) hr ja aB aU l3 (yB hr dN) (K:=fun st'=>st'=after st s aq d r) (.inl ⟨s,_,fun k cs aa=>⟨by rw[aG.b];exact(c8 k cs aa).1,.inl (by simp[aa]),(c8 k cs aa).2⟩,fun k o' aa=>⟨by rw[aG.e];exact(c2 k o' aa).1,.inr (by simp[aa]),(c2 k o' aa).2⟩,c3,iW,jB,?_⟩) ?_
   ·rintro dh oU ⟨rfl,rfl⟩;refine⟨⟨fun m hm=>?_,fun m hm=>?_⟩,rfl⟩
    ·rcases cE _ hm with h|h
     ·exact .inl h
     ·exact .inr (fw _ (q8 _ h).2.1).2
    ·rcases dj _ hm with h|h
     ·exact .inl h
     ·exact .inr (fw _ (q8 _ h).2.1).2
   ·rintro st' c1 w' ν' rfl cx;refine dk _ _ ⟨_,ν',⟨fun i=>?_,fun k=>?_,fun k=>?_⟩,fun k aa=>?_,cx⟩
    ·simp only[after,de.do];cases d with
     |none=>simpa[fk]using aG.t i
     |some d=>simp only[fk,get_put,dH,aG.t]
    ·simp only[after,de.do,iB,yl,tO];by_cases au:(look k s.b).isSome
     ·have:=gD k au;obtain⟨y,bB⟩:=fG.1 this;simp[au,bB]
     ·cases aJ:look k aq.b with
      |none=>simp only[au,aG.b];cases A.b k<;>simp
      |some y=>
       rcases cE k (by simp[aJ])with h|h
       ·exact absurd h au
       ·have:=q8 k h;simp[au,aG.b,this]
    ·simp only[after,de.do,iB,yl,tO];by_cases au:(look k s.e).isSome
     ·have:=jV k au;obtain⟨y,bB⟩:=fG.1 this;simp[au,bB]
     ·cases aJ:look k aq.e with
      |none=>simp only[au,aG.e];cases A.e k<;>simp
      |some y=>
       rcases dj k (by simp[aJ])with h|h
       ·exact absurd h au
       ·have:=q8 k h;simp[au,aG.e,this]
    ·have E2:=fw k aa.1;have nh:=hr.lookNone E2;simp only[after];refine⟨E2.1,fun k4=>?_⟩;rcases fM.1 k4 with k4|k4
     ·exact E2.2 k4
     ·rcases fM.1 k4 with k4|k4
      ·rcases cE k (Kl k4)with h|h
       ·obtain⟨y,bB⟩:=fG.1 h;have:=(c8 k y bB).1;rw[<-aG.b,nh.1]at this;cases this
       ·exact aa.2 h
      ·rcases dj k (Kl k4)with h|h
       ·obtain⟨y,bB⟩:=fG.1 h;have:=(c2 k y bB).1;rw[<-aG.e,nh.2]at this;cases this
       ·exact aa.2 h
  ·cases az
theorem Wn{P:b3}{bu:List (Nat×dt)}(aI:e7 P bu=true){C:eI}{q:Bool}{n0:Nat}{ops:Array Oper}{g:cT}{o:Oper}{j:Nat}(aD:ops[j]? =some o)(az:BP C.N bu ops.toList g o=true){A:de}{x:kI}(ad:kJ P q n0 g A x){a:Act}{w:World}(hr:xc C A a w)
  {K:Act->World->Prop} {Q:Exit->Act->World->Prop} (dk:∀c1 w',xc C (A.do x) c1 w'->K c1 w'):wpOp P ops Q j K a w:=by
 unfold wpOp;rw[aD];simp only;simp only[BP,bF]at az;obtain⟨mE,lz⟩:=az;unfold kJ at ad;cases B7:g.g with
 |none=>
  cases eL:o.guard with
  |some x=>simp[eL,B7]at mE
  |none=>
   have hw:o2 o (yielded ops a.tmps)=true:=by simp[o2,eL]
   rw[bP hw];simp only[B7]at ad;exact .inl (MQ aI lz ad hr dk)
 |some yM=>
  obtain⟨s,want⟩:=yM;cases eL:o.guard with
  |none=>simp[eL,B7]at mE
  |some aiF=>
   obtain⟨ak7,fN⟩:=aiF;simp only[eL,B7,bF,dK,ea]at mE;obtain⟨⟨⟨⟨rfl,J⟩,aA⟩,aS⟩,bG⟩:=mE;obtain⟨st,ν,aG,fw,dA⟩:=id hr;obtain⟨He,Hf⟩:=Wb dA J aA;simp only[B7]at ad;have Rq:∀(h:x=lj g.i.dst),K (a.put o.dst undef) w:=by
    rintro rfl;rw[aS];refine dk _ _ ⟨_,ν,?_,fun k aa=>?_,dA.put bG (p:= .tuple []) (by simp[aT,cw,undef])⟩
    ·refine⟨fun i=>?_,fun k=>?_,fun k=>?_⟩
     ·simp only[de.do,lj];cases g.i.dst with
      |none=>simpa[fk]using aG.t i
      |some d=>simp only[fk,get_put,dH,aG.t]
     ·simpa[de.do,iB,look,lj]using aG.b k
     ·simpa[de.do,iB,look,lj]using aG.e k
    ·exact fw k aa.1
   split at ad
   ·rename_i b ao;have bB:=He b (by rw[aG.t];exact ao);rcases ad with⟨rfl,ad⟩|⟨rfl,ad⟩
    ·have hw:o2 o (yielded ops a.tmps)=true:=by simp[o2,eL,bB]
     rw[bP hw];exact .inl (MQ aI lz ad hr dk)
    ·have hw:¬(o2 o (yielded ops a.tmps)=true):=by simp[o2,eL,bB]
     rw[bo hw];exact Rq ad
   ·rename_i ao;have bB:=Hf (by rw[aG.t];exact ao);have hw:¬(o2 o (yielded ops a.tmps)=true):=by simp[o2,eL,bB]
    rw[bo hw];exact Rq ad
   ·exact ad.elim
def vS(P:b3)(q:Bool)(n0:Nat)(K:de->Prop):List (Nat×cT)->de->Prop
 |[],A=>K A
 |(_,g)::r,A=> ∃x,kJ P q n0 g A x/\vS P q n0 K r (A.do x)
theorem No{P:b3}{q:Bool}{n0:Nat}{K:de->Prop}{i:Nat}{g:cT}:∀(od o5:List (Nat×cT)) (A:de),(∀x∈od,zu x.2 g=true)->vS P q n0 K (od++(i,g)::o5) A->∃x,kJ P q n0 g A x/\vS P q n0 K (od++o5) (A.do x)
 |[],o5,A,_,h=>h
 |(j,Qn)::od,o5,A,aH,h=>by simp only[ds,vS]at h;obtain⟨y,bB,h⟩:=h;obtain⟨x,ad,h⟩:=No od o5 (A.do y) (fun z cp=>aH z (List.mem_cons_of_mem _ cp)) h;obtain⟨s1,s2,AH⟩:=ahD (aH _ (List.mem_cons_self ..)) bB ad;refine⟨x,s1,y,s2,?_⟩;rw[<-de.do_comm A AH];exact h
def rem(listed:Array Bool):Nat->List cT->List (Nat×cT)
 |_,[]=>[]
 |k,g::r=>if listed.getD k false then rem listed (k+1) r else(k,g)::rem listed (k+1) r
theorem Uo{l cF:Array Bool}:∀(gs:List cT) (k:Nat),(∀j,k<=j->l.getD j false=cF.getD j false)->rem l k gs=rem cF k gs
 |[],_,_=>rfl
 |g::r,k,h=>by simp only[rem,h k (c7 _),Uo r (k+1) fun j aD=>h j Ω]
theorem EL{l:Array Bool}{i j:Nat}(h:i<l.size):(l.setIfInBounds i true).getD j false=if i=j then true else l.getD j false:=by
 simp only[Array.getD_eq_getD_getElem?];by_cases e:i=j
 ·subst e;simp[h]
 ·simp[e]
theorem Li{l:Array Bool}{i:Nat}(aE:i<l.size)(aJ:l.getD i false=false):∀(gs:List cT) (k:Nat),k<=i->i<k+gs.length->∃od o5 g,gs[i-k]? =some g/\rem l k gs=od++(i,g)::o5/\rem (l.setIfInBounds i true) k gs=od++o5/\
  ∀x∈od,gs[x.1-k]? =some x.2/\k<=x.1/\x.1<i/\l.getD x.1 false=false
 |[],k,I,J=>by simp at J;omega
 |g::r,k,I,J=>by
  by_cases e:k=i
  ·subst e;refine⟨[],rem l (k+1) r,g,Ψ,by simp[rem,aJ],?_,fun x ad=>by simp at ad⟩;simp only[rem,EL aE,if_true,eW];exact Uo r (k+1) fun j aD=>by rw[EL aE,bo Ω]
  ·obtain⟨od,o5,eP,aB,aU,b1,dN⟩:=Li aE aJ r (k+1) Ω (by simp at J;omega);have kd:i-k=(i-(k+1))+1:=Ω
   have kq:(l.setIfInBounds i true).getD k false=l.getD k false:=by rw[EL aE,bo Ω]
   by_cases aa:l.getD k false=true
   ·refine⟨od,o5,eP,by rw[kd];simpa using aB,by simp only[rem,aa,if_true,aU],by simp only[rem,kq,aa,if_true,b1],fun x ad=>?_⟩;obtain⟨f1,f2,f3,f4⟩:=dN x ad;refine⟨?_,Ω,f3,f4⟩;have:x.1-k=(x.1-(k+1))+1:=Ω
    rw[this];simpa using f1
   ·have aa:l.getD k false=false:=by simpa using aa
    refine⟨(k,g)::od,o5,eP,by rw[kd];simpa using aB,by simp[rem,aa,aU],by simp[rem,kq,aa,b1],fun x ad=>?_⟩;rcases gb.1 ad with rfl|ad
    ·exact⟨Ψ,c7 _,by simp;omega,aa⟩
    ·obtain⟨f1,f2,f3,f4⟩:=dN x ad;refine⟨?_,Ω,f3,f4⟩;have:x.1-k=(x.1-(k+1))+1:=Ω
     rw[this];simpa using f1
def vc(acc:List Nat):List Edge->Nat
 |[]=>0
 |e::r=>if Region.binds .any e then(2 ^ e.on)|||(acc.getD e.on 0)|||vc acc r else vc acc r
def sq(acc:List Nat):List Oper->List Nat
 |[]=>acc
 |o::os=>sq (acc++[vc acc o.after.toList]) os
def Ds(m:Nat)(h:cT):Nat->List cT->Bool
 |_,[]=>true
 |i,g::r=>(m.testBit i||zu g h)&&Ds m h (i+1) r
def C9:List cT->List cT->List Nat->Bool
 |_,[],_=>true
 |pre,h::r,m::ms=>Ds m h 0 pre&&C9 (pre++[h]) r ms
 |_,_,[]=>false
def BC:Nat->List Oper->Bool
 |_,[]=>true
 |k,o::os=>o.after.toList.all (fun e=> !Region.binds .any e||decide (e.on<k))&&BC (k+1) os
def Bk(gs:List cT)(ops:List Oper):Bool:=BC 0 ops&&C9 [] gs (sq [] ops)
theorem Kh{acc:List Nat}{j:Nat}:∀{es:List Edge},(vc acc es).testBit j=true->∃e∈es,Region.binds .any e=true/\(j=e.on\/(acc.getD e.on 0).testBit j=true)
 |[],h=>by simp[vc]at h
 |e::r,h=>by
  simp only[vc]at h;split at h
  ·rename_i ao;simp only[Nat.testBit_or,Bool.or_eq_true]at h;rcases h with(h|h)|h
   ·refine⟨e,Ψ,ao,.inl ?_⟩;rw[Nat.testBit_two_pow]at h;have cx:e.on=j:=by simpa using h
    exact cx.symm
   ·exact⟨e,Ψ,ao,.inr h⟩
   ·obtain⟨jk,I,J⟩:=Kh h;exact⟨jk,by simp[I],J⟩
  ·obtain⟨jk,I,J⟩:=Kh h;exact⟨jk,by simp[I],J⟩
theorem Ki:∀(os:List Oper) (acc:List Nat) (k:Nat),k<acc.length->(sq acc os)[k]? =acc[k]?
 |[],acc,k,_=>rfl
 |o::os,acc,k,h=>by simp only[sq];rw[Ki os _ k (by simp;omega),rE h]
theorem Sx:∀(os:List Oper) (acc:List Nat) (k:Nat) (o:Oper),os[k]? =some o->∃uy,(sq acc os)[acc.length+k]? =some (vc uy o.after.toList)/\uy.length=acc.length+k/\∀i,i<uy.length->uy[i]? =(sq acc os)[i]?
 |[],acc,k,o,h=>by simp at h
 |o'::os,acc,0,o,h=>by
  simp only[List.getElem?_cons_zero,dH]at h;subst h;refine⟨acc,?_,Ψ,fun i aE=>?_⟩
  ·simp only[sq,Nat.add_zero];rw[Ki os _ _ Ψ];simp
  ·simp only[sq];rw[Ki os _ i (by simp;omega),rE aE]
 |o'::os,acc,k+1,o,h=>by simp only[List.getElem?_cons_succ]at h;obtain⟨uy,I,J,aA⟩:=Sx os (acc++[vc acc o'.after.toList]) k o h;refine⟨uy,?_,by rw[J];simp;omega,fun i aE=>by rw[aA i aE];rfl⟩;simp only[sq];rw[show acc.length+(k+1)=(acc++[vc acc o'.after.toList]).length+k from by simp;omega];exact I
def ML(ops:Array Oper)(listed:Array Bool):Prop:= ∀k o,ops[k]? =some o->listed.getD k false=true->∀e∈o.after.toList,Region.binds .any e=true->listed.getD e.on false=true
theorem aer{ops:Array Oper}{listed:Array Bool}(aP:ML ops listed):∀(k:Nat) (o:Oper),ops[k]? =some o->(∀e∈o.after.toList,Region.binds .any e=true->listed.getD e.on false=true)->∀j,((sq [] ops.toList).getD k 0).testBit j=true->listed.getD j false=true:=by
 intro k;induction k using Nat.strongRecOn with
 |_ k bp=>
  intro o az aG j aD;obtain⟨uy,I,J,aA⟩:=Sx ops.toList [] k o (by simpa using az);simp only[mh,n9]at I J;rw[List.getD_eq_getElem?_getD,I]at aD;obtain⟨e,he,ao,bX⟩:=Kh aD;rcases bX with rfl|bX
  ·exact aG e he ao
  ·by_cases bY:e.on<uy.length
   ·have hm:uy.getD e.on 0=(sq [] ops.toList).getD e.on 0:=by rw[List.getD_eq_getElem?_getD,aA _ bY,List.getD_eq_getElem?_getD]
    have aa:k<ops.size:=(Array.getElem?_eq_some_iff.1 az).1;have h5:ops[e.on]? =some ops[e.on]:=Array.getElem?_eq_getElem Ω;rw[hm]at bX;exact bp e.on Ω _ h5 (fun jk B4 hL=>aP e.on _ h5 (aG e he ao) jk B4 hL) j bX
   ·rw[List.getD_eq_getElem?_getD,List.getElem?_eq_none Ω]at bX;simp at bX
theorem UQ{m:Nat}{h:cT}:∀{gs:List cT} {i0:Nat},Ds m h i0 gs=true->∀i g,gs[i]? =some g->m.testBit (i0+i)=true\/zu g h=true
 |[],i0,_,i,g,aR=>by simp at aR
 |eP::r,i0,hr,0,g,aR=>by simp only[Ds,bF,Bool.or_eq_true]at hr;simp only[List.getElem?_cons_zero,dH]at aR;subst aR;simpa using hr.1
 |eP::r,i0,hr,i+1,g,aR=>by simp only[Ds,bF]at hr;have:=UQ hr.2 i g (by simpa using aR);rwa[show i0+1+i=i0+(i+1)from by omega]at this
theorem Tx:∀{gs pre:List cT} {ms:List Nat},C9 pre gs ms=true->∀j h,gs[j]? =some h->∀i g,i<pre.length+j->(pre++gs)[i]? =some g->(ms.getD j 0).testBit i=true\/zu g h=true
 |[],pre,ms,_,j,h,aD,_,_,_,_=>by simp at aD
 |cx::r,pre,[],bn,j,h,aD,_,_,_,_=>by simp[C9]at bn
 |cx::r,pre,m::ms,bn,j,h,aD,i,g,aE,aR=>by
  simp only[C9,bF]at bn;cases j with
  |zero=>simp only[List.getElem?_cons_zero,dH]at aD;subst aD;rw[rE Ω]at aR;simpa using UQ bn.1 i g aR
  |succ j=>have:=Tx bn.2 j h (by simpa using aD) i g (by simp;omega) (by simpa using aR);simpa using this
theorem Pj:∀{os:List Oper} {k:Nat},BC k os=true->∀i o,os[i]? =some o->∀e∈o.after.toList,Region.binds .any e=true->e.on<k+i
 |[],k,_,i,o,az,_,_,_=>by simp at az
 |o'::os,k,h,0,o,az,e,he,ao=>by simp only[BC,bF,hq]at h;simp only[List.getElem?_cons_zero,dH]at az;subst az;have:=h.1 e he;simpa[ao]using this
 |o'::os,k,h,i+1,o,az,e,he,ao=>by simp only[BC,bF]at h;have:=Pj h.2 i o (by simpa using az) e he ao;omega
theorem Qr{N:Nat}{bu:List (Nat×dt)}{ops:List Oper}:∀{gs:List cT} {os:List Oper},ko N bu ops gs os=true->∀(i:Nat) (g:cT),gs[i]? =some g->∃o,os[i]? =some o/\BP N bu ops g o=true
 |[],[],_,i,g,h=>by simp at h
 |[],_::_,h,_,_,_=>by simp[ko]at h
 |_::_,[],h,_,_,_=>by simp[ko]at h
 |eP::gs,o::os,h,0,g,aR=>by simp only[ko,bF]at h;simp only[List.getElem?_cons_zero,dH]at aR;subst aR;exact⟨o,Ψ,h.1⟩
 |eP::gs,o::os,h,i+1,g,aR=>by simp only[ko,bF]at h;obtain⟨o',I,J⟩:=Qr h.2 i g (by simpa using aR);exact⟨o',by simpa using I,J⟩
theorem IM{N:Nat}{bu:List (Nat×dt)}{ops:List Oper}:∀{gs:List cT} {os:List Oper},ko N bu ops gs os=true->gs.length=os.length
 |[],[],_=>rfl
 |[],_::_,h=>by simp[ko]at h
 |_::_,[],h=>by simp[ko]at h
 |g::gs,o::os,h=>by simp only[ko,bF]at h;simp[IM h.2]
theorem Up{l:Array Bool}:∀(gs:List cT) (k:Nat),rem l k gs=[]\/ ∃i g,i<gs.length/\gs[i]? =some g/\l.getD (k+i) false=false/\∀j,j<i->l.getD (k+j) false=true
 |[],_=>.inl rfl
 |g::r,k=>by
  by_cases h:l.getD k false=true
  ·rcases Up (l:=l) r (k+1)with I|⟨i,eP,I,J,aA,aS⟩
   ·left;simp only[rem,h,if_true,I]
   ·refine .inr ⟨i+1,eP,by simp;omega,by simpa using J,by rw[show k+(i+1)=k+1+i from by omega];exact aA,fun j aD=>?_⟩;cases j with
    |zero=>simpa using h
    |succ j=>rw[show k+(j+1)=k+1+j from by omega];exact aS j Ω
  ·exact .inr ⟨0,g,Ψ,Ψ,by simpa using h,fun j aD=>Ω⟩
theorem WC{P:b3}{bu:List (Nat×dt)}(aI:e7 P bu=true){C:eI}{q:Bool}{n0:Nat}{ops:Array Oper}{gs:List cT}(kr:ko C.N bu ops.toList gs ops.toList=true)(EV:Bk gs ops.toList=true){K:de->Prop}{Q:Exit->Act->World->Prop}
  (jm:∀A a w,K A->xc C A a w->Q .normal a w):∀(fuel:Nat) (listed:Array Bool) (A:de) (a:Act) (w:World),listed.size=ops.size->ML ops listed->(rem listed 0 gs).length<=fuel->vS P q n0 K (rem listed 0 gs) A->xc C A a w->wpAny P .any ops Q fuel listed a w:=by
 simp only[Bk,bF]at EV;obtain⟨IT,ac2⟩:=EV;have hlen:gs.length=ops.size:=by simpa using IM kr
 have QT:∀(listed:Array Bool) (A:de) (a:Act) (w:World),listed.size=ops.size->vS P q n0 K (rem listed 0 gs) A->xc C A a w->Region.ready .any ops listed=[]->Q .normal a w:=by
  intro listed A a w ef nK hr Fp;rcases Up (l:=listed) gs 0 with h|⟨i,g,I,J,aA,aS⟩
  ·rw[h]at nK;exact jm A a w nK hr
  ·exfalso;have aE:i<ops.size:=Ω
   have k4:i∈Region.ready .any ops listed:=by
    unfold Region.ready;simp only[List.mem_filter,List.mem_range,bF,Bool.not_eq_true'];refine⟨aE,?_,?_⟩
    ·rw[n9]at aA;simp only[Array.getD_eq_getD_getElem?]at aA⊢;rw[Array.getElem?_eq_getElem Ω]at aA⊢;simpa using aA
    ·rw[Array.getElem?_eq_getElem aE];simp only[oa,qE];rw[<-Array.all_toList,hq];intro e he;by_cases ao:Region.binds .any e=true
     ·have bY:=Pj IT i ops[i] (by simp[aE]) e he ao;have:=aS e.on Ω;rw[n9]at this;simp[this]
     ·simp[ao]
   rw[Fp]at k4;simp at k4
 intro fuel;induction fuel with
 |zero=>
  intro listed A a w ef aP aY nK hr;have acX:rem listed 0 gs=[]:=n5 Ω;have Fp:Region.ready .any ops listed=[]:=by
   rw[List.eq_nil_iff_forall_not_mem];intro i aE;unfold Region.ready at aE;simp only[List.mem_filter,List.mem_range,bF,Bool.not_eq_true']at aE;obtain⟨I,J,_⟩:=aE;have aJ:listed.getD i false=false:=by simp only[Array.getD_eq_getD_getElem?]at J⊢;rw[Array.getElem?_eq_getElem Ω]at J⊢;simpa using J
   obtain⟨od,o5,g,_,aU,_⟩:=Li Ω aJ gs 0 Ω Ω;rw[acX]at aU;simp at aU
  exact⟨Fp,QT listed A a w ef nK hr Fp⟩
 |succ fuel bp=>
  intro listed A a w ef aP aY nK hr;refine⟨QT listed A a w ef nK hr,fun i aE=>?_⟩;unfold Region.ready at aE;simp only[List.mem_filter,List.mem_range,bF,Bool.not_eq_true']at aE;obtain⟨I,J,aA⟩:=aE;have aJ:listed.getD i false=false:=by simp only[Array.getD_eq_getD_getElem?]at J⊢;rw[Array.getElem?_eq_getElem Ω]at J⊢;simpa using J
  have az:ops[i]? =some ops[i]:=Array.getElem?_eq_getElem I;have QU:∀e∈ops[i].after.toList,Region.binds .any e=true->listed.getD e.on false=true:=by rw[az]at aA;simp only[oa,qE]at aA;rw[<-Array.all_toList,hq]at aA;intro e he ao;simpa[ao]using aA e he
  obtain⟨od,o5,g,aB,aU,b1,dN⟩:=Li Ω aJ gs 0 Ω Ω;simp only[Nat.sub_zero]at aB dN;rw[aU]at nK;obtain⟨x,ad,abP⟩:=No od o5 A (fun y bB=>by
   obtain⟨f1,f2,f3,f4⟩:=dN y bB;rcases Tx ac2 i g aB y.1 y.2 (by simpa using f3) (by simpa using f1)with h|h
   ·have:=aer aP i ops[i] az QU y.1 h;rw[f4]at this;cases this
   ·exact h) nK
  obtain⟨o',g1,g2⟩:=Qr kr i g aB;have:o'=ops[i]:=by rw[Array.getElem?_toList,az]at g1;exact(hd g1).symm
  subst this;refine Wn aI az g2 ad hr fun c1 w' dA=>?_;refine bp (listed.setIfInBounds i true) (A.do x) c1 w' (by simpa using ef) ?_ ?_ (by rw[b1];exact abP) dA
  ·intro k o aa aG e he ao;rw[EL Ω]at aG⊢;split
   ·rfl
   ·by_cases kd:i=k
    ·subst kd;rw[az]at aa;cases aa;exact QU e he ao
    ·rw[bo kd]at aG;exact aP k o aa aG e he ao
  ·rw[b1];rw[aU]at aY;simp at aY⊢;omega
def xH(n0 d:Nat)(st:a6):Prop:= .loc (n0+d)∉st.o/\look (.loc (n0+d)) st.b=none/\look (.loc (n0+d)) st.e=none
def fP.loadO(q:Bool)(t:List (Nat×al)):fP->Prop
 | .load _ _ x=>q=true\/yf (bQ t x)=true
 | .loadB _ _ _=>True
 | .mgetB _ _ _ _ _=>True
 | .mget _ _ _ _ _=>q=true
 | .ment _=>q=true
 | .mlen _=>q=true
 |_=>True
def kL(q:Bool)(nw:List Nat)(n0:Nat)(st:a6):dL->Prop
 | .v _ i=>i.loadO q st.t
 | .box d none _=>xH n0 d st
 | .alloc d none _=>xH n0 d st
 | .box _ (some _) _=>dD
 | .alloc _ (some _) _=>dD
 | .store _ x _=>match bQ st.t x with| .ptr _ _=>True|_=>dD
 | .bslm _ none _ _ _=>dD
 | .bslm _ (some m) _ _ _=>m∈nw/\look (.obj m) st.b=none/\look (.obj m) st.e=none
 | .mks _ _ _ _ _ _=>dD
 | .apps _ _ _ _=>dD
 | .appm _ none _ _ x _=>match bQ st.t x with| .row _ _ _=>True|_=>dD
 | .appm _ (some m) _ _ x _=>match bQ st.t x with| .row _ _ _=>True| .slice _ .nil _=>m∈nw/\look (.obj m) st.b=none/\look (.obj m) st.e=none|_=>dD
 | .storeE _ _ _=>True
 | .mkmap _ none=>dD
 | .mkmap _ (some m)=>m∈nw/\look (.obj m) st.b=none/\look (.obj m) st.e=none
 | .mput _ _ _ _=>True
 | .range _ _ _=>dD
 | .bsl d _ _ _=>xH n0 d st
 | .app d _ _ x _=>match bQ st.t x with
  | .slice _ .nil _=>xH n0 d st
  | .slice _ (.own k) _=>(look k st.e).bind (·.xs)=none
  |_=>True
def nH(n0:Nat):dL->aO
 | .mkmap _ (some m)=>.obj m
 | .appm _ (some m) _ _ _ _=>.obj m
 | .bslm _ (some m) _ _ _=>.obj m
 | .v d _| .box d _ _| .alloc d _ _| .bsl d _ _ _| .app d _ _ _ _| .bslm d _ _ _ _| .appm d _ _ _ _ _| .mkmap d _| .range d _ _| .mks d _ _ _ _ _| .apps d _ _ _=>.loc (n0+d)
 | .store _ _ _| .mput _ _ _ _| .storeE _ _ _=>.loc n0
def adZ(nw:List Nat)(st:a6)(s aq:dF)(rm:a1 aO):Prop:=(∀k,(look k aq.b).isSome->(look k s.b).isSome\/rm=some k)/\(∀k,(look k aq.e).isSome->(look k s.e).isSome\/rm=some k)/\(∀k,(look k s.b).isSome->(look k aq.b).isSome)/\(∀k,(look k s.e).isSome->(look k aq.e).isSome)/\
 (∀k,rm=some k->(∃j,j∈nw/\k= .obj j)/\look k st.b=none/\look k st.e=none/\((look k aq.b).isSome\/(look k aq.e).isSome))
def hf(P:b3)(q:Bool)(nw:List Nat)(n:Nat)(args:List al)(st:a6)(d:a1 Nat)(K:a6->Prop):Prop:=
 (∃gd r,d=some gd/\xH st.n gd st/\aj (fun _=>dD) args/\Hh P n (st.n+gd) args ⟨[],[]⟩ (fun dh eH=>dh=r/\eH=⟨[],[]⟩)/\K {st with t:=put gd r st.t,o:= .loc (st.n+gd)::st.o})\/
 ∃s aq r rm,oX (ag s) s.b st.b/\oY (ag s) s.e st.e/\jc s/\jc aq/\adZ nw st s aq rm/\aj (ag s) args/\bJ P n args s (fun dh eH=>dh=r/\eH=aq)/\(q=true->aq.b=[]/\aq.e=[])/\K {after st s aq d r with o:=st.o}
def iX(P:b3)(q:Bool)(nw:List Nat)(n0:Nat)(st:a6)(K:a6->Prop):dM->Prop
 | .s i=>match ei (nH n0 i) st.n (nH n0 i::st.o) st i with
  |some (c,st')=>kL q nw n0 st i/\c/\K st'
  |none=>dD
 | .call d f xs=>match bQ st.t f with
  | .func n dy=>hf P q nw n (ca (xs.map (bQ st.t)++dy)) st d K
  |_=>dD
 | .next _ _=>dD
 | .opn _ _ _=>dD
 | .callb _ _=>dD
def hU(P:b3)(q:Bool)(nw:List Nat)(n0:Nat):List cT->a6->(a6->Prop)->Prop
 |[],st,K=>K st
 |⟨none,i⟩::r,st,K=>iX P q nw n0 st (fun st'=>hU P q nw n0 r st' K) i
 |⟨some (s,want),i⟩::r,st,K=>match get s st.t with
  | .bool b=>(b=want->iX P q nw n0 {st with t:=put s (.bool want) st.t} (fun st'=>hU P q nw n0 r st' K) i)/\(b= !want->hU P q nw n0 r {st with t:=fk i.dst (.tuple []) (put s (.bool !want) st.t)} K)
  | .tuple []=>hU P q nw n0 r {st with t:=fk i.dst (.tuple []) st.t} K
  |_=>dD
structure s0 (nw:List Nat) (n0 N:Nat) (nt:List aO) (st:a6) (A:de):Prop where
 like:ln st A
 n:st.n=n0
 F:∀k,fresh n0 st.o k->(∀j∈nw,k≠ .obj j)->A.F k
 o:∀k∈st.o,k∈nt\/(∃d,d<N/\k= .loc (n0+d))\/ ∃j∈nw,k= .obj j
def AZ(nw:List Nat)(A:de):Prop:= ∀j∈nw,A.b (.obj j)=none->A.e (.obj j)=none->A.F (.obj j)
theorem AZ.do{P:b3}{q:Bool}{n0:Nat}{nw:List Nat}{A:de}(h:AZ nw A){g:cT}{x:kI}(ad:kJ P q n0 g A x):AZ nw (A.do x):=by
 intro j aD ao he;refine⟨h j aD (Ej ao) (Ek he),fun rV=>?_⟩;rcases(L3 ad).r _ rV with⟨d,_,e⟩|⟨_,_,au⟩
 ·cases e
 ·rcases au with au|au
  ·obtain⟨y,bB⟩:=fG.1 au;simp[de.do,iB,bB]at ao
  ·obtain⟨y,bB⟩:=fG.1 au;simp[de.do,iB,bB]at he
theorem Po{P:b3}{q:Bool}{nw:List Nat}{n0 N:Nat}{nt:List aO}{i:dM}(aP:∀d,i.dst=some d->d<N){st:a6}{A:de}(h:s0 nw n0 N nt st A)(oB:AZ nw A){K:a6->Prop}(he:iX P q nw n0 st K i):∃x st',dB P q n0 i A x/\K st'/\s0 nw n0 N nt st' (A.do x):=by
 have aG:=h.like;have xU:∀d,xH n0 d st->(A.F (.loc (n0+d))/\A.b (.loc (n0+d))=none/\A.e (.loc (n0+d))=none):=fun d aY=>⟨h.F _ ⟨Ψ,aY.1⟩ (fun _ _ e=>by cases e),by rw[<-aG.b];exact aY.2.1,by rw[<-aG.e];exact aY.2.2⟩;have na:∀(d:a1 Nat) (p:al) (bw:List (aO×List al)) (ew:List (aO×dU)) (κ:aO),∀k,fresh n0 (κ::st.o) k->(∀j∈nw,k≠ .obj j)->(A.do ⟨d,p,bw,ew,some κ⟩).F k:=fun d p bw ew κ k aa aD=>⟨h.F k (tx k aa).1 aD,fun e=>(tx k aa).2 (hd e).symm⟩;have wc:∀(d:a1 Nat) (p:al) (bw:List (aO×List al)) (ew:List (aO×dU)),∀k,fresh n0 st.o k->(∀j∈nw,k≠ .obj j)->(A.do ⟨d,p,bw,ew,none⟩).F k:=fun d p bw ew k aa aD=>⟨h.F k aa aD,Ψ⟩;have Ck:∀d,d<N->∀k∈aO.loc (n0+d)::st.o,k∈nt\/(∃d,d<N/\k= .loc (n0+d))\/ ∃j∈nw,k= .obj j:=fun d aP k aa=>by
  rcases gb.1 aa with rfl|aa
  ·exact .inr (.inl ⟨d,aP,rfl⟩)
  ·exact h.o k aa
 cases i with
 |s i=>
  cases i with
  |v d i=>
   simp only[iX,ei]at he;cases aK:gH st i with
   |none=>simp[aK]at he
   |some XT=>
    obtain⟨c,p⟩:=XT;simp only[aK]at he;obtain⟨I,J,aA⟩:=he;refine⟨⟨some d,p,[],[],none⟩,_,⟨c,p,by rw[<-Vz aG];exact aK,J,fun nN=>?_,rfl⟩,aA,Kb aG d p,h.n,wc _ _ _ _,h.o⟩;cases i<;>simp only[fP.isLoad]at nN<;>try(cases nN;done)
    case mget=>exact .inr (.inl I)
    case ment=>exact .inr (.inl I)
    case mlen=>exact .inr (.inl I)
    case loadB=>exact .inl rfl
    case mgetB=>exact .inl rfl
    simp only[kL,fP.loadO,hV aG]at I;exact .inr (by simpa only[fP.ptrOf]using I)
  |box d key v=>
   cases key with
   |some m=>simp only[iX,ei,kL,false_and]at he
   |none=>simp only[iX,ei,kL,nH]at he;obtain⟨I,J,aA⟩:=he;rw[hV aG]at J;refine⟨_,_,⟨xU d I,J,rfl⟩,aA,?_,h.n,na _ _ _ _ _,Ck d (aP d rfl)⟩;rw[hV aG];exact z7 aG d _ _ _ _ _ _
  |alloc d key z=>
   cases key with
   |some m=>simp only[iX,ei,kL,false_and]at he
   |none=>simp only[iX,ei,kL,nH]at he;obtain⟨I,J,aA⟩:=he;exact⟨_,_,⟨xU d I,rfl⟩,aA,z7 aG d _ _ _ _ _ _,h.n,na _ _ _ _ _,Ck d (aP d rfl)⟩
  |store sz u v=>
   simp only[iX,ei]at he;cases hu:bQ st.t u with
   |ptr k off=>
    cases ao:look k st.b with
    |none=>simp[hu,ao]at he
    |some cs=>simp only[hu,ao]at he;obtain⟨I,J,aA⟩:=he;rw[hV aG]at J hu;refine⟨⟨none,.junk,[(k,oV cs off (cells (di A.t v)))],[],none⟩,_,⟨k,off,cs,hu,by rw[<-aG.b];exact ao,J,rfl⟩,aA,?_,h.n,wc _ _ _ _,h.o⟩;rw[hV aG];exact FR aG k _ _
   |_=>
    exfalso;simp only[hu]at he;split at he
    ·have:=he.1;simp[kL,hu]at this
    ·exact he
  |bsl d sz el xs=>simp only[iX,ei,kL,nH]at he;obtain⟨I,J,aA⟩:=he;rw[p2 aG]at J;refine⟨_,_,⟨xU d I,J,rfl⟩,aA,?_,h.n,na _ _ _ _ _,Ck d (aP d rfl)⟩;rw[p2 aG];exact ps aG d _ _ _ _ _ _
  |app d sz el u v=>
   simp only[iX,ei]at he;cases hu:bQ st.t u with
   |slice dn tag xs=>
    cases aK:bQ st.t v with
    |slice ia gT ys=>
     simp only[hu,aK]at he;by_cases eQ:dn=sz/\ia=sz
     ·obtain⟨rfl,rfl⟩:=eQ;rw[hV aG]at hu aK;cases tag with
      |no=>simp at he
      |tr k j=>simp at he
      |lo k=>simp at he
      |nil=>simp only[and_self,if_true,kL,hV aG,hu,nH]at he;obtain⟨I,J,aA⟩:=he;exact⟨_,_,⟨.nil,xs,gT,ys,hu,aK,.inr ⟨rfl,J,xU d I,rfl⟩⟩,aA,ps aG d _ _ _ _ _ _,h.n,na _ _ _ _ _,Ck d (aP d rfl)⟩
      |own k=>
       cases aa:look k st.e with
       |none=>simp[aa]at he
       |some o=>simp only[and_self,if_true,aa]at he;obtain⟨I,J,aA⟩:=he;exact⟨_,_,⟨.own k,xs,gT,ys,hu,aK,.inl ⟨k,o,rfl,by rw[<-aG.e];exact aa,⟨by simpa[kL,hV aG,hu,aa]using I,J⟩,rfl⟩⟩,aA,ps aG d _ _ _ _ _ _,h.n,wc _ _ _ _,h.o⟩
     ·simp[eQ]at he
    |_=>simp[hu,aK]at he
   |_=>simp[hu]at he
  |bslm d key sz el xs=>
   cases key with
   |none=>simp only[iX,ei,kL,false_and]at he
   |some m=>
    simp only[iX,ei,kL,nH]at he;obtain⟨⟨bK,I,J⟩,aS,aA⟩:=he;rw[aG.b]at I;rw[aG.e]at J;rw[p2 aG]at aS;refine⟨_,_,⟨⟨oB m bK I J,I,J⟩,aS,rfl⟩,aA,?_,h.n,na _ _ _ _ _,fun k aa=>?_⟩
    ·rw[p2 aG];exact ps aG d _ _ _ _ _ _
    rcases gb.1 aa with rfl|aa
    ·exact .inr (.inr ⟨m,bK,rfl⟩)
    ·exact h.o k aa
  |mks d key sz el z x=>simp only[iX,ei,kL,false_and]at he;split at he<;>simp at he
  |apps d el x y=>simp only[iX,ei,kL,false_and]at he;split at he<;>simp at he
  |appm d key sz el u v=>
   cases key with
   |some m=>
    simp only[iX,ei]at he;cases hu:bQ st.t u with
    |slice dn tag xs=>
     cases tag with
     |nil=>
      cases aK:bQ st.t v with
      |slice ia gT ys=>
       simp only[hu,aK,mn]at he;by_cases eQ:dn=sz/\ia=sz
       ·obtain⟨rfl,rfl⟩:=eQ;simp only[and_self,if_true,kL,hu,nH]at he;rw[hV aG]at hu aK;obtain⟨⟨bK,I,J⟩,aS,aA⟩:=he;rw[aG.b]at I;rw[aG.e]at J;refine⟨_,_,.inr ⟨xs,gT,ys,hu,aK,⟨oB m bK I J,I,J⟩,aS,rfl⟩,aA,ps aG d _ _ _ _ _ _,h.n,na _ _ _ _ _,fun k aa=>?_⟩;rcases gb.1 aa with rfl|aa
        ·exact .inr (.inr ⟨m,bK,rfl⟩)
        ·exact h.o k aa
       ·simp[eQ]at he
      |_=>simp[hu,aK,mn]at he
     |_=>simp[hu,mn]at he
    |row dn k n=>
     cases aK:bQ st.t v with
     |slice ia gT ys=>
      simp only[hu,aK,mn]at he;by_cases eQ:dn=sz/\ia=sz
      ·obtain⟨rfl,rfl⟩:=eQ;rw[hV aG]at hu aK;simp only[and_self,if_true]at he;cases aa:look k st.e with
       |none=>simp[aa]at he
       |some o=>
        obtain⟨n',eO,uc,C5⟩:=o;cases C5 with
        |none=>simp[aa]at he
        |some xs=>
         simp only[aa]at he;by_cases kN:n'=n/\eO=el/\uc=ia
         ·obtain⟨rfl,rfl,rfl⟩:=kN;simp only[and_self,if_true]at he;obtain⟨I,J,aA⟩:=he;exact⟨_,_,.inl ⟨k,n',xs,gT,ys,hu,aK,by rw[<-aG.e];exact aa,J,rfl⟩,aA,ps aG d _ _ _ _ _ _,h.n,wc _ _ _ _,h.o⟩
         ·simp[kN]at he
      ·simp[eQ]at he
     |_=>simp[hu,aK,mn]at he
    |_=>simp[hu,mn]at he
   |none=>
   simp only[iX,ei]at he;cases hu:bQ st.t u with
   |row dn k n=>
    cases aK:bQ st.t v with
    |slice ia gT ys=>
     simp only[hu,aK,mn]at he;by_cases eQ:dn=sz/\ia=sz
     ·obtain⟨rfl,rfl⟩:=eQ;rw[hV aG]at hu aK;simp only[and_self,if_true]at he;cases aa:look k st.e with
      |none=>simp[aa]at he
      |some o=>
       obtain⟨n',eO,uc,C5⟩:=o;cases C5 with
       |none=>simp[aa]at he
       |some xs=>
        simp only[aa]at he;by_cases kN:n'=n/\eO=el/\uc=ia
        ·obtain⟨rfl,rfl,rfl⟩:=kN;simp only[and_self,if_true]at he;obtain⟨I,J,aA⟩:=he;exact⟨_,_,⟨k,n',xs,gT,ys,hu,aK,by rw[<-aG.e];exact aa,J,rfl⟩,aA,ps aG d _ _ _ _ _ _,h.n,wc _ _ _ _,h.o⟩
        ·simp[kN]at he
     ·simp[eQ]at he
    |_=>simp[hu,aK,mn]at he
   |slice dn tag xs=>
    exfalso;simp only[hu]at he;split at he
    ·have:=he.1;simp[kL,hu]at this
    ·exact he
   |_=>simp[hu,mn]at he
  |storeE sz u v=>
   simp only[iX,ei]at he;cases hu:bQ st.t u with
   |rptr dn k n i f=>
    cases aa:look k st.e with
    |none=>simp[hu,rq,aa]at he
    |some o=>
     obtain⟨n',el,uc,C5⟩:=o;cases C5 with
     |none=>simp[hu,rq,aa]at he
     |some xs=>
      simp only[hu,rq,aa]at he;by_cases kN:n'=n/\uc=dn
      ·obtain⟨rfl,rfl⟩:=kN;simp only[and_self,if_true]at he;cases bA:xs[i]? with
       |none=>simp[bA]at he
       |some q=>simp only[bA]at he;obtain⟨I,J,aA⟩:=he;rw[hV aG]at J hu;refine⟨⟨none,.junk,[],[(k,⟨n',el,uc,some (xs.set i (rk q f (cells (di A.t v))))⟩)],none⟩,_,⟨k,n',i,f,el,uc,xs,q,hu,by rw[<-aG.e];exact aa,bA,J,rfl⟩,aA,?_,h.n,wc _ _ _ _,h.o⟩;rw[hV aG];exact Sp aG k _ _
      ·simp[kN]at he
   |_=>simp[hu,rq]at he
  |mkmap d key=>
   cases key with
   |none=>simp only[iX,ei,kL,false_and]at he
   |some m=>
    simp only[iX,ei,kL,nH]at he;obtain⟨⟨bK,I,J⟩,_,aA⟩:=he;rw[aG.b]at I;rw[aG.e]at J;refine⟨_,_,⟨⟨oB m bK I J,I,J⟩,rfl⟩,aA,z7 aG d _ _ _ _ _ _,h.n,na _ _ _ _ _,fun k aa=>?_⟩;rcases gb.1 aa with rfl|aa
    ·exact .inr (.inr ⟨m,bK,rfl⟩)
    ·exact h.o k aa
  |mput b7 u k v=>
   simp only[iX,ei,kL]at he;cases hu:bQ st.t u with
   |gmap m=>
    cases ao:look m st.b with
    |none=>simp[hu,ao]at he
    |some cs=>
     cases hm:ra b7 (bQ st.t k) (bQ st.t v) cs with
     |none=>simp[hu,ao,hm]at he
     |some cs'=>simp only[hu,ao,hm]at he;rw[hV aG]at hu;rw[hV aG,hV aG]at hm;exact⟨⟨none,.junk,[(m,cs')],[],none⟩,_,⟨m,cs,cs',hu,by rw[<-aG.b];exact ao,hm,rfl⟩,he.2.2,FR aG m _ _,h.n,wc _ _ _ _,h.o⟩
   |_=>simp[hu]at he
  |range d key x=>simp only[iX,kL,false_and]at he;split at he<;>exact he.elim
 |next d x=>simp only[iX]at he
 |opn d f x=>simp only[iX]at he
 |callb d f=>simp only[iX]at he
 |call d f xs=>
  simp only[iX]at he;cases aY:bQ st.t f with
  |func n dy=>
   simp only[aY]at he;rw[hV aG]at aY;rcases he with⟨gd,r,rfl,c8,c2,c3,c4⟩|⟨s,aq,r,rm,c8,c2,c3,c4,c5,iW,jB,WW,c9⟩
   ·rw[p2 aG]at c2 c3;have aJ:=h.n;subst aJ;refine⟨⟨some gd,r,[],[],some (.loc (st.n+gd))⟩,_,⟨n,dy,aY,.inr ⟨gd,r,rfl,xU gd c8,c2,c3,rfl⟩⟩,c4,Sq aG gd r _ _,rfl,na _ _ _ _ _,Ck gd (aP gd rfl)⟩
   rw[p2 aG]at iW jB;obtain⟨cE,dj,gD,jV,q8⟩:=c5;refine⟨⟨d,r,aq.b,aq.e,rm⟩,_,⟨n,dy,aY,.inl ⟨⟨s,aq,r,rm,fun k cs aa=>⟨by rw[<-aG.b];exact(c8 k cs aa).1,(c8 k cs aa).2.2⟩,fun k o aa=>⟨by rw[<-aG.e];exact(c2 k o aa).1,(c2 k o aa).2.2⟩,c3,c4,⟨cE,dj,gD,jV,fun k aa=>?_⟩,iW,jB,rfl⟩,WW⟩⟩,c9,⟨fun i=>?_,fun k=>?_,fun k=>?_⟩,h.n,fun k aa aD=>⟨h.F k aa aD,fun rV=>?_⟩,h.o⟩
   ·obtain⟨⟨j,aD,rfl⟩,aU,b1,dN⟩:=q8 k aa;rw[aG.b]at aU;rw[aG.e]at b1;exact⟨⟨j,rfl⟩,oB j aD aU b1,aU,b1,dN⟩
   ·simp only[after,de.do];cases d with
    |none=>simpa[fk]using aG.t i
    |some d=>simp only[fk,get_put,dH,aG.t]
   ·simp only[after,de.do,iB,yl,tO];by_cases au:(look k s.b).isSome
    ·have:=gD k au;obtain⟨y,bB⟩:=fG.1 this;simp[au,bB]
    ·cases aJ:look k aq.b with
     |none=>simp only[au,aG.b];cases A.b k<;>simp
     |some y=>
      rcases cE k (by simp[aJ])with h|h
      ·exact absurd h au
      ·have:=q8 k h;simp[au,this]
   ·simp only[after,de.do,iB,yl,tO];by_cases au:(look k s.e).isSome
    ·have:=jV k au;obtain⟨y,bB⟩:=fG.1 this;simp[au,bB]
    ·cases aJ:look k aq.e with
     |none=>simp only[au,aG.e];cases A.e k<;>simp
     |some y=>
      rcases dj k (by simp[aJ])with h|h
      ·exact absurd h au
      ·have:=q8 k h;simp[au,this]
   ·obtain⟨⟨j,lA,rfl⟩,_⟩:=q8 k rV;exact aD j lA rfl
  |_=>simp[aY]at he
def zi(N:Nat):List cT->Bool
 |[]=>true
 |g::r=>hv N g.i.dst&&zi N r
def yU:Nat->List cT->List (Nat×cT)
 |_,[]=>[]
 |k,g::r=>(k,g)::yU (k+1) r
theorem M5{nw:List Nat}{n0 N:Nat}{nt:List aO}{st:a6}{A:de}(h:s0 nw n0 N nt st A){s:Nat}{p:al}(au:get s st.t=p):s0 nw n0 N nt {st with t:=put s p st.t} A:=by
 refine⟨⟨fun i=>?_,h.like.b,h.like.e⟩,h.n,h.F,h.o⟩;simp only[get_put];split
 ·rename_i e;subst e;rw[<-au];exact h.like.t _
 ·exact h.like.t i
theorem M6{nw:List Nat}{n0 N:Nat}{nt:List aO}{st:a6}{A:de}(h:s0 nw n0 N nt st A)(d:a1 Nat):s0 nw n0 N nt {st with t:=fk d (.tuple []) st.t} (A.do (lj d)):=by
 refine⟨⟨fun i=>?_,fun k=>?_,fun k=>?_⟩,h.n,fun k aa aD=>⟨h.F k aa aD,by simp[lj]⟩,h.o⟩
 ·simp only[de.do,lj];cases d with
  |none=>simpa[fk]using h.like.t i
  |some d=>simp only[fk,get_put,dH,h.like.t]
 ·simpa[de.do,iB,look,lj]using h.like.b k
 ·simpa[de.do,iB,look,lj]using h.like.e k
theorem BF{P:b3}{q:Bool}{nw:List Nat}{n0 N:Nat}{nt:List aO}{K:a6->Prop}:∀(gs:List cT) (k:Nat),zi N gs=true->∀(st:a6) (A:de),s0 nw n0 N nt st A->AZ nw A->hU P q nw n0 gs st K->vS P q n0 (fun A'=> ∃st',K st'/\s0 nw n0 N nt st' A') (yU k gs) A
 |[],k,_,st,A,h,_,he=>⟨st,he,h⟩
 |⟨IG,i⟩::r,k,aP,st,A,h,oB,he=>by
  simp only[zi,bF]at aP;have fI:∀d,i.dst=some d->d<N:=fun d e=>by have:=aP.1;rw[e]at this;simpa[hv]using this
  simp only[yU,vS];cases IG with
  |none=>simp only[hU]at he;obtain⟨x,st',I,J,aA⟩:=Po fI h oB he;have aR:kJ P q n0 ⟨none,i⟩ A x:=I;exact⟨x,aR,BF r (k+1) aP.2 st' _ aA (oB.do aR) J⟩
  |some yM=>
   obtain⟨s,want⟩:=yM;simp only[hU]at he;split at he
   ·rename_i b ao;by_cases e:b=want
    ·subst e;obtain⟨x,st',I,J,aA⟩:=Po fI (M5 h ao) oB (he.1 rfl);have aR:kJ P q n0 ⟨some (s,b),i⟩ A x:=by unfold kJ;simp only[<-h.like.t,ao];exact .inl ⟨trivial,I⟩
     exact⟨x,aR,BF r (k+1) aP.2 st' _ aA (oB.do aR) J⟩
    ·have hL:b= !want:=by cases b<;>cases want<;>simp at e⊢
     subst hL;have aR:kJ P q n0 ⟨some (s,want),i⟩ A (lj i.dst):=by unfold kJ;simp only[<-h.like.t,ao];exact .inr ⟨trivial,trivial⟩
     exact⟨lj i.dst,aR,BF r (k+1) aP.2 _ _ (M6 (M5 h ao) i.dst) (oB.do aR) (he.2 rfl)⟩
   ·rename_i ao;have aR:kJ P q n0 ⟨some (s,want),i⟩ A (lj i.dst):=by unfold kJ;simp only[<-h.like.t,ao]
    exact⟨lj i.dst,aR,BF r (k+1) aP.2 _ _ (M6 h i.dst) (oB.do aR) he⟩
   ·exact he.elim
theorem Lh:∀(gs:List cT) (l:Array Bool) (k:Nat),(∀j,l.getD j false=false)->rem l k gs=yU k gs
 |[],_,_,_=>rfl
 |g::r,l,k,h=>by simp only[rem,h k,yU,Lh r l (k+1) h];simp
def uo(n:Nat)(o:List aO)(K:a6->Prop)(st:a6):Prop:=K {st with n:=n,o:=o}
theorem Good.like{pr:Nat->Prop}{w:World}{ν:aW}{b fN:List (aO×List al)}{e jk:List (aO×dU)}(h:Good pr w ν b e)(ao:∀k,look k fN=look k b)(he:∀k,look k jk=look k e):Good pr w ν fN jk:=
 ⟨h.alt,fun k cs aa=>h.box k cs (by rw[<-ao];exact aa),fun k bz bl I J=>h.inj k bz bl (by rw[<-ao];exact I) (by rw[<-ao];exact J),fun g o aR=>h.own g o (by rw[<-he];exact aR),
  fun g eP n n' v v' bl I J=>h.oinj g eP n n' v v' bl (by rw[<-he];exact I) (by rw[<-he];exact J),fun g k n v bl I J=>h.obx g k n v bl (by rw[<-he];exact I) (by rw[<-ao];exact J),h.one,
  fun bl aI=>h.otr bl (aI.imp (fun⟨k,b4,a2⟩=>⟨k,by rw[<-ao];exact b4,a2⟩) (fun⟨g,n,v,b4,a2⟩=>⟨g,n,v,by rw[<-he];exact b4,a2⟩))⟩
theorem Pq{P:b3}(hm:P.follows .mixedOrders=true){bu:List (Nat×dt)}(aI:e7 P bu=true){C:eI}{q:Bool}{nw:List Nat}{id:Nat}{ops:Array Oper}{gs:List cT}(kr:ko C.N bu ops.toList gs ops.toList=true)(EV:Bk gs ops.toList=true)(h1:zi C.N gs=true)
  {K:a6->Prop} {Q:Exit->Act->World->Prop} (jm:∀st' c1 w' ν',K st'->cv C st' c1 w' ν'->Q .normal c1 w') {st:a6} {a:Act} {w:World} {ν:aW} (ac0:∀j∈nw,.obj j∉st.o) (he:hU P q nw st.n gs st (uo (st.n+C.N) (nw.map aO.obj++st.o) K)) (hr:cv C st a w ν):(Code.region id ops true).wp P Q a w:=by
 refine wp_region_any hm ?_;have dA:cv C st a {w with drawn:=w.drawn+1} ν:=hr.drawn _;let A:de:=⟨fun i=>get i st.t,fun k=>look k st.b,fun k=>look k st.e,fresh st.n st.o⟩
 have hZ:s0 nw st.n C.N st.o st A:=⟨⟨fun _=>rfl,fun _=>rfl,fun _=>rfl⟩,rfl,fun k aa _=>aa,fun k aa=>.inl aa⟩;have nK:=BF gs 0 h1 st A hZ (fun j aD _ _=>⟨trivial,ac0 j aD⟩) he;have nh:∀j,(Array.replicate ops.size false).getD j false=false:=fun j=>by simp[Array.getD_eq_getD_getElem?,Array.getElem?_replicate];split<;>rfl
 refine WC aI kr EV (q:=q) (n0:=st.n) (K:=fun A'=> ∃st',uo (st.n+C.N) (nw.map aO.obj++st.o) K st'/\s0 nw st.n C.N st.o st' A') ?_ ops.size _ A a _ Ψ ?_ ?_ (by rw[Lh gs _ 0 nh];exact nK) ⟨st,ν,hZ.like,fun k aa=>aa,dA⟩
 ·rintro A' c1 w' ⟨st',aa,bM⟩ ⟨amu,ν',hz,abt,l5⟩;refine jm _ c1 w' ν' aa ⟨l5.good.like (fun k=>by rw[hz.b,<-bM.like.b]) (fun k=>by rw[hz.e,<-bM.like.e]),l5.fr,l5.defers,l5.size,fun i=>?_,fun k zL=>?_,l5.ext,fun m hm aY=>dA.obk m hm (xI (Nat.le_add_right _ _) (fun _ h=>List.mem_append_right _ h) aY)⟩
  ·have:=l5.slot i;rw[hz.t,<-bM.like.t]at this;exact this
  ·refine l5.new k (abt k (bM.F k ?_ fun j aD e=>zL.2 (by subst e;exact rF _ (List.mem_map_of_mem aD))));simp only at zL;refine⟨(xI (Nat.le_add_right st.n C.N) (fun _ h=>h) zL).1,fun k4=>?_⟩;rcases bM.o k k4 with h|⟨d,aP,rfl⟩|⟨j,aD,rfl⟩;rotate_left 2
   ·exact zL.2 (rF _ (List.mem_map_of_mem aD))
   ·exact zL.2 (List.mem_append_right _ h)
   ·have:=zL.1;simp at this;omega
 ·intro k o aa aG;rw[nh]at aG;cases aG
 ·rw[Lh gs _ 0 nh];have:∀(gs:List cT) k,(yU k gs).length=gs.length:=by
   intro gs;induction gs with
   |nil=>intro k;rfl
   |cons g r bp=>intro k;simp[yU,bp]
  rw[this];have:=IM kr;simp at this;omega
mutual
def jh:al->List (aO×Nat)
 | .slice _ tag _=>match tag with| .tr k i=>[(k,i)]|_=>[]
 | .agg cs=>kB cs
 |_=>[]
def kB:List al->List (aO×Nat)
 |[]=>[]
 |x::xs=>jh x++kB xs
end
mutual
def lf:al->Prop
 | .int _ _=>True
 | .bool _=>True
 | .str _=>True
 | .slice _ tag xs=>match tag with| .tr k _=>k≠tZ|_=>xs=[]
 | .agg cs=>tR cs
 |_=>dD
def tR:List al->Prop
 |[]=>True
 |x::xs=>lf x/\tR xs
end
def lK(ν:aW)(l:List (aO×Nat))(b:Nat):Prop:= ∃k i,(k,i)∈l/\ν.tr k i b
theorem Ae{ν:aW}{l cF:List (aO×Nat)}(h:∀x∈l,x∈cF)(b:Nat)(ao:lK ν l b):lK ν cF b:=by obtain⟨k,i,I,J⟩:=ao;exact⟨k,i,h _ I,J⟩
theorem Ks{ν:aW}(fy:∀k j bz fb b,ν.tr k j b->ν.tr bz fb b->k=bz/\j=fb){l cF:List (aO×Nat)}(h:(l++cF).Nodup)(b:Nat)(I:lK ν l b):¬lK ν cF b:=by rintro⟨bz,k9,aA,aS⟩;obtain⟨k,i,I,J⟩:=I;obtain⟨rfl,rfl⟩:=fy k i bz k9 b J aS;rw[rG]at h;exact h.2.2 _ I _ aA rfl
mutual
theorem KJ{w:World}{ν:aW}(fy:∀k j bz fb b,ν.tr k j b->ν.tr bz fb b->k=bz/\j=fb):∀(p:al) (v:Value),aT w ν p v->lf p->(jh p).Nodup->dE true w ν.A (lK ν (jh p)) (cm p) v
 | .int k n,v,h,_,_=>by simpa only[aT,cm,dE]using h
 | .bool b,v,h,_,_=>by simpa only[aT,cm,dE]using h
 | .str s,v,h,_,_=>by simpa only[aT,cm,dE]using h
 | .slice sz tag xs,v,h,az,_=>by
  simp only[aT]at h;obtain⟨⟨a,cap,I,J,aA,aS⟩,_,_,fZ,_⟩:=h;by_cases aI:∃k i,tag= .tr k i
  ·obtain⟨k,i,rfl⟩:=aI;refine EF _ _ v (xJ (fun _ _ h=>⟨h,rfl⟩) (fun _ _ _=>rfl) _ _ _ v (fun b ao=>?_) (fZ k i rfl));exact⟨k,i,by simp[jh],ao⟩
  ·have ad:xs=[]:=by
    simp only[lf]at az;split at az
    ·exact absurd ⟨_,_,rfl⟩ aI
    ·exact az
   subst ad;simp only[cm,ca,dE];exact⟨a,cap,I,J,aA,.inl trivial⟩
 | .agg cs,v,h,az,aJ=>by simp only[aT,lf,jh,cm,dE]at h az aJ⊢;obtain⟨us,I,J⟩:=h;exact⟨us,I,S9 fy cs _ J az aJ⟩
 | .junk,_,_,az,_=>by simp[lf]at az
 | .ptr _ _,_,_,az,_=>by simp[lf]at az
 | .eptr _,_,_,az,_=>by simp[lf]at az
 | .iface _ _,_,_,az,_=>by simp[lf]at az
 | .nilp,_,_,az,_=>by simp[lf]at az
 | .tuple _,_,_,az,_=>by simp[lf]at az
 | .func _ _,_,_,az,_=>by simp[lf]at az
 | .gmap _,_,_,az,_=>by simp[lf]at az
 | .row _ _ _,_,_,az,_=>by simp[lf]at az
 | .rptr _ _ _ _ _,_,_,az,_=>by simp[lf]at az
 | .hdm _ _,_,_,az,_=>by simp[lf]at az
 | .hdi _ _ _,_,_,az,_=>by simp[lf]at az
 | .cst _,_,_,az,_=>by simp[lf]at az
theorem S9{w:World}{ν:aW}(fy:∀k j bz fb b,ν.tr k j b->ν.tr bz fb b->k=bz/\j=fb):∀(cs:List al) (us:List Value),cK w ν cs us->tR cs->(kB cs).Nodup->oy true w ν.A (lK ν (kB cs)) (ca cs) us
 |[],us,h,_,_=>by simpa only[cK,ca,oy]using h
 |c::cs,us,h,az,aJ=>by simp only[cK,tR,kB,ca,oy]at h az aJ⊢;obtain⟨u,bI,I,⟨J,aA⟩,aS⟩:=h;have gS:=rG.1 aJ;exact⟨u,bI,lK ν (jh c),lK ν (kB cs),I,⟨Ae (fun x ad=>rF _ ad),Ae (fun x ad=>List.mem_append_right _ ad),fun _ b ao=>Ks fy aJ b ao⟩,⟨KJ fy c u J az.1 gS.1,aA⟩,S9 fy cs bI aS az.2 gS.2.1⟩
end
theorem KK{w:World}{ν:aW}(fy:∀k j bz fb b,ν.tr k j b->ν.tr bz fb b->k=bz/\j=fb){sz:Nat}:∀(cs:List al) (us:List Value),cR w ν sz cs us->tR cs->(kB cs).Nodup->ox true w ν.A (lK ν (kB cs)) sz (ca cs) us
 |[],us,h,_,_=>by simpa only[cR,ca,ox]using h
 |c::cs,us,h,az,aJ=>by simp only[cR,tR,kB,ca,ox]at h az aJ⊢;obtain⟨u,bI,I,⟨J,aA⟩,aS⟩:=h;have gS:=rG.1 aJ;exact⟨u,bI,lK ν (jh c),lK ν (kB cs),I,⟨Ae (fun x ad=>rF _ ad),Ae (fun x ad=>List.mem_append_right _ ad),fun _ b ao=>Ks fy aJ b ao⟩,⟨KJ fy c u J az.1 gS.1,aA⟩,KK fy cs bI aS az.2 gS.2.1⟩
mutual
theorem ID{t:Bool}{w:World}{A:Nat->Nat->Prop}{ν:aW}(bq:∀b o,A b o->ν.A b o):∀(p:al) (F:Nat->Prop) (v:Value),dE t w A F p v->aT w ν (cm p) v
 | .int k n,_,_,h=>by simpa only[aT,cm,dE]using h
 | .bool b,_,_,h=>by simpa only[aT,cm,dE]using h
 | .str s,_,_,h=>by simpa only[aT,cm,dE]using h
 | .slice sz tag xs,F,v,h=>by
  simp only[dE,cm,aT]at h⊢;obtain⟨a,cap,I,J,aA,aS⟩:=h;refine⟨⟨a,cap,by rw[mM];exact I,by rw[mM];exact J,by rw[mM];exact aA,?_⟩,fun e=>(by cases e),fun g e=>(by cases e),fun _ _ e=>(by cases e),fun _ e=>(by cases e)⟩;rcases aS with rfl|⟨b,off,us,G,aB,_,_,dN,_,hx⟩
  ·exact .inl rfl
  ·exact .inr ⟨b,off,us,aB,wC (fun b o h=>⟨bq b o h,rfl⟩) _ _ dN,P3 bq xs G us hx⟩
 | .agg cs,F,v,h=>by simp only[dE,cm,aT]at h⊢;obtain⟨us,I,J⟩:=h;exact⟨us,I,P5 bq cs F _ J⟩
 | .junk,_,_,h=>by simp[dE]at h
 | .ptr _ _,_,_,h=>by simp[dE]at h
 | .eptr _,_,_,h=>by simp[dE]at h
 | .iface _ _,_,_,h=>by simp[dE]at h
 | .nilp,_,_,h=>by simp[dE]at h
 | .tuple _,_,_,h=>by simp[dE]at h
 | .func _ _,_,_,h=>by simp[dE]at h
 | .gmap _,_,_,h=>by simp[dE]at h
 | .row _ _ _,_,_,h=>by simp[dE]at h
 | .rptr _ _ _ _ _,_,_,h=>by simp[dE]at h
 | .hdm _ _,_,_,h=>by simp[dE]at h
 | .hdi _ _ _,_,_,h=>by simp[dE]at h
 | .cst _,_,_,h=>by simp[dE]at h
theorem P5{t:Bool}{w:World}{A:Nat->Nat->Prop}{ν:aW}(bq:∀b o,A b o->ν.A b o):∀(cs:List al) (F:Nat->Prop) (us:List Value),oy t w A F cs us->cK w ν (ca cs) us
 |[],_,_,h=>by simpa only[oy,ca,cK]using h
 |c::cs,F,us,h=>by simp only[oy,ca,cK]at h⊢;obtain⟨u,bI,jK,jL,I,_,⟨bG,cq⟩,dW⟩:=h;exact⟨u,bI,I,⟨ID bq c jK u bG,cq⟩,P5 bq cs jL bI dW⟩
theorem P3{t:Bool}{w:World}{A:Nat->Nat->Prop}{ν:aW}(bq:∀b o,A b o->ν.A b o){sz:Nat}:∀(cs:List al) (F:Nat->Prop) (us:List Value),ox t w A F sz cs us->cR w ν sz (ca cs) us
 |[],_,_,h=>by simpa only[ox,ca,cR]using h
 |c::cs,F,us,h=>by simp only[ox,ca,cR]at h⊢;obtain⟨u,bI,jK,jL,I,_,⟨bG,cq⟩,dW⟩:=h;exact⟨u,bI,I,⟨ID bq c jK u bG,cq⟩,P3 bq cs jL bI dW⟩
end
mutual
theorem LP:∀p:al,cm (cm p)=cm p
 | .slice _ _ xs=>by simp[cm,wZ xs]
 | .agg cs=>by simp[cm,wZ cs]
 | .tuple vs=>by simp[cm,wZ vs]
 | .eptr x=>by simp[cm,LP x]
 | .iface t x=>by simp[cm,LP x]
 | .func f dy=>by simp[cm,wZ dy]
 | .junk=>rfl
 | .int _ _=>rfl
 | .bool _=>rfl
 | .str _=>rfl
 | .ptr _ _=>rfl
 | .nilp=>rfl
 | .gmap _=>rfl
 | .row _ _ _=>rfl
 | .rptr _ _ _ _ _=>rfl
 | .hdm _ _=>rfl
 | .hdi _ _ _=>rfl
 | .cst _=>rfl
theorem wZ:∀xs:List al,ca (ca xs)=ca xs
 |[]=>rfl
 |x::xs=>by simp[ca,LP x,wZ xs]
end
mutual
def fp:al->List aO
 | .slice _ tag _=>match tag with| .own k=>[k]|_=>[]
 | .row _ k _=>[k]
 | .agg cs=>n2 cs
 | .tuple cs=>n2 cs
 |_=>[]
def n2:List al->List aO
 |[]=>[]
 |x::xs=>fp x++n2 xs
end
def vv(e:List (aO×dU))(k:aO):List al:=((look k e).bind (·.xs)).getD []
mutual
def gB(e:List (aO×dU)):al->List (aO×Nat)
 | .slice _ tag xs=>match tag with| .tr k i=>[(k,i)]| .own _=>kB xs|_=>[]
 | .row _ k _=>kB (vv e k)
 | .agg cs=>pv e cs
 | .tuple cs=>pv e cs
 |_=>[]
def pv(e:List (aO×dU)):List al->List (aO×Nat)
 |[]=>[]
 |x::xs=>gB e x++pv e xs
end
mutual
def iG(e:List (aO×dU)):al->Prop
 | .int _ _=>True
 | .bool _=>True
 | .str _=>True
 | .slice sz tag xs=>match tag with| .tr k _=>k≠tZ| .own k=>True/\(∃el,look k e=some ⟨xs.length,el,sz,none⟩)/\tR xs/\0<sz|_=>xs=[]
 | .row sz k n=>True/\(∃xs el,look k e=some ⟨n,el,sz,some xs⟩/\tR xs)/\0<sz
 | .agg cs=>sx e cs
 | .tuple cs=>sx e cs
 |_=>dD
def sx(e:List (aO×dU)):List al->Prop
 |[]=>True
 |x::xs=>iG e x/\sx e xs
end
mutual
def uB:al->Nat
 | .slice _ _ _=>1
 | .row _ _ _=>1
 | .agg cs=>Bw cs
 | .tuple cs=>Bw cs
 |_=>0
def Bw:List al->Nat
 |[]=>0
 |x::xs=>uB x+Bw xs
end
mutual
def fold(κ:Nat)(e:List (aO×dU)):Nat->al->al
 |j,.slice sz _ xs=>.slice sz (.tr (.loc κ) j) (ca xs)
 |j,.row sz k _=>.slice sz (.tr (.loc κ) j) (ca (vv e k))
 |j,.agg cs=>.agg (uG κ e j cs)
 |j,.tuple cs=>.tuple (uG κ e j cs)
 |_,p=>p
def uG(κ:Nat)(e:List (aO×dU)):Nat->List al->List al
 |_,[]=>[]
 |j,x::xs=>fold κ e j x::uG κ e (j+uB x) xs
end
def mL(ν:aW)(k:aO)(b:Nat):Prop:= ∃n v,ν.ow k=some (n,v)/\v.ownBlock=some b
mutual
def e0(ν:aW)(R:Nat->Prop)(e:List (aO×dU)):al->List (Nat->Prop)
 | .slice _ tag xs=>match tag with| .tr k i=>[fun b=>ν.tr k i b/\¬R b]| .own k=>[fun b=>mL ν k b\/(lK ν (kB xs) b/\¬R b)]|_=>[fun _=>dD]
 | .row _ k _=>[fun b=>mL ν k b\/(lK ν (kB (vv e k)) b/\¬R b)]
 | .agg cs=>n3 ν R e cs
 | .tuple cs=>n3 ν R e cs
 |_=>[]
def n3(ν:aW)(R:Nat->Prop)(e:List (aO×dU)):List al->List (Nat->Prop)
 |[]=>[]
 |x::xs=>e0 ν R e x++n3 ν R e xs
end
mutual
theorem yK(ν:aW)(R:Nat->Prop)(e:List (aO×dU)):∀p,(e0 ν R e p).length=uB p
 | .slice _ tag _=>by cases tag<;>simp[e0,uB]
 | .row _ k _=>by simp[e0,uB]
 | .agg cs=>by simp[e0,uB,LM ν R e cs]
 | .tuple cs=>by simp[e0,uB,LM ν R e cs]
 | .int _ _=>rfl
 | .bool _=>rfl
 | .str _=>rfl
 | .junk=>rfl
 | .ptr _ _=>rfl
 | .eptr _=>rfl
 | .iface _ _=>rfl
 | .nilp=>rfl
 | .func _ _=>rfl
 | .gmap _=>rfl
 | .rptr _ _ _ _ _=>rfl
 | .hdm _ _=>rfl
 | .hdi _ _ _=>rfl
 | .cst _=>rfl
theorem LM(ν:aW)(R:Nat->Prop)(e:List (aO×dU)):∀p,(n3 ν R e p).length=Bw p
 |[]=>rfl
 |x::xs=>by simp[n3,Bw,yK ν R e x,LM ν R e xs]
end
def ED(ν:aW)(R:Nat->Prop)(ns:List (aO×Nat))(rw:List aO)(b:Nat):Prop:=(∃k∈rw,mL ν k b)\/(lK ν ns b/\¬R b)
mutual
theorem GW{ν:aW}{R:Nat->Prop}{e:List (aO×dU)}:∀(p:al) (i:Nat) (S:Nat->Prop),(e0 ν R e p)[i]? =some S->∀b,S b->ED ν R (gB e p) (fp p) b
 | .slice _ tag _,i,S,h,b,ao=>by
  cases tag<;>(simp only[e0]at h;cases i<;>simp at h;subst h);all_goals first|exact ao.elim|skip
  ·rcases ao with ao|ao
   ·exact .inl ⟨_,by simp[fp],ao⟩
   ·exact .inr (by simpa only[gB]using ao)
  ·exact .inr ⟨⟨_,_,by simp[gB],ao.1⟩,ao.2⟩
 | .row _ k _,i,S,h,b,ao=>by
  simp only[e0]at h;cases i<;>simp at h;subst h;rcases ao with ao|ao
  ·exact .inl ⟨k,by simp[fp],ao⟩
  ·exact .inr (by simpa only[gB]using ao)
 | .agg cs,i,S,h,b,ao=>by simp only[e0,gB,fp]at h⊢;exact DA cs i S h b ao
 | .tuple cs,i,S,h,b,ao=>by simp only[e0,gB,fp]at h⊢;exact DA cs i S h b ao
 | .int _ _,_,_,h,_,_=>by simp[e0]at h
 | .bool _,_,_,h,_,_=>by simp[e0]at h
 | .str _,_,_,h,_,_=>by simp[e0]at h
 | .junk,_,_,h,_,_=>by simp[e0]at h
 | .ptr _ _,_,_,h,_,_=>by simp[e0]at h
 | .eptr _,_,_,h,_,_=>by simp[e0]at h
 | .iface _ _,_,_,h,_,_=>by simp[e0]at h
 | .nilp,_,_,h,_,_=>by simp[e0]at h
 | .func _ _,_,_,h,_,_=>by simp[e0]at h
 | .gmap _,_,_,h,_,_=>by simp[e0]at h
 | .rptr _ _ _ _ _,_,_,h,_,_=>by simp[e0]at h
 | .hdm _ _,_,_,h,_,_=>by simp[e0]at h
 | .hdi _ _ _,_,_,h,_,_=>by simp[e0]at h
 | .cst _,_,_,h,_,_=>by simp[e0]at h
theorem DA{ν:aW}{R:Nat->Prop}{e:List (aO×dU)}:∀(p:List al) (i:Nat) (S:Nat->Prop),(n3 ν R e p)[i]? =some S->∀b,S b->ED ν R (pv e p) (n2 p) b
 |[],i,S,h,b,ao=>by simp[n3]at h
 |x::xs,i,S,h,b,ao=>by
  simp only[n3]at h;simp only[pv,n2];by_cases aE:i<(e0 ν R e x).length
  ·rw[rE aE]at h;rcases GW x i S h b ao with⟨k,I,J⟩|⟨I,J⟩
   ·exact .inl ⟨k,rF _ I,J⟩
   ·exact .inr ⟨Ae (fun _ h=>rF _ h) b I,J⟩
  ·rw[List.getElem?_append_right Ω]at h;rcases DA xs _ S h b ao with⟨k,I,J⟩|⟨I,J⟩
   ·exact .inl ⟨k,List.mem_append_right _ I,J⟩
   ·exact .inr ⟨Ae (fun _ h=>List.mem_append_right _ h) b I,J⟩
end
structure AX (ν:aW) (R:Nat->Prop) (rw:List aO):Prop where
 trd:∀k j bz fb b,ν.tr k j b->ν.tr bz fb b->k=bz/\j=fb
 inj:∀k bz b,k∈rw->bz∈rw->mL ν k b->mL ν bz b->k=bz
 R:∀k b,k∈rw->mL ν k b->R b
theorem P2{ν:aW}{R:Nat->Prop}{rw:List aO}(he:AX ν R rw){hn fS:List (aO×Nat)}{eU e3:List aO}(aJ:(hn++fS).Nodup)(hr:(eU++e3).Nodup)(I:∀k∈eU,k∈rw)(J:∀k∈e3,k∈rw)(b:Nat)(ao:ED ν R hn eU b):¬ED ν R fS e3 b:=by
 rintro hL;rcases ao with⟨k,cE,dj⟩|⟨cE,dj⟩<;>rcases hL with⟨bz,lI,du⟩|⟨lI,du⟩
 ·have:=he.inj k bz b (I k cE) (J bz lI) dj du;subst this;exact(rG.1 hr).2.2 _ cE _ lI rfl
 ·exact du (he.R k b (I k cE) dj)
 ·exact dj (he.R bz b (J bz lI) du)
 ·exact Ks he.trd aJ b cE lI
mutual
theorem U7{ν:aW}{R:Nat->Prop}{rw:List aO}(he:AX ν R rw){e:List (aO×dU)}:∀(p:al),(gB e p).Nodup->(fp p).Nodup->(∀k∈fp p,k∈rw)->∀(i k9:Nat) (S lp:Nat->Prop),(e0 ν R e p)[i]? =some S->(e0 ν R e p)[k9]? =some lp->∀b,S b->lp b->i=k9
 | .slice sz tag xs,_,_,_,i,k9,S,lp,h,cx,b,_,_=>by have aG:(e0 ν R e (.slice sz tag xs)).length=1:=yK ν R e _;have:=(eV.1 h).1;have:=(eV.1 cx).1;omega
 | .row sz k n,_,_,_,i,k9,S,lp,h,cx,b,_,_=>by have aG:(e0 ν R e (.row sz k n)).length=1:=yK ν R e _;have:=(eV.1 h).1;have:=(eV.1 cx).1;omega
 | .agg cs,aJ,hr,aa,i,k9,S,lp,h,cx,b,ao,hL=>by simp only[e0,gB,fp]at h cx aJ hr aa;exact LL he cs aJ hr aa i k9 S lp h cx b ao hL
 | .tuple cs,aJ,hr,aa,i,k9,S,lp,h,cx,b,ao,hL=>by simp only[e0,gB,fp]at h cx aJ hr aa;exact LL he cs aJ hr aa i k9 S lp h cx b ao hL
 | .int _ _,_,_,_,_,_,_,_,h,_,_,_,_=>by simp[e0]at h
 | .bool _,_,_,_,_,_,_,_,h,_,_,_,_=>by simp[e0]at h
 | .str _,_,_,_,_,_,_,_,h,_,_,_,_=>by simp[e0]at h
 | .junk,_,_,_,_,_,_,_,h,_,_,_,_=>by simp[e0]at h
 | .ptr _ _,_,_,_,_,_,_,_,h,_,_,_,_=>by simp[e0]at h
 | .eptr _,_,_,_,_,_,_,_,h,_,_,_,_=>by simp[e0]at h
 | .iface _ _,_,_,_,_,_,_,_,h,_,_,_,_=>by simp[e0]at h
 | .nilp,_,_,_,_,_,_,_,h,_,_,_,_=>by simp[e0]at h
 | .func _ _,_,_,_,_,_,_,_,h,_,_,_,_=>by simp[e0]at h
 | .gmap _,_,_,_,_,_,_,_,h,_,_,_,_=>by simp[e0]at h
 | .rptr _ _ _ _ _,_,_,_,_,_,_,_,h,_,_,_,_=>by simp[e0]at h
 | .hdm _ _,_,_,_,_,_,_,_,h,_,_,_,_=>by simp[e0]at h
 | .hdi _ _ _,_,_,_,_,_,_,_,h,_,_,_,_=>by simp[e0]at h
 | .cst _,_,_,_,_,_,_,_,h,_,_,_,_=>by simp[e0]at h
theorem LL{ν:aW}{R:Nat->Prop}{rw:List aO}(he:AX ν R rw){e:List (aO×dU)}:∀(p:List al),(pv e p).Nodup->(n2 p).Nodup->(∀k∈n2 p,k∈rw)->∀(i k9:Nat) (S lp:Nat->Prop),(n3 ν R e p)[i]? =some S->(n3 ν R e p)[k9]? =some lp->∀b,S b->lp b->i=k9
 |[],_,_,_,i,k9,S,lp,h,_,_,_,_=>by simp[n3]at h
 |x::xs,aJ,hr,aa,i,k9,S,lp,h,cx,b,ao,hL=>by
  simp only[n3]at h cx;simp only[pv]at aJ;simp only[n2]at hr aa;have cE:∀k∈fp x,k∈rw:=fun k bX=>aa k (rF _ bX);have dj:∀k∈n2 xs,k∈rw:=fun k bX=>aa k (List.mem_append_right _ bX);by_cases aE:i<(e0 ν R e x).length<;>by_cases xW:k9<(e0 ν R e x).length
  ·rw[rE aE]at h;rw[rE xW]at cx;exact U7 he x (rG.1 aJ).1 (rG.1 hr).1 cE i k9 S lp h cx b ao hL
  ·rw[rE aE]at h;rw[List.getElem?_append_right Ω]at cx;exact absurd (DA xs _ lp cx b hL) (P2 he aJ hr cE dj b (GW x i S h b ao))
  ·rw[List.getElem?_append_right Ω]at h;rw[rE xW]at cx;exact absurd (DA xs _ S h b ao) (P2 he aJ hr cE dj b (GW x k9 lp cx b hL))
  ·rw[List.getElem?_append_right Ω]at h cx;have:=LL he xs (rG.1 aJ).2.1 (rG.1 hr).2.1 dj _ _ S lp h cx b ao hL;omega
end
end
section
open Go Go.RowKit
theorem L8{w:World}{μ:aW}{k:aO}{j sz:Nat}{tag:y0}{ys:List al}{v:Value}(h:dE true w μ.A (μ.tr k j) (.slice sz tag ys) v)(bB:ca ys=ys):aT w μ (.slice sz (.tr k j) ys) v:=by have I:=ID (ν:=μ) (fun _ _ h=>h) _ _ _ h;simp only[cm,bB]at I;simp only[aT]at I⊢;refine⟨I.1,fun e=>(by cases e),fun _ e=>(by cases e),fun bz fb e=>?_,fun _ e=>(by cases e)⟩;cases e;simp only[dE]at h⊢;exact h
section
variable {pr:Nat->Prop} {w:World} {ν μ:aW} {B:List (aO×List al)} {e:List (aO×dU)} {R:Nat->Prop} {rw:List aO} {κ:Nat}
 (aR:Good pr w ν B e) (he:AX ν R rw) (bH:∀b,R b->∀k j,¬ν.tr k j b) (BW:∀b o,ν.A b o->μ.A b o) (Qy:∀k∈rw,∀own,look k e=some own->∀b,mL ν k b->∀o,o<own.n*own.sz->μ.A b o)
include aR he bH BW Qy
mutual
theorem IC:∀(p:al) (v:Value) (j:Nat),aT w ν p v->iG e p->(gB e p).Nodup->(∀k∈fp p,k∈rw)->(∀i S,(e0 ν R e p)[i]? =some S->∀b,S b->μ.tr (.loc κ) (j+i) b)->aT w μ (fold κ e j p) v
 | .int k n,v,_,h,_,_,_,_=>by simpa only[aT,fold]using h
 | .bool b,v,_,h,_,_,_,_=>by simpa only[aT,fold]using h
 | .str s,v,_,h,_,_,_,_=>by simpa only[aT,fold]using h
 | .slice sz tag xs,v,j,h,az,aJ,aa,au=>by
  simp only[aT]at h;obtain⟨⟨a,cap,I,J,aA,aS⟩,_,dW,fZ,_⟩:=h;simp only[fold];refine L8 (tag:= .no) ?_ (wZ xs);by_cases aI:∃k i,tag= .tr k i
  ·obtain⟨k,i,rfl⟩:=aI;have aY:=IE .no v (fZ k i rfl);refine xJ (fun b o h=>⟨BW b o h,rfl⟩) (fun _ _ _=>rfl) _ _ _ v (fun b ao=>?_) aY;simpa using au 0 (fun b=>ν.tr k i b/\¬R b) (by simp[e0]) b ⟨ao,fun hr=>bH b hr _ _ ao⟩
  by_cases Cv:∃k,tag= .own k
  ·obtain⟨k,rfl⟩:=Cv;simp only[iG]at az;obtain⟨_,⟨el,aG⟩,nQ,ef⟩:=az;obtain⟨n',u,g1,g2,g3⟩:=dW k rfl;obtain⟨v0,eT,cz,db,eo,dC⟩:=aR.own k _ aG;simp only at cz db eo;rw[g1]at cz;simp only[dH,gz]at cz;obtain⟨rfl,rfl⟩:=cz;have JQ:=g3 rfl;subst JQ;have Fb:k∈rw:=aa k (by simp[fp]);simp only[dE];refine⟨a,cap,by rw[mM];exact I,by rw[mM];exact J,by rw[mM];exact aA,?_⟩;rcases aS with rfl|⟨b,off,us,aB,dN,hx⟩
   ·exact .inl rfl
   by_cases q7:xs=[]
   ·left;rw[q7];rfl
   right;subst aB;rcases db.2 with⟨aB,_⟩|⟨g,xv,cur,f1,f2,f3,f4,f5,f6,f7⟩
   ·rw[aB]at I;cases I
   have h6:v.ownBlock=some g:=by rw[f1];rfl
   have zQ:mL ν k g:=⟨_,_,g1,h6⟩;have zA:∀b,(mL ν k b\/(lK ν (kB xs) b/\¬R b))->μ.tr (.loc κ) j b:=fun b ao=>by simpa using au 0 (fun b=>mL ν k b\/(lK ν (kB xs) b/\¬R b)) (by simp[e0]) b ao
   rw[f1]at I;simp only[amR,dH,Addr.mk.injEq]at I;obtain⟨⟨rfl,rfl,_⟩,_,rfl⟩:=I;have hlen:=ri hx;refine⟨g,0,us,fun c=>lK ν (kB xs) c/\¬R c,rfl,zA g (.inl zQ),fun c aH=>⟨zA c (.inr aH),fun _ Ij=>aH.2 (by rw[Ij];exact he.R k g Fb zQ)⟩,wC (fun b o h=>⟨BW b o h,rfl⟩) _ _ dN,fun _=>⟨rfl,?_,el,?_⟩,?_⟩
   ·rw[hlen];exact Nat.mul_pos (sY.2 q7) ef
   ·simp only[shape,f3,f6]
   ·have I:=KK he.trd xs us hx nQ (by simpa only[gB]using aJ);exact EE (fun b o h=>⟨BW b o h,rfl⟩) (fun _ _ _=>rfl) _ _ _ us (fun b ao=>⟨ao,fun hr=>by obtain⟨bz,k9,_,aI⟩:=ao;exact bH b hr _ _ aI⟩) I
  ·have ad:xs=[]:=by
    simp only[iG]at az;split at az
    ·exact absurd ⟨_,_,rfl⟩ aI
    ·exact absurd ⟨_,rfl⟩ Cv
    ·exact az
   subst ad;simp only[ca,dE];exact⟨a,cap,I,J,aA,.inl trivial⟩
 | .row sz k n,v,j,h,az,aJ,aa,au=>by
  simp only[iG]at az;obtain⟨⟨m,hm⟩,⟨xs,el,aG,nQ⟩,ef⟩:=az;have eR:vv e k=xs:=by simp[vv,aG]
  simp only[aT]at h;obtain⟨⟨Nd,c0,Fv⟩,gg,n',u,g1,g2,g3⟩:=h;obtain⟨v0,us,cz,db,eo,dC⟩:=aR.own k _ aG;simp only at cz db eo;rw[g1]at cz;simp only[dH,gz]at cz;obtain⟨rfl,rfl⟩:=cz;have JQ:=g3 rfl;subst JQ;obtain⟨dc,lL,sB⟩:=dC xs rfl;simp only at dc lL;have Fb:k∈rw:=aa k (by simp[fp]);rcases db.2 with⟨aB,_⟩|⟨g,cap,cur,f1,f2,f3,f4,f5,f6,f7⟩
  ·rw[aB]at Fv;cases Fv
  have h6:v.ownBlock=some g:=by rw[f1];rfl
  have zQ:mL ν k g:=⟨_,_,g1,h6⟩;have zA:∀b,(mL ν k b\/(lK ν (kB (vv e k)) b/\¬R b))->μ.tr (.loc κ) j b:=fun b ao=>by simpa using au 0 (fun b=>mL ν k b\/(lK ν (kB (vv e k)) b/\¬R b)) (by simp[e0]) b ao
  rw[eR]at zA;simp only[fold,eR];refine L8 (tag:= .no) ?_ (wZ xs);simp only[dE];refine⟨some ⟨g,0,none⟩,cap,by rw[mM,dc];exact f1,by rw[mM,dc];exact f4,⟨f5,by rw[mM,dc];exact gg⟩,?_⟩;by_cases q7:xs=[]
  ·left;rw[q7];rfl
  ·right;have hlen:=ri lL;refine⟨g,0,us,fun c=>lK ν (kB xs) c/\¬R c,rfl,zA g (.inl zQ),fun c aH=>⟨zA c (.inr aH),fun _ Ij=>aH.2 (by rw[Ij];exact he.R k g Fb zQ)⟩,yk us 0 fun i u aE=>?_,fun _=>⟨rfl,?_,el,?_⟩,?_⟩
   ·have h2:i<us.length:=(eV.1 aE).1;refine⟨Qy k Fb _ aG g zQ _ (by simp only;rw[db.1]at h2;omega),?_⟩;have:=db.cells h6 i u aE;rwa[oh]at this
   ·rw[hlen];exact Nat.mul_pos (sY.2 q7) ef
   ·simp only[shape,f3,f6]
   ·have I:=KK he.trd xs us lL nQ (by simpa only[gB,eR]using aJ);exact EE (fun b o h=>⟨BW b o h,rfl⟩) (fun _ _ _=>rfl) _ _ _ us (fun b ao=>⟨ao,fun hr=>by obtain⟨bz,k9,_,aI⟩:=ao;exact bH b hr _ _ aI⟩) I
 | .agg cs,v,j,h,az,aJ,aa,au=>by simp only[aT,iG,gB,fp,e0,fold]at h az aJ aa au⊢;obtain⟨us,I,J⟩:=h;exact⟨us,I,PY cs _ j J az aJ aa au⟩
 | .tuple cs,v,j,h,az,aJ,aa,au=>by simp only[aT,iG,gB,fp,e0,fold]at h az aJ aa au⊢;obtain⟨us,I,J⟩:=h;exact⟨us,I,PZ cs _ j J az aJ aa au⟩
 | .junk,_,_,_,az,_,_,_=>by simp[iG]at az
 | .ptr _ _,_,_,_,az,_,_,_=>by simp[iG]at az
 | .eptr _,_,_,_,az,_,_,_=>by simp[iG]at az
 | .iface _ _,_,_,_,az,_,_,_=>by simp[iG]at az
 | .nilp,_,_,_,az,_,_,_=>by simp[iG]at az
 | .func _ _,_,_,_,az,_,_,_=>by simp[iG]at az
 | .gmap _,_,_,_,az,_,_,_=>by simp[iG]at az
 | .rptr _ _ _ _ _,_,_,_,az,_,_,_=>by simp[iG]at az
 | .hdm _ _,_,_,_,az,_,_,_=>by simp[iG]at az
 | .hdi _ _ _,_,_,_,az,_,_,_=>by simp[iG]at az
 | .cst _,_,_,_,az,_,_,_=>by simp[iG]at az
theorem PY:∀(cs:List al) (us:List Value) (j:Nat),cK w ν cs us->sx e cs->(pv e cs).Nodup->(∀k∈n2 cs,k∈rw)->(∀i S,(n3 ν R e cs)[i]? =some S->∀b,S b->μ.tr (.loc κ) (j+i) b)->cK w μ (uG κ e j cs) us
 |[],us,j,h,_,_,_,_=>by simpa only[cK,uG]using h
 |c::cs,us,j,h,az,aJ,aa,au=>by
  simp only[cK,sx,pv,n2,n3,uG]at h az aJ aa au⊢;obtain⟨u,bI,I,⟨J,aA⟩,aS⟩:=h;have gS:=rG.1 aJ;refine⟨u,bI,I,⟨IC c u j J az.1 gS.1 (fun k bX=>aa k (rF _ bX)) (fun i S aE b ao=>au i S (by rw[rE (eV.1 aE).1];exact aE) b ao),aA⟩,
   PY cs bI _ aS az.2 gS.2.1 (fun k bX=>aa k (List.mem_append_right _ bX)) (fun i S aE b ao=>?_)⟩
  have:=au (uB c+i) S (by rw[List.getElem?_append_right (by rw[yK];omega),yK];simpa using aE) b ao;rwa[<-Nat.add_assoc]at this
theorem PZ:∀(cs:List al) (us:List Value) (j:Nat),cw w ν cs us->sx e cs->(pv e cs).Nodup->(∀k∈n2 cs,k∈rw)->(∀i S,(n3 ν R e cs)[i]? =some S->∀b,S b->μ.tr (.loc κ) (j+i) b)->cw w μ (uG κ e j cs) us
 |[],us,j,h,_,_,_,_=>by simpa only[cw,uG]using h
 |c::cs,us,j,h,az,aJ,aa,au=>by
  simp only[cw,sx,pv,n2,n3,uG]at h az aJ aa au⊢;obtain⟨u,bI,I,J,aS⟩:=h;have gS:=rG.1 aJ;refine⟨u,bI,I,IC c u j J az.1 gS.1 (fun k bX=>aa k (rF _ bX)) (fun i S aE b ao=>au i S (by rw[rE (eV.1 aE).1];exact aE) b ao),
   PZ cs bI _ aS az.2 gS.2.1 (fun k bX=>aa k (List.mem_append_right _ bX)) (fun i S aE b ao=>?_)⟩
  have:=au (uB c+i) S (by rw[List.getElem?_append_right (by rw[yK];omega),yK];simpa using aE) b ao;rwa[<-Nat.add_assoc]at this
end
end
end
section
open Go Go.RowKit
mutual
theorem aeY:∀p:al,lf p->∀x∈jh p,x.1≠tZ
 | .slice _ tag xs,az,x,ad=>by cases tag<;>simp only[jh,lf]at az ad<;>simp at ad;subst ad;exact az
 | .agg cs,az,x,ad=>by simp only[jh,lf]at az ad;exact Gb cs az x ad
 | .int _ _,_,_,ad=>by simp[jh]at ad
 | .bool _,_,_,ad=>by simp[jh]at ad
 | .str _,_,_,ad=>by simp[jh]at ad
 | .junk,_,_,ad=>by simp[jh]at ad
 | .ptr _ _,_,_,ad=>by simp[jh]at ad
 | .eptr _,_,_,ad=>by simp[jh]at ad
 | .iface _ _,_,_,ad=>by simp[jh]at ad
 | .nilp,_,_,ad=>by simp[jh]at ad
 | .tuple _,_,_,ad=>by simp[jh]at ad
 | .func _ _,_,_,ad=>by simp[jh]at ad
 | .gmap _,_,_,ad=>by simp[jh]at ad
 | .row _ _ _,_,_,ad=>by simp[jh]at ad
 | .rptr _ _ _ _ _,_,_,ad=>by simp[jh]at ad
 | .hdm _ _,_,_,ad=>by simp[jh]at ad
 | .hdi _ _ _,_,_,ad=>by simp[jh]at ad
 | .cst _,_,_,ad=>by simp[jh]at ad
theorem Gb:∀p:List al,tR p->∀x∈kB p,x.1≠tZ
 |[],_,x,ad=>by simp[kB]at ad
 |c::cs,az,x,ad=>by
  simp only[kB,tR,fM]at az ad;rcases ad with ad|ad
  ·exact aeY c az.1 x ad
  ·exact Gb cs az.2 x ad
end
mutual
theorem S6{e:List (aO×dU)}:∀p:al,iG e p->∀x∈gB e p,x.1≠tZ
 | .slice _ tag xs,az,x,ad=>by
  cases tag with
  |own k=>simp only[gB,iG]at az ad;exact Gb xs az.2.2.1 x ad
  |tr k i=>simp only[gB,iG]at az ad;simp at ad;subst ad;exact az
  |no=>simp[gB]at ad
  |nil=>simp[gB]at ad
  |lo k=>simp[gB]at ad
 | .row _ k _,az,x,ad=>by simp only[gB,iG]at az ad;obtain⟨_,⟨xs,el,aG,nQ⟩,_⟩:=az;rw[show vv e k=xs from by simp[vv,aG]]at ad;exact Gb xs nQ x ad
 | .agg cs,az,x,ad=>by simp only[gB,iG]at az ad;exact KH cs az x ad
 | .tuple cs,az,x,ad=>by simp only[gB,iG]at az ad;exact KH cs az x ad
 | .int _ _,_,_,ad=>by simp[gB]at ad
 | .bool _,_,_,ad=>by simp[gB]at ad
 | .str _,_,_,ad=>by simp[gB]at ad
 | .junk,_,_,ad=>by simp[gB]at ad
 | .ptr _ _,_,_,ad=>by simp[gB]at ad
 | .eptr _,_,_,ad=>by simp[gB]at ad
 | .iface _ _,_,_,ad=>by simp[gB]at ad
 | .nilp,_,_,ad=>by simp[gB]at ad
 | .func _ _,_,_,ad=>by simp[gB]at ad
 | .gmap _,_,_,ad=>by simp[gB]at ad
 | .rptr _ _ _ _ _,_,_,ad=>by simp[gB]at ad
 | .hdm _ _,_,_,ad=>by simp[gB]at ad
 | .hdi _ _ _,_,_,ad=>by simp[gB]at ad
 | .cst _,_,_,ad=>by simp[gB]at ad
theorem KH{e:List (aO×dU)}:∀p:List al,sx e p->∀x∈pv e p,x.1≠tZ
 |[],_,x,ad=>by simp[pv]at ad
 |c::cs,az,x,ad=>by
  simp only[pv,sx,fM]at az ad;rcases ad with ad|ad
  ·exact S6 c az.1 x ad
  ·exact KH cs az.2 x ad
end
mutual
theorem S7{e:List (aO×dU)}:∀p:al,iG e p->∀k∈fp p,∃own,look k e=some own
 | .row sz k n,az,bz,aa=>by simp only[fp,iG]at az aa;obtain⟨_,⟨xs,el,aG,nQ⟩,_⟩:=az;simp at aa;subst aa;exact⟨_,aG⟩
 | .agg cs,az,x,ad=>by simp only[fp,iG]at az ad;exact KI cs az x ad
 | .tuple cs,az,x,ad=>by simp only[fp,iG]at az ad;exact KI cs az x ad
 | .slice sz tag xs,az,bz,aa=>by
  cases tag with
  |own k=>simp only[fp,iG]at az aa;obtain⟨_,⟨el,aG⟩,_⟩:=az;simp at aa;subst aa;exact⟨_,aG⟩
  |tr k i=>simp[fp]at aa
  |no=>simp[fp]at aa
  |nil=>simp[fp]at aa
  |lo k=>simp[fp]at aa
 | .int _ _,_,_,ad=>by simp[fp]at ad
 | .bool _,_,_,ad=>by simp[fp]at ad
 | .str _,_,_,ad=>by simp[fp]at ad
 | .junk,_,_,ad=>by simp[fp]at ad
 | .ptr _ _,_,_,ad=>by simp[fp]at ad
 | .eptr _,_,_,ad=>by simp[fp]at ad
 | .iface _ _,_,_,ad=>by simp[fp]at ad
 | .nilp,_,_,ad=>by simp[fp]at ad
 | .func _ _,_,_,ad=>by simp[fp]at ad
 | .gmap _,_,_,ad=>by simp[fp]at ad
 | .rptr _ _ _ _ _,_,_,ad=>by simp[fp]at ad
 | .hdm _ _,_,_,ad=>by simp[fp]at ad
 | .hdi _ _ _,_,_,ad=>by simp[fp]at ad
 | .cst _,_,_,ad=>by simp[fp]at ad
theorem KI{e:List (aO×dU)}:∀p:List al,sx e p->∀k∈n2 p,∃own,look k e=some own
 |[],_,x,ad=>by simp[n2]at ad
 |c::cs,az,x,ad=>by
  simp only[n2,sx,fM]at az ad;rcases ad with ad|ad
  ·exact S7 c az.1 x ad
  ·exact KI cs az.2 x ad
end
end
end Go.Pv
