/- Contracts of functions that hand back memory of their own, II. -/
import Derived.Test.YtlnndmgfngfeiaaGreatDoorZ2
set_option linter.all false
set_option maxHeartbeats 4000000
set_option maxRecDepth 4000
open Bool renaming and_eq_true->bB,false_eq_true->iR
open Go renaming Program->bW,TypeId->gx
open Go.Region renaming wanted->oF
open Go.Result renaming andThen_ok->e8
open Go.Sem renaming run_bind->e2,run_pure->fC
open Go.Value.slice renaming injEq->alg
open List renaming all_eq_true->gC,cons_append->iT,eq_nil_of_length_eq_zero->l3,getElem?_append_left->mF,getElem?_append_right->rb,getElem?_eq_some_iff->cX,length_cons->e3,length_nil->nj,length_pos_iff->re,map_cons->eQ,mem_append->iG,mem_append_left->rf,mem_cons->gH,mem_map->pv,nodup_append->ss
open Nat renaming le_refl->da,zero_add->nk
open Option renaming getD_some->rh,isSome_iff_exists->fv,map_some->su
open Option.some renaming inj->dZ,injEq->dL
open Prod.mk renaming injEq->gp
open _root_ renaming False->dK,Option->be,beq_iff_eq->dO,decide_eq_true_eq->ef,if_neg->bf,if_pos->bN
namespace Go.Pv
section
open Go Go.RowKit
inductive dH where
 |s (i:dG)
 |call (d:be Nat) (f:cS) (xs:List cS)
 |next (d:Nat) (x:cS)
 |opn (d:be Nat) (f:cS) (xs:List cS)
structure cL where
 g:be (Nat×Bool)
 i:dH
def dG.dst:dG->be Nat
 | .v d _| .box d _ _| .alloc d _ _| .bsl d _ _ _| .app d _ _ _ _| .bslm d _ _ _ _| .appm d _ _ _ _ _| .mkmap d _| .range d _ _| .mks d _ _ _ _ _| .apps d _ _ _=>some d
 | .store _ _ _| .mput _ _ _ _| .storeE _ _ _=>none
def dH.dst:dH->be Nat
 | .s i=>i.dst
 | .call d _ _=>d
 | .next d _=>some d
 | .opn d _ _=>d
def bI(P:bW)(n:Nat)(args:List ag)(st:bb)(d:be Nat)(K:bb->Prop):Prop:=
 (∃s Q,oA (ah s) s.b st.b/\oB (ah s) s.e st.e/\js s/\ai (ah s) args/\bT P n args s Q/\
  ∀r aC,Q r aC->((∀m,(look (.obj m) aC.b).isSome->(look (.obj m) s.b).isSome\/ .obj m∉st.o)/\(∀m,(look (.obj m) aC.e).isSome->(look (.obj m) s.e).isSome\/ .obj m∉st.o))/\K (after st s aC d r))\/
 (∃s Q,oA (ah s) s.b st.b/\oB (ah s) s.e st.e/\js s/\ai (ah s) args/\ .loc st.n∉st.o/\GK P n st.n args s Q/\
  ∀r aC,Q r aC->((∀m,(look (.obj m) aC.b).isSome->(look (.obj m) s.b).isSome\/ .obj m∉st.o)/\(∀m,(look (.obj m) aC.e).isSome->(look (.obj m) s.e).isSome\/ .obj m∉st.o))/\K {after st s aC d r with n:=st.n+1})
def RM(st:bb)(d:Nat)(gT mk:aJ)(since:Nat)(seen:List Nat)(last clock:Nat)(borns:List Nat)(kvs:List ag)(K:bb->Prop):Prop:=
 (since=clock/\last=clock)/\((∀b∈borns,b∈seen)->K {st with t:=put d (.tuple [.bool false]) st.t})/\
 (∀b k v,om b borns kvs=some (.tuple [k,v])->b∉seen->K {st with t:=put d (.tuple [.bool true,k,v]) st.t,b:=cR gT [.hdi since (seen++[b]) last,.gmap mk] st.b})
def xe(st:bb)(d:Nat)(v:ag)(K:bb->Prop):Prop:=
 match v with
 | .ptr gT 0=>match look gT st.b with
  |some [.hdi since seen last,.gmap mk]=>match look mk st.b with
   |some (.hdm clock borns::kvs)=>RM st d gT mk since seen last clock borns kvs K
   |_=>dK
  |_=>dK
 |_=>dK
def AI(P:bW)(ob:List aJ)(n:Nat)(args:List ag)(st:bb)(d:be Nat)(K:bb->Prop):Prop:=
 ∀(C:eH) (a:Act) (w:World) (ν:aT) (vs:Array Value),C.ob=ob->ct C st a w ν->cD w ν args vs.toList->hE C.N d=true->
  va P n vs w fun e w'=> ∃v st' ν',e= .returned v/\K st'/\ct C st' (a.put d v) w' ν'
def rB(P:bW)(ob:List aJ)(st:bb)(K:bb->Prop):dH->Prop
 | .next d x=>xe st d (bL st.t x) K
 | .s i=>match lu st i with
  |some (c,st')=>c/\K st'
  |none=>dK
 | .call d f xs=>match bL st.t f with
  | .func n dI=>bI P n (cO (xs.map (bL st.t)++dI)) st d K
  |_=>dK
 | .opn d f xs=>match bL st.t f with
  | .func n dI=>AI P ob n (xs.map (bL st.t)++dI) st d K
  |_=>dK
def ho(P:bW)(ob:List aJ):List cL->bb->(bb->Prop)->Prop
 |[],st,K=>K st
 |⟨none,i⟩::r,st,K=>rB P ob st (fun st'=>ho P ob r st' K) i
 |⟨some (s,want),i⟩::r,st,K=>match get s st.t with
  | .bool b=>(b=want->rB P ob {st with t:=put s (.bool want) st.t} (fun st'=>ho P ob r st' K) i)/\(b= !want->ho P ob r {st with t:=e6 i.dst (.tuple []) (put s (.bool !want) st.t)} K)
  | .tuple []=>ho P ob r {st with t:=e6 i.dst (.tuple []) st.t} K
  |_=>dK
def tn(N:Nat)(bs:List (Nat×du))(i:dH)(o:Oper):Bool:=
 match i with
 | .s i=>q0 N bs i o
 | .next d x=>match o.op with
  | .next it false=>o.dst==some d&&decide (d<N)&&dS x it
  |_=>false
 | .call d f xs=>match o.op with
  | .call ⟨.value mK,args,_⟩=>o.dst==d&&hE N d&&dS f mK&&wo xs args.toList
  |_=>false
 | .opn d f xs=>match o.op with
  | .call ⟨.value mK,args,_⟩=>o.dst==d&&hE N d&&dS f mK&&wo xs args.toList
  |_=>false
def Bk(N:Nat)(bs:List (Nat×du))(ops:List Oper)(g:cL)(o:Oper):Bool:=
 (match g.g,o.guard with
  |none,none=>true
  |some (s,b),some (j,fy)=>b==fy&&((ops[j]?).bind (·.dst))==some s&&decide (s<N)&&o.dst==g.i.dst&&hE N g.i.dst
  |_,_=>false)&&tn N bs g.i o
def j3(N:Nat)(bs:List (Nat×du))(ops:List Oper):List cL->List Oper->Bool
 |[],[]=>true
 |g::gs,o::os=>Bk N bs ops g o&&j3 N bs ops gs os
 |_,_=>false
theorem KW{w:World}{ν:aT}:∀{bY bM:List ag} {vs us:List Value},cD w ν bY vs->cD w ν bM us->cD w ν (bY++bM) (vs++us)
 |[],bM,vs,us,h,cr=>by simp only[cD]at h;subst h;simpa using cr
 |p::bY,bM,vs,us,h,cr=>by simp only[cD]at h;obtain⟨u,bF,rfl,I,J⟩:=h;simp only[iT,cD];exact⟨u,_,rfl,I,KW J cr⟩
theorem va.mono{P:bW}{f:FuncId}{vs:Array Value}{w:World}{R GL:Ending->World->Prop}(h:va P f vs w R)(bh:∀e w',R e w'->GL e w'):va P f vs w GL:=by
 rcases h with⟨I,J⟩|⟨v,w',I,J⟩
 ·exact .inl ⟨I,J.mono bh⟩
 ·exact .inr ⟨v,w',I,bh _ _ J⟩
theorem ND{P:bW}{C:eH}{st:bb}{a:Act}{w:World}{ν:aT}(hr:ct C st a w ν){o:Oper}{mK:Operand}{args:Array Operand}{ts:Array gx}(jU:o.op= .call ⟨.value mK,args,ts⟩){d:be Nat}(a7:o.dst=d)(uf:hE C.N d=true)
  {n:Nat} {dI:List ag} (aM:aR w ν (.func n dI) (a.eval mK)) {bY:List ag} (n5:cD w ν bY (args.toList.map a.eval)) {K:bb->Prop}
  (aD:∃(s:dM) (vd:ag->dM->Prop) (κ:be Nat) (n':Nat) (o':dM->List aJ),oA (ah s) s.b st.b/\oB (ah s) s.e st.e/\js s/\ai (ah s) (cO (bY++dI))/\(∀(w:World) (ν:aT) (vs:Array Value) (gl:nQ w ν),Good (gE ν s) w ν s.b s.e->sN ν s->cD w ν (cO (bY++dI)) vs.toList->
   va P n vs w fun e w'=> ∃v r aC ν',e= .returned v/\vd r aC/\aR w' ν' r v/\Good (fun bl=>gE ν s bl\/w.heap.size<=bl) w' ν' aC.b aC.e/\D3 κ ν' aC/\js aC/\sC ⟨w,ν,gE ν s,0,fY s,gl,[]⟩ w' ν')/\
   (∀m,κ=some m->fresh st.n st.o (.loc m))/\(∀k r aC,vd r aC->fresh n' (o' aC) k->fresh st.n (st.o++fY aC) k/\∀m,κ=some m->k≠ .loc m)/\
   ∀r aC,vd r aC->((∀m,(look (.obj m) aC.b).isSome->(look (.obj m) s.b).isSome\/ .obj m∉st.o)/\(∀m,(look (.obj m) aC.e).isSome->(look (.obj m) s.e).isSome\/ .obj m∉st.o))/\K {after st s aC d r with n:=n',o:=o' aC})
  {oI:Act->World->Prop} {Q:Exit->Act->World->Prop} (dk:∀st' cV w' ν',K st'->ct C st' cV w' ν'->oI cV w'):o.wp P a w oI Q:=by
 obtain⟨s,vd,κ,n',o',cJ,c2,c3,c4,c5,N9,N1,iI⟩:=aD;simp only[aR]at aM;obtain⟨us,aS,hu⟩:=aM;have lk:cD w (ν.cut (ah s)) (cO (bY++dI)) ((args.map a.eval)++us).toList:=by refine Ai (nS.cut _ w ν) _ _ c4 (Gk _ _ ?_);simpa using KW n5 hu
 have EJ:Good (gE (ν.cut (ah s)) s) w (ν.cut (ah s)) s.b s.e:=hr.good.cut cJ c2 (fun bl _ h=>h);have hex:sN (ν.cut (ah s)) s:=by
  intro k;refine⟨?_,?_,?_⟩;rotate_left 2
  ·rintro j b ⟨ao,af⟩;obtain⟨t1,t2⟩:=hr.fr.trn k j b af;rcases ao with ao|ao<;>obtain⟨x,ad⟩:=fv.1 ao
   ·obtain⟨bl,bF,el,aq,_⟩:=hr.good.box k x (cJ k x ad).1;rw[t1]at aq;cases aq
   ·obtain⟨v',bF,aq,_⟩:=hr.good.own k x (c2 k x ad).1;rw[t2]at aq;cases aq
  ·intro aE;by_cases ao:ah s k
   ·rw[aT.cut_bx ao];rcases ao with ao|ao
    ·rw[aE]at ao;cases ao
    ·obtain⟨x,ad⟩:=fv.1 ao;obtain⟨v',bF,aq,_⟩:=hr.good.own k x (c2 k x ad).1;rcases hr.good.one k with I|I
     ·exact I
     ·rw[I]at aq;cases aq
   ·exact(aT.cut_no ao).1
  ·intro aE;by_cases ao:ah s k
   ·rw[aT.cut_ow ao];rcases ao with ao|ao
    ·obtain⟨x,ad⟩:=fv.1 ao;obtain⟨bl,bF,el,aq,_⟩:=hr.good.box k x (cJ k x ad).1;rcases hr.good.one k with I|I
     ·rw[I]at aq;cases aq
     ·exact I
    ·rw[aE]at ao;cases ao
   ·exact(aT.cut_no ao).2.1
 rcases c5 w (ν.cut (ah s)) ((args.map a.eval)++us) (hr.fr.gl.cut _) EJ hex lk with⟨⟨fn,g1,g2,g3⟩,c5⟩|⟨v,w',c5,bq⟩
 ·obtain⟨code,Is⟩:=fv.1 g2;have hc:(execOp a.eval o).run P w= .ok (.enter n ((args.map a.eval)++us)) w:=by obtain⟨dst,op,ty,pos,AU,Eg⟩:=o;simp only at jU;subst jU;simp only[execOp,resolve,aS,Deferred.ofValue,e2,fC,e8,invoke,callFunc,run_program,g1,g3,Is];simp
  unfold Oper.wp;rw[hc];simp only[Oper.upon];refine c5.mono fun e w' bq=>?_;obtain⟨v,r,aC,ν',rfl,bG,b9,cx,dp,c6,cH⟩:=bq;obtain⟨⟨gV,fH⟩,aa⟩:=iI r aC bG;rw[a7];exact dk _ _ _ _ aa (hr.callK cJ c2 c3 cx dp (fun m hm=>hr.new _ (N9 m hm)) (n':=n') (o':=o' aC) (fun k aa=>N1 k r aC bG aa) c6 cH gV fH d uf b9)
 ·have hc:(execOp a.eval o).run P w= .ok (.value v) w':=by obtain⟨dst,op,ty,pos,AU,Eg⟩:=o;simp only at jU;subst jU;simp only[execOp,resolve,aS,Deferred.ofValue,e2,fC,e8,invoke];simpa using c5
  obtain⟨v2,r,aC,ν',Jm,bG,b9,cx,dp,c6,cH⟩:=bq;cases Jm;obtain⟨⟨gV,fH⟩,aa⟩:=iI r aC bG;refine kn hc ?_;rw[a7];exact dk _ _ _ _ aa (hr.callK cJ c2 c3 cx dp (fun m hm=>hr.new _ (N9 m hm)) (n':=n') (o':=o' aC) (fun k aa=>N1 k r aC bG aa) c6 cH gV fH d uf b9)
theorem ael{P:bW}{C:eH}{st:bb}{a:Act}{w:World}{ν:aT}(hr:ct C st a w ν){o:Oper}{mK:Operand}{args:Array Operand}{ts:Array gx}(jU:o.op= .call ⟨.value mK,args,ts⟩){d:be Nat}(a7:o.dst=d)(uf:hE C.N d=true)
  {n:Nat} {dI:List ag} (aM:aR w ν (.func n dI) (a.eval mK)) {bY:List ag} (n5:cD w ν bY (args.toList.map a.eval)) {K:bb->Prop} (aD:AI P C.ob n (bY++dI) st d K)
  {oI:Act->World->Prop} {Q:Exit->Act->World->Prop} (dk:∀st' cV w' ν',K st'->ct C st' cV w' ν'->oI cV w'):o.wp P a w oI Q:=by
 simp only[aR]at aM;obtain⟨us,aS,hu⟩:=aM;have lk:cD w ν (bY++dI) ((args.map a.eval)++us).toList:=by simpa using KW n5 hu
 rcases aD C a w ν _ rfl hr lk uf with⟨⟨fn,g1,g2,g3⟩,c5⟩|⟨v,w',c5,bq⟩
 ·obtain⟨code,Is⟩:=fv.1 g2;have hc:(execOp a.eval o).run P w= .ok (.enter n ((args.map a.eval)++us)) w:=by obtain⟨dst,op,ty,pos,AU,Eg⟩:=o;simp only at jU;subst jU;simp only[execOp,resolve,aS,Deferred.ofValue,e2,fC,e8,invoke,callFunc,run_program,g1,g3,Is];simp
  unfold Oper.wp;rw[hc];simp only[Oper.upon];refine c5.mono fun e w' bq=>?_;obtain⟨v,st',ν',rfl,aa,dv⟩:=bq;rw[a7];exact dk _ _ _ _ aa dv
 ·have hc:(execOp a.eval o).run P w= .ok (.value v) w':=by obtain⟨dst,op,ty,pos,AU,Eg⟩:=o;simp only at jU;subst jU;simp only[execOp,resolve,aS,Deferred.ofValue,e2,fC,e8,invoke];simpa using c5
  obtain⟨v2,st',ν',Jm,aa,dv⟩:=bq;cases Jm;refine kn hc ?_;rw[a7];exact dk _ _ _ _ aa dv
theorem NC{P:bW}{C:eH}{st:bb}{a:Act}{w:World}{ν:aT}(hr:ct C st a w ν){o:Oper}{mK:Operand}{args:Array Operand}{ts:Array gx}(jU:o.op= .call ⟨.value mK,args,ts⟩){d:be Nat}(a7:o.dst=d)(uf:hE C.N d=true)
  {n:Nat} {dI:List ag} (aM:aR w ν (.func n dI) (a.eval mK)) {bY:List ag} (n5:cD w ν bY (args.toList.map a.eval)) {K:bb->Prop} (aD:bI P n (cO (bY++dI)) st d K)
  {oI:Act->World->Prop} {Q:Exit->Act->World->Prop} (dk:∀st' cV w' ν',K st'->ct C st' cV w' ν'->oI cV w'):o.wp P a w oI Q:=by
 refine ND hr jU a7 uf aM n5 (K:=K) ?_ dk;rcases aD with⟨s,vd,cJ,c2,c3,c4,c5,iI⟩|⟨s,vd,cJ,c2,c3,c4,c0,c5,iI⟩
 ·refine⟨s,vd,none,st.n,fun aC=>st.o++fY aC,cJ,c2,c3,c4,fun w ν vs gl I J av=>(c5 w ν vs gl I J av).mono fun e w' bq=>?_,fun m hm=>(by cases hm),fun k _ aC _ aa=>⟨aa,fun m hm=>by cases hm⟩,iI⟩;obtain⟨v,r,aC,ν',g1,g2,g3,g4,g5,g6⟩:=bq;exact⟨v,r,aC,ν',g1,g2,g3,g4,g5.k,g6⟩
 ·refine⟨s,vd,some st.n,st.n+1,fun aC=>st.o++fY aC,cJ,c2,c3,c4,c5,fun m hm=>(by cases hm;exact⟨da _,c0⟩),fun k _ aC _ aa=>⟨xm (Nat.le_succ _) (fun _ h=>h) aa,fun m hm=>?_⟩,iI⟩;cases hm;rintro rfl;have:=aa.1;simp only at this;omega
theorem ct.drawn{C:eH}{st:bb}{a:Act}{w:World}{ν:aT}(hr:ct C st a w ν)(n:Nat):ct C st a {w with drawn:=n} ν:=by
 have nz:lA w ν {w with drawn:=n} ν:=⟨fun _ _ h=>⟨h,rfl⟩,fun _ _ _ h=>h,fun _ n u _ h=>⟨n,u,h,.inl ⟨rfl,rfl⟩⟩,fun _ _ _=>rfl,fun _ _ _ _ h=>h⟩;refine hr.over nz rfl ⟨hr.good.alt,fun k cs aa=>?_,hr.good.inj,fun g o aO=>?_,hr.good.oinj,hr.good.obx,hr.good.one,hr.good.otr⟩ ⟨hr.fr.os,hr.fr.tape,hr.fr.output,hr.fr.size,hr.fr.block,hr.fr.keep,hr.fr.fresh,hr.fr.obj,hr.fr.obn,hr.fr.row,hr.fr.obr,hr.fr.trd,hr.fr.trb,hr.fr.trn,hr.fr.sh,hr.fr.nrow⟩ hr.new
 ·obtain⟨bl,us,el,I,J,av,aV,bE⟩:=hr.good.box k cs aa;exact⟨bl,us,el,I,J,av,aV,pe nz bE⟩
 ·obtain⟨v,us,I,J,av,aV⟩:=hr.good.own g o aO;exact⟨v,us,I,J,av,qY nz (fun _ _ _ h=>h) aV⟩
theorem YC{α:Type}{l:List α}{p:α->Bool}(h:∀x∈l,p x=false):l.filter p=[]:=by rw[List.filter_eq_nil_iff];intro x ad;simp[h x ad]
theorem YA{α:Type}{l:List α}{p:α->Bool}(h:∀x∈l,p x=true):l.filter p=l:=List.filter_eq_self.2 h
def FL(r m since clock:Nat)(seen:Array Nat)(NG:Array (be MapEntry)):Sem Value:=do
 match NG[<-choose (.mapNext NG.size)]? with
 |some (some e)=>
  setObj r (.mapIter (some m) since (seen.push e.born) clock)
  pure (.tuple #[.bool true,e.key,e.val])
 |some none=>pure (.tuple #[.bool false])
 |none=>stuck "Next: no such candidate"
theorem TA{P:bW}{w:World}(r m since clock:Nat)(seen:Array Nat)(l:List (be MapEntry))(aE:l≠[]):∃n x,x∈l/\(FL r m since clock seen l.toArray).run P w=
  (match x with|some e=>(do setObj r (.mapIter (some m) since (seen.push e.born) clock);pure (.tuple #[.bool true,e.key,e.val]):Sem Value)|none=>pure (.tuple #[.bool false])).run P {w with drawn:=n}:=by
 have fb:0<l.length:=re.2 aE;unfold FL;have key:∀i,i<l.length->∀w',((do match(l.toArray[i]?:be (be MapEntry))with
   |some (some e)=>setObj r (.mapIter (some m) since (seen.push e.born) clock);pure (.tuple #[.bool true,e.key,e.val])
   |some none=>pure (.tuple #[.bool false])
   |none=>stuck "Next: no such candidate" :Sem Value)).run P w'=((match l[i]! with|some e=>(do setObj r (.mapIter (some m) since (seen.push e.born) clock);pure (.tuple #[.bool true,e.key,e.val]):Sem Value)|none=>pure (.tuple #[.bool false]))).run P w':=by
  intro i aw w';have I:l.toArray[i]? =some l[i]!:=by simp[aw]
  rw[I];cases l[i]!<;>rfl
 by_cases aM:(Question.mapNext l.length).forced=true
 ·refine⟨w.drawn,l[0]!,by simp[fb],?_⟩;rw[<-key 0 fb];have aD:(choose (.mapNext l.length):Sem Nat).run P w= .ok 0 w:=by simp[aM]
  simp only[List.size_toArray,e2,aD,e8]
 ·refine⟨w.drawn+1,l[(w.tape w.drawn (.mapNext l.length))%l.length]!,by simp[Nat.mod_lt _ fb],?_⟩;rw[<-key _ (Nat.mod_lt _ fb)];have aD:(choose (.mapNext l.length):Sem Nat).run P w= .ok ((w.tape w.drawn (.mapNext l.length))%l.length) {w with drawn:=w.drawn+1}:=by simp[aM,Question.cut]
  simp only[List.size_toArray,e2,aD,e8]
theorem afl{P:bW}{w:World}{bl p1:Nat}{seen:List Nat}{es:List MapEntry}{clock:Nat}{ty:gx}(I:w.heap[bl]? =some (.mapIter (some p1) clock seen.toArray clock))(J:w.heap[p1]? =some (.map es.toArray clock))(b7:∀e∈es,e.born<clock):
  ∃n,((∀e∈es,e.born∈seen)/\(Instr.next (.pointer (some ⟨bl,0,none⟩)) false ty).run P w= .ok (.tuple #[.bool false]) {w with drawn:=n})\/
   ∃e∈es,e.born∉seen/\(Instr.next (.pointer (some ⟨bl,0,none⟩)) false ty).run P w= .ok (.tuple #[.bool true,e.key,e.val]) {w with drawn:=n,heap:=w.heap.setIfInBounds bl (.mapIter (some p1) clock (seen++[e.born]).toArray clock)}:=by
 have ZQ:(!seen.toArray.isEmpty&& !es.toArray.isEmpty&&es.toArray.all (fun e=>decide (e.born≥clock)))=false:=by
  cases es with
  |nil=>simp
  |cons e r=>have:=b7 e Ψ;simp;intro _ h;omega
 generalize pN:(es.filter fun e=> !seen.contains e.born)=left;have aaU:(es.toArray.filter fun e=> !seen.toArray.contains e.born)=left.toArray:=by rw[<-pN];simp
 have kB:∀e∈left,e∈es/\e.born∉seen:=fun e he=>by rw[<-pN]at he;have:=List.mem_filter.1 he;exact⟨this.1,by simpa using this.2⟩
 have hold:(left.toArray.filter fun e=>decide (e.born<clock))=left.toArray:=by rw[List.filter_toArray,YA];intro e he;have:=b7 e (kB e he).1;simp[this]
 have lh:(left.toArray.filter fun e=>decide (e.born≥clock))= #[]:=by rw[List.filter_toArray,YC];intro e he;have:=b7 e (kB e he).1;simp;omega
 have hc:(Instr.next (.pointer (some ⟨bl,0,none⟩)) false ty).run P w=(FL bl p1 clock clock seen.toArray ((if left.toArray.isEmpty then #[none]else #[])++(left.toArray++ #[]).map some)).run P w:=by unfold Instr.next FL;simp only[e2,uY I,uY J,e8,ZQ,aaU,hold,lh,iR,if_false];rfl
 rw[hc];by_cases vM:left=[]
 ·subst vM;obtain⟨n,x,g1,g2⟩:=TA (P:=P) (w:=w) bl p1 clock clock seen.toArray [none] Ψ;refine⟨n,.inl ⟨fun e he=>?_,?_⟩⟩
  ·have:=List.filter_eq_nil_iff.1 pN e he;simpa using this
  ·simp only[List.mem_singleton]at g1;subst g1;have aD:((if(([]:List MapEntry).toArray).isEmpty then #[none]else #[])++(([]:List MapEntry).toArray++ #[]).map some)=[none].toArray:=by simp
   rw[aD,g2];rfl
 ·have aD:((if left.toArray.isEmpty then #[none]else #[])++(left.toArray++ #[]).map some)=(left.map some).toArray:=by simp[vM]
  obtain⟨n,x,g1,g2⟩:=TA (P:=P) (w:=w) bl p1 clock clock seen.toArray (left.map some) (by simpa using vM);simp only[pv]at g1;obtain⟨e,he,rfl⟩:=g1;refine⟨n,.inr ⟨e,(kB e he).1,(kB e he).2,?_⟩⟩;rw[aD,g2];simp only[e2];rw[CZ (w:={w with drawn:=n}) (o:= .mapIter (some p1) clock seen.toArray clock) I];simp
theorem HM:∀{borns:List Nat} {us:List Value} {e:MapEntry},e∈fk borns us->e.born∈borns
 |[],us,e,h=>by simp[fk]at h
 |b::eE,[],e,h=>by simp[fk]at h
 |b::eE,[_],e,h=>by simp[fk]at h
 |b::eE,k::v::us,e,h=>by
  simp only[fk,gH]at h;rcases h with rfl|h
  ·simp
  ·exact List.mem_cons_of_mem _ (HM h)
theorem Oo:∀{borns:List Nat} {kvs:List ag} {us:List Value},kvs.length=2*borns.length->us.length=kvs.length->∀{b:Nat},b∈borns->∃e∈fk borns us,e.born=b
 |[],_,_,_,_,b,af=>by simp at af
 |fy::eE,kvs,[],I,J,b,af=>by rw[I]at J;simp at J
 |fy::eE,kvs,[_],I,J,b,af=>by rw[I]at J;simp at J;omega
 |fy::eE,kvs,k::v::us,I,J,b,af=>by
  rcases gH.1 af with rfl|af
  ·exact⟨⟨k,v,b⟩,by simp[fk],rfl⟩
  ·obtain⟨e,g1,g2⟩:=Oo (kvs:=kvs.drop 2) (us:=us) (borns:=eE) (by simp at I⊢;omega) (by simp at I J⊢;omega) af;exact⟨e,by simp[fk,g1],g2⟩
theorem Ry{w:World}{ν:aT}:∀{borns:List Nat} {kvs:List ag} {us:List Value},kvs.length=2*borns.length->borns.Pairwise (· < ·)->cD w ν kvs us->∀{e:MapEntry},e∈fk borns us->∃k v,om e.born borns kvs=some (.tuple [k,v])/\aR w ν k e.key/\aR w ν v e.val
 |[],_,_,_,_,_,e,h=>by simp[fk]at h
 |b::eE,[],us,I,_,_,e,_=>by simp at I
 |b::eE,[_],us,I,_,_,e,_=>by simp at I;omega
 |b::eE,k::v::kvs,us,I,J,av,e,h=>by
  simp only[cD]at av;obtain⟨iq,Au,rfl,fp,h7,pn,rfl,fI,nb⟩:=av;simp only[fk,gH]at h;rw[List.pairwise_cons]at J;rcases h with rfl|h
  ·exact⟨k,v,by simp[om],fp,fI⟩
  ·obtain⟨bz,v',g1,g2,g3⟩:=Ry (by simp at I;omega) J.2 nb h;have cE:b≠e.born:=Nat.ne_of_lt (J.1 _ (HM h));exact⟨bz,v',by simp[om,cE,g1],g2,g3⟩
theorem ac6{P:bW}{C:eH}{st:bb}{a:Act}{w:World}{ν:aT}(hr:ct C st a w ν){o:Oper}{it:Operand}(jU:o.op= .next it false){d:Nat}(a7:o.dst=some d)(uf:hE C.N (some d)=true){v:ag}(aS:aR w ν v (a.eval it)){K:bb->Prop}(he:xe st d v K)
  {oI:Act->World->Prop} {Q:Exit->Act->World->Prop} (dk:∀st' cV w' ν',K st'->ct C st' cV w' ν'->oI cV w'):o.wp P a w oI Q:=by
 unfold xe at he;split at he
 ·rename_i gT;split at he
  ·rename_i since seen last mk qI;split at he
   ·rename_i clock borns kvs xJ;obtain⟨⟨rfl,rfl⟩,vK,he2⟩:=he;simp only[aR]at aS;obtain⟨bl,bQ,b3⟩:=aS;obtain⟨h8,us,el,b9,cx,dp,c6,cH⟩:=hr.good.box gT _ qI;rw[bQ]at b9;cases b9;obtain⟨p1,ms,aj3,m1,m2,m3,m4,m5⟩:=hr.good.box mk _ xJ;simp only[hQ,cD]at cH;obtain⟨u,bF,hu,⟨aj2,fp,rfl⟩,rfl⟩:=cH;rw[m1]at fp;cases fp;simp only[iz,hu]at c6;simp only[iz]at m4;simp only[hQ]at m5;obtain⟨n,lJ⟩:=afl (P:=P) (ty:=o.type) c6 m4 (fun e he=>m5.2.lt _ (HM he));have jT:∀v' w',(Instr.next (.pointer (some ⟨bl,0,none⟩)) false o.type).run P w= .ok v' w'->(execOp a.eval o).run P w= .ok (.value v') w':=by intro v' w' hc;obtain⟨dst,op,ty,pos,AU,Eg⟩:=o;simp only at jU hc;subst jU;simp only[execOp,b3];exact C9 hc
    rcases lJ with⟨I,J⟩|⟨e,I,J,av⟩
    ·refine kn (jT _ _ J) ?_;rw[a7];refine dk _ _ _ _ (vK fun b af=>?_) ((hr.drawn n).put uf (p:= .tuple [.bool false]) (by simp[aR,cD]));obtain⟨e,f1,f2⟩:=Oo m5.2.len (Gj m5.1) af;rw[<-f2];exact I e f1
    ·obtain⟨k,v,f1,f2,f3⟩:=Ry m5.2.len m5.2.inc m5.1 I;refine kn (jT _ _ av) ?_;rw[a7];have pS:=((hr.drawn n).setBox (w':={w with drawn:=n,heap:=w.heap.setIfInBounds bl (.mapIter (some p1) last (seen++[e.born]).toArray last)}) qI bQ (cs':=[.hdi last (seen++[e.born]) last,.gmap mk]) (us:=us) (el:=el) rfl rfl rfl
      (fun j al=>Array.getElem?_setIfInBounds_ne (Ne.symm al)) Ψ (by simp[iz,hu,(Array.getElem?_eq_some_iff.1 c6).1]) (by simp only[hQ,cD];exact⟨_,_,hu,by simp only[aR];exact⟨p1,m1,rfl⟩,rfl⟩))
     refine dk _ _ _ _ (he2 e.born k v f1 J) (pS.1.put uf (p:= .tuple [.bool true,k,v]) ?_);simp only[aR];refine⟨_,rfl,?_⟩;simp only[cD];have nz:lA w ν {w with drawn:=n} ν:=⟨fun _ _ h=>⟨h,rfl⟩,fun _ _ _ h=>h,fun _ n u _ h=>⟨n,u,h,.inl ⟨rfl,rfl⟩⟩,fun _ _ _=>rfl,fun _ _ _ _ h=>h⟩;exact⟨_,_,rfl,by simp[aR],_,_,rfl,uV pS.2 (uV nz f2),_,_,rfl,uV pS.2 (uV nz f3),rfl⟩
   ·exact he.elim
  ·exact he.elim
 ·exact he.elim
theorem Ot{P:bW}{bs:List (Nat×du)}(aI:fS P bs=true){C:eH}{st:bb}{a:Act}{w:World}{ν:aT}(hr:ct C st a w ν){i:dH}{o:Oper}(aj:tn C.N bs i o=true){K:bb->Prop}(he:rB P C.ob st K i)
  {oI:Act->World->Prop} {Q:Exit->Act->World->Prop} (dk:∀st' cV w' ν',K st'->ct C st' cV w' ν'->oI cV w'):o.wp P a w oI Q:=by
 cases i with
 |s i=>
  simp only[rB]at he;split at he
  ·rename_i c st' ao;exact afp aI hr (by simpa only[tn]using aj) ao he.1 fun cV w' ν' h=>dk _ _ _ _ he.2 h
  ·exact he.elim
 |next d x=>
  simp only[rB]at he;simp only[tn]at aj;split at aj
  ·rename_i it jU;simp only[bB,dO,ef]at aj;obtain⟨⟨I,J⟩,av⟩:=aj;exact ac6 hr jU I (by simpa[hE]using J) (dT hr av) he dk
  ·cases aj
 |call d f xs=>
  simp only[rB]at he;simp only[tn]at aj;split at aj
  ·rename_i mK args ts jU;simp only[bB,dO]at aj;obtain⟨⟨⟨I,J⟩,av⟩,aV⟩:=aj;split at he
   ·rename_i n dI aM;have:=dT hr av;rw[aM]at this;exact NC hr jU I J this (Ah hr aV) he dk
   ·exact he.elim
  ·cases aj
 |opn d f xs=>
  simp only[rB]at he;simp only[tn]at aj;split at aj
  ·rename_i mK args ts jU;simp only[bB,dO]at aj;obtain⟨⟨⟨I,J⟩,av⟩,aV⟩:=aj;split at he
   ·rename_i n dI aM;have:=dT hr av;rw[aM]at this;exact ael hr jU I J this (Ah hr aV) he dk
   ·exact he.elim
  ·cases aj
theorem KL{C:eH}{st:bb}{a:Act}{w:World}{ν:aT}(h:ct C st a w ν){s:Nat}{b:Bool}(ao:get s st.t= .bool b):ct C {st with t:=put s (.bool b) st.t} a w ν:=by
 refine⟨h.good,h.fr,h.defers,h.size,fun i=>?_,h.new,h.ext,h.obk⟩;have:=h.slot i;simp only[pM];split
 ·rename_i e;subst e;rw[<-ao];exact this
 ·exact this
theorem UC{C:eH}{st:bb}{a:Act}{w:World}{ν:aT}(h:ct C st a w ν){ops:Array Oper}{j s:Nat}(al:(ops.toList[j]?).bind (·.dst)=some s)(ao:s<C.N):
  (∀b,get s st.t= .bool b->yielded ops a.tmps j=some b)/\(get s st.t= .tuple []->yielded ops a.tmps j=none):=by
 have b7:s<a.tmps.size:=by rw[h.size];exact ao
 have lR:=h.slot s;have lN:a.tmps.getD s undef=a.tmps[s]:=by simp[Array.getD,b7]
 rw[lN]at lR;have bC:yielded ops a.tmps j=match a.tmps[s]with| .bool b=>some b|_=>none:=by unfold yielded;rw[Array.getElem?_toList]at al;rw[al];simp only[Option.bind_some,Array.getElem?_eq_getElem b7];cases a.tmps[s]<;>rfl
 constructor
 ·intro b af;rw[af]at lR;simp only[aR]at lR;rw[bC,lR]
 ·intro af;rw[af]at lR;simp only[aR,cD]at lR;obtain⟨us,aq,aU⟩:=lR;rw[bC,aq]
theorem Ox{P:bW}{bs:List (Nat×du)}(aI:fS P bs=true){C:eH}{ops:Array Oper}{K:bb->Prop}{Q:Exit->Act->World->Prop}(lH:∀st' cV w' ν',K st'->ct C st' cV w' ν'->Q .normal cV w'):
  ∀(gs:List cL) (os:List Oper) (k:Nat),(∀j,os[j]? =ops[k+j]?)->j3 C.N bs ops.toList gs os=true->∀(st:bb) (a:Act) (w:World) (ν:aT),ho P C.ob gs st K->ct C st a w ν->wpOps P ops Q (List.range' k gs.length) a w
 |[],[],k,_,_,st,a,w,ν,he,hr=>by simp only[nj,List.range'_zero,wpOps];exact lH _ _ _ _ he hr
 |[],_::_,_,_,aa,_,_,_,_,_,_=>by simp[j3]at aa
 |_::_,[],_,_,aa,_,_,_,_,_,_=>by simp[j3]at aa
 |g::gs,o::os,k,vT,aa,st,a,w,ν,he,hr=>by
  simp only[j3,bB]at aa;have bD:ops[k]? =some o:=by simpa using(vT 0).symm
  have xP:∀j,os[j]? =ops[k+1+j]?:=fun j=>by have:=vT (j+1);simpa[Nat.add_assoc,Nat.add_comm 1 j]using this
  simp only[e3,List.range'_succ,wpOps,bD];have a8:∀st' cV w' ν',ho P C.ob gs st' K->ct C st' cV w' ν'->wpOps P ops Q (List.range' (k+1) gs.length) cV w':=fun st' cV w' ν' I J=>Ox aI lH gs os (k+1) xP aa.2 st' cV w' ν' I J;obtain⟨Ib,aiA⟩:=g;have aO:=aa.1;simp only[Bk,bB]at aO;obtain⟨mn,lf⟩:=aO;cases Ib with
  |none=>
   cases eU:o.guard with
   |some x=>simp[eU]at mn
   |none=>
    have hw:oF o (yielded ops a.tmps)=true:=by simp[oF,eU]
    rw[bN hw];simp only[ho]at he;exact .inl (Ot aI hr lf he a8)
  |some yu=>
   obtain⟨s,want⟩:=yu;cases eU:o.guard with
   |none=>simp[eU]at mn
   |some x=>
    obtain⟨j,fy⟩:=x;simp only[eU,bB,dO,ef]at mn;obtain⟨⟨⟨⟨rfl,J⟩,av⟩,aV⟩,bE⟩:=mn;obtain⟨GH,GI⟩:=UC hr J av;simp only[ho]at he;split at he
    ·rename_i b af;have bC:=GH b af;by_cases e:b=want
     ·subst e;have hw:oF o (yielded ops a.tmps)=true:=by simp[oF,eU,bC]
      rw[bN hw];exact .inl (Ot aI (KL hr af) lf (he.1 rfl) a8)
     ·have hw:¬(oF o (yielded ops a.tmps)=true):=by simp[oF,eU,bC,e]
      rw[bf hw];have hq:b= !want:=by cases b<;>cases want<;>simp at e⊢
      have nC:ct C {st with t:=put s (.bool !want) st.t} a w ν:=KL hr (by rw[af,hq]);rw[aV];exact a8 _ _ _ _ (he.2 hq) (nC.put bE (by simp[aR,cD,undef]))
    ·rename_i af;have bC:=GI af;have hw:¬(oF o (yielded ops a.tmps)=true):=by simp[oF,eU,bC]
     rw[bf hw,aV];exact a8 _ _ _ _ he (hr.put bE (by simp[aR,cD,undef]))
    ·exact he.elim
structure cU where
 t:Nat->ag
 b:aJ->be (List ag)
 e:aJ->be dw
 F:aJ->Prop
structure kq where
 d:be Nat
 p:ag
 bw:List (aJ×List ag)
 ew:List (aJ×dw)
 rm:be aJ
def ic{α:Type}(l:List (aJ×α))(f:aJ->be α):aJ->be α:=fun k=>match look k l with|some x=>some x|none=>f k
def cU.do(A:cU)(x:kq):cU:={t:=fun i=>if x.d=some i then x.p else A.t i,b:=ic x.bw A.b,e:=ic x.ew A.e,F:=fun k=>A.F k/\x.rm≠some k}
structure kq.apart (x y:kq):Prop where
 d:∀i,x.d=some i->y.d≠some i
 b:∀k,(look k x.bw).isSome->look k y.bw=none
 e:∀k,(look k x.ew).isSome->look k y.ew=none
theorem cU.do_comm(A:cU){x y:kq}(h:x.apart y):(A.do x).do y=(A.do y).do x:=by
 simp only[cU.do,cU.mk.injEq];refine⟨?_,?_,?_,?_⟩
 ·funext i;by_cases I:x.d=some i
  ·have:=h.d i I;simp[I,this]
  ·simp[I]
 ·funext k;simp only[ic];cases ad:look k x.bw with
  |none=>cases look k y.bw<;>rfl
  |some u=>rw[h.b k (by simp[ad])]
 ·funext k;simp only[ic];cases ad:look k x.ew with
  |none=>cases look k y.ew<;>rfl
  |some u=>rw[h.e k (by simp[ad])]
 ·funext k;exact propext ⟨fun h=>⟨⟨h.1.1,h.2⟩,h.1.2⟩,fun h=>⟨⟨h.1.1,h.2⟩,h.1.2⟩⟩
def dc(t:Nat->ag):cS->ag
 | .t i=>t i
 | .c p=>p
def r0(b:aJ->be (List ag))(e:aJ->be dw)(agg:Bool)(sz:Nat):ag->be (Prop×ag)
 | .rptr dj k n i f=>yl agg sz dj n i f (e k)
 | .ptr k off=>
  match b k with
  |some cs=>if agg then some (iB cs=true/\off+sz<=cs.length,.agg ((cs.drop off).take sz))else(cs[off]?).map fun p=>(iB cs=true,p)
  |none=>none
 | .eptr p=>if agg then some (isAgg sz p,p)else some (ez p=true/\cells p=[p],p)
 |_=>none
def wZ(t:Nat->ag):List ag->List (Nat×Nat×cS)->be (Prop×List ag)
 |cs,[]=>some (True,cs)
 |cs,(off,sz,x)::r=>
  match wZ t (oz cs off (cells (dc t x))) r with
  |some (c,cs')=>some ((ez (dc t x)=true/\(cells (dc t x)).length=sz/\off+sz<=cs.length)/\c,cs')
  |none=>none
def po(t:Nat->ag)(b:aJ->be (List ag))(e:aJ->be dw):fD->be (Prop×ag)
 | .mov x=>some (True,dc t x)
 | .pick c x y=>F0 (dc t c) (dc t x) (dc t y)
 | .load agg sz x=>r0 b e agg sz (dc t x)
 | .faddr off agg sz x=>n2 off agg sz (dc t x)
 | .fld off agg sz x=>rD off agg sz (dc t x)
 | .iaddr sz x i=>zz sz (dc t x) (dc t i)
 | .sidx x i=>Gt (dc t x) (dc t i)
 | .ssl x lo aw=>Gx (dc t x) (lo.map (dc t)) (aw.map (dc t))
 | .lsl sz x lo aw=>Fz sz (dc t x) (lo.map (dc t)) (aw.map (dc t))
 | .bin op wr x y=>au op wr (dc t x) (dc t y)
 | .notB x=>FP (dc t x)
 | .neg x=>FJ (dc t x)
 | .conv k x=>DN k (dc t x)
 | .ext i x=>D4 i (dc t x)
 | .len x=>zE (dc t x)
 | .slen x=>C2 (dc t x)
 | .build zero parts=>(wZ t zero parts).map fun(c,cs)=>(c,.agg cs)
 | .nck x=>zK (dc t x)
 | .min2 x y=>FD (dc t x) (dc t y)
 | .mkf n xs=>some (True,.func n (xs.map (dc t)))
 | .mget b0 zero ok x k=>qQ b b0 zero ok (dc t x) (dc t k)
 | .ment x=>tf b (dc t x)
 | .mlen x=>zI b (dc t x)
 | .beq neg dC x y=>Dw neg dC (dc t x) (dc t y)
 | .max2 x y=>FB (dc t x) (dc t y)
 | .mkif n x=>some (True,.iface n (dc t x))
 | .loadB agg sz x=>r0 b (fun _=>none) agg sz (dc t x)
 | .mgetB b0 zero ok x k=>qQ b b0 zero ok (dc t x) (dc t k)
 | .loadZ agg sz x=>Bj agg sz (dc t x)
 | .b2s x=>Dv (dc t x)
 | .isn neg x=>Fj neg (dc t x)
structure k3 (st:bb) (A:cU):Prop where
 t:∀i,get i st.t=A.t i
 b:∀k,look k st.b=A.b k
 e:∀k,look k st.e=A.e k
theorem hG{st:bb}{A:cU}(h:k3 st A)(x:cS):bL st.t x=dc A.t x:=by
 cases x
 ·exact h.t _
 ·rfl
theorem pK{st:bb}{A:cU}(h:k3 st A):bL st.t=dc A.t:=funext (hG h)
theorem acz{st:bb}{A:cU}(h:k3 st A)(agg:Bool)(sz:Nat)(p:ag):mw st.b st.e agg sz p=r0 A.b A.e agg sz p:=by
 cases p<;>simp only[mw,r0]
 ·rw[h.b];try rfl
 ·rw[h.e]
theorem acA{st:bb}{A:cU}(h:k3 st A)(agg:Bool)(sz:Nat)(p:ag):mw st.b [] agg sz p=r0 A.b (fun _=>none) agg sz p:=by
 cases p<;>simp only[mw,r0]
 ·rw[h.b];try rfl
 ·rfl
theorem Mr{st:bb}{A:cU}(h:k3 st A):∀(parts:List (Nat×Nat×cS)) (cs:List ag),tM st.t cs parts=wZ A.t cs parts
 |[],cs=>rfl
 |(off,sz,x)::r,cs=>by simp only[tM,wZ,hG h,Mr h r];try rfl
theorem T7{st:bb}{A:cU}(h:k3 st A)(i:fD):gB st i=po A.t A.b A.e i:=by have af:(fun k=>look k st.b)=A.b:=funext h.b;cases i<;>simp only[gB,po,pK h,acz h,acA h,Mr h,af]
def gn:cS->List Nat
 | .t i=>[i]
 | .c _=>[]
def Kn:be cS->List Nat
 |some x=>gn x
 |none=>[]
def fD.looks:fD->List Nat
 | .mov x| .load _ _ x| .loadB _ _ x| .loadZ _ _ x| .faddr _ _ _ x| .fld _ _ _ x| .notB x| .neg x| .conv _ x| .ext _ x| .len x| .slen x| .nck x| .ment x| .mlen x| .mkif _ x| .b2s x| .isn _ x=>gn x
 | .pick c x y=>gn c++gn x++gn y
 | .iaddr _ x i| .sidx x i=>gn x++gn i
 | .ssl x lo aw| .lsl _ x lo aw=>gn x++Kn lo++Kn aw
 | .bin _ _ x y| .min2 x y| .max2 x y| .beq _ _ x y=>gn x++gn y
 | .build _ bY=>bY.flatMap fun p=>gn p.2.2
 | .mkf _ xs=>xs.flatMap gn
 | .mget _ _ _ x k| .mgetB _ _ _ x k=>gn x++gn k
def dG.looks:dG->List Nat
 | .v _ i=>i.looks
 | .box _ _ x=>gn x
 | .alloc _ _ _=>[]
 | .store _ x y=>gn x++gn y
 | .storeE _ x y=>gn x++gn y
 | .bsl _ _ _ xs=>xs.flatMap gn
 | .app _ _ _ x y=>gn x++gn y
 | .bslm _ _ _ _ xs=>xs.flatMap gn
 | .mks _ _ _ _ _ x=>gn x
 | .apps _ _ x y=>gn x++gn y
 | .appm _ _ _ _ x y=>gn x++gn y
 | .mkmap _ _=>[]
 | .mput _ x k y=>gn x++gn k++gn y
 | .range _ _ x=>gn x
def dH.looks:dH->List Nat
 | .s i=>i.looks
 | .call _ f xs=>gn f++xs.flatMap gn
 | .next _ x=>gn x
 | .opn _ f xs=>gn f++xs.flatMap gn
def cL.looks(g:cL):List Nat:=(match g.g with|some (s,_)=>[s]|none=>[])++g.i.looks
def pE(l:List Nat)(t eB:Nat->ag):Prop:= ∀i∈l,t i=eB i
theorem fN{t eB:Nat->ag}{x:cS}(h:pE (gn x) t eB):dc t x=dc eB x:=by
 cases x
 ·exact h _ (by simp[gn])
 ·rfl
theorem jP{l cQ:List Nat}{t eB:Nat->ag}(h:pE (l++cQ) t eB):pE l t eB/\pE cQ t eB:=⟨fun i aw=>h i (by simp[aw]),fun i aw=>h i (by simp[aw])⟩
theorem D2{t eB:Nat->ag}{x:be cS}(h:pE (Kn x) t eB):x.map (dc t)=x.map (dc eB):=by
 cases x
 ·rfl
 ·simp[fN h]
theorem Mq{t eB:Nat->ag}:∀{parts:List (Nat×Nat×cS)} {cs:List ag},pE (parts.flatMap fun p=>gn p.2.2) t eB->wZ t cs parts=wZ eB cs parts
 |[],cs,_=>rfl
 |(off,sz,x)::r,cs,h=>by simp only[List.flatMap_cons]at h;obtain⟨I,J⟩:=jP h;simp only[wZ,fN I,Mq J]
theorem Ct{t eB:Nat->ag}:∀{xs:List cS},pE (xs.flatMap gn) t eB->xs.map (dc t)=xs.map (dc eB)
 |[],_=>rfl
 |x::xs,h=>by simp only[List.flatMap_cons]at h;obtain⟨I,J⟩:=jP h;simp[fN I,Ct J]
def fD.isLoad:fD->Bool
 | .load _ _ _=>true
 | .loadB _ _ _=>true
 | .mgetB _ _ _ _ _=>true
 | .mget _ _ _ _ _=>true
 | .ment _=>true
 | .mlen _=>true
 |_=>false
theorem af4{t eB:Nat->ag}{b fy:aJ->be (List ag)}{e iX:aJ->be dw}{i:fD}(h:pE i.looks t eB)(af:i.isLoad=false):po t b e i=po eB fy iX i:=by
 cases i<;>simp only[fD.looks]at h<;>simp only[po];case load agg sz x=>simp[fD.isLoad]at af
 case loadB agg sz x=>simp[fD.isLoad]at af
 case pick c x y=>obtain⟨I,av⟩:=jP h;obtain⟨I,J⟩:=jP I;rw[fN I,fN J,fN av]
 case iaddr=>obtain⟨I,J⟩:=jP h;rw[fN I,fN J]
 case sidx=>obtain⟨I,J⟩:=jP h;rw[fN I,fN J]
 case ssl=>obtain⟨I,av⟩:=jP h;obtain⟨I,J⟩:=jP I;rw[fN I,D2 J,D2 av]
 case lsl=>obtain⟨I,av⟩:=jP h;obtain⟨I,J⟩:=jP I;rw[fN I,D2 J,D2 av]
 case bin=>obtain⟨I,J⟩:=jP h;rw[fN I,fN J]
 case min2=>obtain⟨I,J⟩:=jP h;rw[fN I,fN J]
 case build=>rw[Mq h]
 case mkf=>rw[Ct h]
 case mget=>simp[fD.isLoad]at af
 case mgetB=>simp[fD.isLoad]at af
 case ment=>simp[fD.isLoad]at af
 case mlen=>simp[fD.isLoad]at af
 case max2=>obtain⟨I,J⟩:=jP h;rw[fN I,fN J]
 case beq=>obtain⟨I,J⟩:=jP h;rw[fN I,fN J]
 all_goals rw[fN h]
def ac2(A:cU)(s aC:dM)(rm:be aJ):Prop:=(∀k,(look k aC.b).isSome->(look k s.b).isSome\/rm=some k)/\(∀k,(look k aC.e).isSome->(look k s.e).isSome\/rm=some k)/\(∀k,(look k s.b).isSome->(look k aC.b).isSome)/\(∀k,(look k s.e).isSome->(look k aC.e).isSome)/\
 (∀k,rm=some k->(∃j,k= .obj j)/\A.F k/\A.b k=none/\A.e k=none/\((look k aC.b).isSome\/(look k aC.e).isSome))
def UL(P:bW)(n:Nat)(args:List ag)(A:cU)(d:be Nat)(x:kq):Prop:=
 ∃s aC r rm,(∀k cs,look k s.b=some cs->A.b k=some cs/\ai (ah s) cs)/\(∀k o,look k s.e=some o->A.e k=some o/\b6 (ah s) o)/\js s/\js aC/\ac2 A s aC rm/\ai (ah s) args/\
  bT P n args s (fun dt eB=>dt=r/\eB=aC)/\x=⟨d,r,aC.b,aC.e,rm⟩
def UM(P:bW)(n0 n:Nat)(args:List ag)(A:cU)(d:be Nat)(x:kq):Prop:=
 ∃fE r,d=some fE/\(A.F (.loc (n0+fE))/\A.b (.loc (n0+fE))=none/\A.e (.loc (n0+fE))=none)/\ai (fun _=>dK) args/\
  GK P n (n0+fE) args ⟨[],[]⟩ (fun dt eB=>dt=r/\eB=⟨[],[]⟩)/\x=⟨d,r,[],[],some (.loc (n0+fE))⟩
def xV:ag->Bool
 | .ptr (.loc _) _=>true
 | .eptr _=>true
 |_=>false
def fD.isB:fD->Bool
 | .loadB _ _ _=>true
 | .mgetB _ _ _ _ _=>true
 |_=>false
def fD.ptrOf(t:Nat->ag):fD->ag
 | .load _ _ x=>dc t x
 | .loadB _ _ x=>dc t x
 |_=>.junk
def dA(P:bW)(q:Bool)(n0:Nat):dH->cU->kq->Prop
 | .s (.v d i),A,x=> ∃c p,po A.t A.b A.e i=some (c,p)/\c/\(i.isLoad=true->i.isB=true\/q=true\/xV (i.ptrOf A.t)=true)/\x=⟨some d,p,[],[],none⟩
 | .s (.box d none v),A,x=>(A.F (.loc (n0+d))/\A.b (.loc (n0+d))=none/\A.e (.loc (n0+d))=none)/\ez (dc A.t v)=true/\x=⟨some d,.ptr (.loc (n0+d)) 0,[(.loc (n0+d),cells (dc A.t v))],[],some (.loc (n0+d))⟩
 | .s (.alloc d none z),A,x=>(A.F (.loc (n0+d))/\A.b (.loc (n0+d))=none/\A.e (.loc (n0+d))=none)/\x=⟨some d,.ptr (.loc (n0+d)) 0,[(.loc (n0+d),cells z)],[],some (.loc (n0+d))⟩
 | .s (.store sz u v),A,x=> ∃k off cs,dc A.t u= .ptr k off/\A.b k=some cs/\(iB cs=true/\ez (dc A.t v)=true/\(cells (dc A.t v)).length=sz/\off+sz<=cs.length)/\x=⟨none,.junk,[(k,oz cs off (cells (dc A.t v)))],[],none⟩
 | .s (.bsl d sz el xs),A,x=>(A.F (.loc (n0+d))/\A.b (.loc (n0+d))=none/\A.e (.loc (n0+d))=none)/\qs sz (xs.map (dc A.t))/\x=⟨some d,.slice sz (.own (.loc (n0+d))) (xs.map (dc A.t)),[],[(.loc (n0+d),⟨xs.length,el,sz,none⟩)],some (.loc (n0+d))⟩
 | .s (.app d sz el u v),A,x=> ∃tag xs gG ys,dc A.t u= .slice sz tag xs/\dc A.t v= .slice sz gG ys/\
   ((∃k o,tag= .own k/\A.e k=some o/\(o.xs=none/\o.n=xs.length/\o.el=el/\o.sz=sz/\xs.length+ys.length<=bA)/\x=⟨some d,.slice sz (.own k) (xs++ys),[],[(k,⟨xs.length+ys.length,el,sz,none⟩)],none⟩)\/
    (tag= .nil/\ys.length<=bA/\(A.F (.loc (n0+d))/\A.b (.loc (n0+d))=none/\A.e (.loc (n0+d))=none)/\x=⟨some d,.slice sz (.own (.loc (n0+d))) ys,[],[(.loc (n0+d),⟨ys.length,el,sz,none⟩)],some (.loc (n0+d))⟩))
 | .s (.bslm d (some m) sz el xs),A,x=>(A.F (.obj m)/\A.b (.obj m)=none/\A.e (.obj m)=none)/\qs sz (xs.map (dc A.t))/\x=⟨some d,.row sz (.obj m) xs.length,[],[(.obj m,⟨xs.length,el,sz,some (xs.map (dc A.t))⟩)],some (.obj m)⟩
 | .s (.appm d none sz el u v),A,x=> ∃k n xs gG ys,dc A.t u= .row sz k n/\dc A.t v= .slice sz gG ys/\A.e k=some ⟨n,el,sz,some xs⟩/\xs.length+ys.length<=bA/\x=⟨some d,.row sz k (xs.length+ys.length),[],[(k,⟨xs.length+ys.length,el,sz,some (xs++ys)⟩)],none⟩
 | .s (.appm d (some m) sz el u v),A,x=>(∃k n xs gG ys,dc A.t u= .row sz k n/\dc A.t v= .slice sz gG ys/\A.e k=some ⟨n,el,sz,some xs⟩/\xs.length+ys.length<=bA/\x=⟨some d,.row sz k (xs.length+ys.length),[],[(k,⟨xs.length+ys.length,el,sz,some (xs++ys)⟩)],none⟩)\/ ∃xs gG ys,dc A.t u= .slice sz .nil xs/\dc A.t v= .slice sz gG ys/\(A.F (.obj m)/\A.b (.obj m)=none/\A.e (.obj m)=none)/\(ys.length<=bA/\ys≠[])/\x=⟨some d,.row sz (.obj m) ys.length,[],[(.obj m,⟨ys.length,el,sz,some ys⟩)],some (.obj m)⟩
 | .s (.storeE sz u v),A,x=> ∃k n i f el dj xs q,dc A.t u= .rptr dj k n i f/\A.e k=some ⟨n,el,dj,some xs⟩/\xs[i]? =some q/\(ez q=true/\ez (dc A.t v)=true/\(cells (dc A.t v)).length=sz/\f+sz<=(cells q).length/\0<sz)/\x=⟨none,.junk,[],[(k,⟨n,el,dj,some (xs.set i (qZ q f (cells (dc A.t v))))⟩)],none⟩
 | .s (.mkmap d (some m)),A,x=>(A.F (.obj m)/\A.b (.obj m)=none/\A.e (.obj m)=none)/\x=⟨some d,.gmap (.obj m),[(.obj m,[.hdm 0 []])],[],some (.obj m)⟩
 | .s (.mput b0 u k v),A,x=> ∃m cs cs',dc A.t u= .gmap m/\A.b m=some cs/\uD b0 (dc A.t k) (dc A.t v) cs=some cs'/\x=⟨none,.junk,[(m,cs')],[],none⟩
 | .call d f xs,A,x=> ∃n dI,dc A.t f= .func n dI/\((UL P n (cO (xs.map (dc A.t)++dI)) A d x/\(q=true->x.bw=[]/\x.ew=[]))\/UM P n0 n (cO (xs.map (dc A.t)++dI)) A d x)
 |_,_,_=>dK
inductive AG where
 |v|l|n|s|w|a|c|m|r|k|z
 deriving DecidableEq
def dH.mode:dH->AG
 | .s (.v _ (.loadB _ _ _))=>.m
 | .s (.v _ (.mgetB _ _ _ _ _))=>.m
 | .s (.v _ i)=>if i.isLoad then .l else .v
 | .s (.storeE _ _ _)=>.r
 | .s (.box _ _ _)=>.n
 | .s (.alloc _ _ _)=>.n
 | .s (.store _ _ _)=>.w
 | .s (.bsl _ _ _ _)=>.s
 | .s (.app _ _ _ _ _)=>.a
 | .s (.bslm _ none _ _ _)=>.w
 | .s (.bslm _ (some _) _ _ _)=>.z
 | .s (.mks _ _ _ _ _ _)=>.w
 | .s (.apps _ _ _ _)=>.w
 | .s (.appm _ none _ _ _ _)=>.r
 | .s (.appm _ (some _) _ _ _ _)=>.z
 | .s (.mkmap _ _)=>.k
 | .s (.mput _ _ _ _)=>.w
 | .s (.range _ _ _)=>.w
 | .call _ _ _=>.c
 | .next _ _=>.w
 | .opn _ _ _=>.w
structure GP (q:Bool) (n0:Nat) (m:AG) (dst:be Nat) (A:cU) (x:kq):Prop where
 d:x.d=dst
 b:∀k,(look k x.bw).isSome->(m= .n/\∃d,dst=some d/\k= .loc (n0+d)/\A.b k=none/\A.e k=none)\/m= .w\/(m= .c/\(∃j,k= .obj j)/\q=false)\/(m= .k/\(∃j,k= .obj j)/\A.b k=none/\A.e k=none)
 e:∀k,(look k x.ew).isSome->(m= .s/\∃d,dst=some d/\k= .loc (n0+d)/\A.b k=none/\A.e k=none)\/(m= .a/\(A.e k≠none\/ ∃d,dst=some d/\k= .loc (n0+d)/\A.b k=none/\A.e k=none))\/(m= .c/\(∃j,k= .obj j)/\q=false)\/(m= .r/\∃o,A.e k=some o/\o.xs≠none)\/m= .z
 r:∀k,x.rm=some k->(∃d,dst=some d/\k= .loc (n0+d))\/((m= .c\/m= .k\/m= .z)/\(∃j,k= .obj j)/\((look k x.bw).isSome\/(look k x.ew).isSome))
 ex:m= .a->∀k o,(look k x.ew).isSome->A.e k=some o->o.xs=none
 xn:m= .a\/m= .s->∀k o,look k x.ew=some o->o.xs=none
theorem td{α:Type}{k bz:aJ}{x:α}(h:(look k [(bz,x)]).isSome):k=bz:=by
 simp only[look]at h;split at h
 ·rename_i e;exact e.symm
 ·cases h
theorem JR{k bz:aJ}{n el sz:Nat}{o:dw}(h:look k [(bz,(⟨n,el,sz,none⟩:dw))]=some o):o.xs=none:=by
 simp only[look]at h;split at h
 ·cases h;rfl
 ·cases h
theorem TZ{P:bW}{q:Bool}{n0:Nat}{i:dH}{A:cU}{x:kq}(h:dA P q n0 i A x):GP q n0 i.mode i.dst A x:=by
 cases i with
 |s i=>
  cases i with
  |v d i=>simp only[dA]at h;obtain⟨c,p,_,_,_,rfl⟩:=h;exact⟨rfl,fun k aa=>by simp[look]at aa,fun k aa=>by simp[look]at aa,fun k aa=>by simp at aa,fun _ k o aa=>by simp[look]at aa,fun _ k o aa=>by simp[look]at aa⟩
  |box d key v=>
   cases key with
   |some m=>simp only[dA]at h
   |none=>simp only[dA]at h;obtain⟨⟨_,J,av⟩,_,rfl⟩:=h;exact⟨rfl,fun k aa=>by obtain rfl:=td aa;exact .inl ⟨rfl,d,rfl,rfl,J,av⟩,fun k aa=>by simp[look]at aa,fun k aa=>by simp at aa;exact .inl ⟨d,rfl,aa.symm⟩,fun _ k o aa=>by simp[look]at aa,fun _ k o aa=>by simp[look]at aa⟩
  |alloc d key z=>
   cases key with
   |some m=>simp only[dA]at h
   |none=>simp only[dA]at h;obtain⟨⟨_,J,av⟩,rfl⟩:=h;exact⟨rfl,fun k aa=>by obtain rfl:=td aa;exact .inl ⟨rfl,d,rfl,rfl,J,av⟩,fun k aa=>by simp[look]at aa,fun k aa=>by simp at aa;exact .inl ⟨d,rfl,aa.symm⟩,fun _ k o aa=>by simp[look]at aa,fun _ k o aa=>by simp[look]at aa⟩
  |store sz u v=>simp only[dA]at h;obtain⟨k,off,cs,_,_,_,rfl⟩:=h;exact⟨rfl,fun k aa=>.inr (.inl rfl),fun k aa=>by simp[look]at aa,fun k aa=>by simp at aa,fun _ k o aa=>by simp[look]at aa,fun _ k o aa=>by simp[look]at aa⟩
  |bsl d sz el xs=>simp only[dA]at h;obtain⟨⟨_,J,av⟩,_,rfl⟩:=h;exact⟨rfl,fun k aa=>by simp[look]at aa,fun k aa=>by obtain rfl:=td aa;exact .inl ⟨rfl,d,rfl,rfl,J,av⟩,fun k aa=>by simp at aa;exact .inl ⟨d,rfl,aa.symm⟩,fun e=>by simp[dH.mode]at e,fun _ k o aa=>JR aa⟩
  |app d sz el u v=>
   simp only[dA]at h;obtain⟨tag,xs,gG,ys,_,_,h⟩:=h;rcases h with⟨k,o,_,I,⟨ey,_⟩,rfl⟩|⟨_,_,⟨_,J,av⟩,rfl⟩
   ·exact⟨rfl,fun k aa=>by simp[look]at aa,fun k aa=>by obtain rfl:=td aa;exact .inr (.inl ⟨rfl,.inl (by rw[I];simp)⟩),fun k aa=>by simp at aa,fun _ bz o' aa aj=>by obtain rfl:=td aa;rw[I]at aj;cases aj;exact ey,fun _ k o aa=>JR aa⟩
   ·exact⟨rfl,fun k aa=>by simp[look]at aa,fun k aa=>by obtain rfl:=td aa;exact .inr (.inl ⟨rfl,.inr ⟨d,rfl,rfl,J,av⟩⟩),fun k aa=>by simp at aa;exact .inl ⟨d,rfl,aa.symm⟩,fun _ bz o' aa aj=>(by obtain rfl:=td aa;rw[av]at aj;cases aj),fun _ k o aa=>JR aa⟩
  |bslm d key sz el xs=>
   cases key with
   |none=>simp only[dA]at h
   |some m=>simp only[dA]at h;obtain⟨⟨_,J,av⟩,_,rfl⟩:=h;exact⟨rfl,fun k aa=>by simp[look]at aa,fun k aa=>.inr (.inr (.inr (.inr rfl))),fun k aa=>by simp at aa;subst aa;exact .inr ⟨.inr (.inr rfl),⟨m,rfl⟩,.inr (by simp[look])⟩,fun e=>by simp[dH.mode]at e,fun e=>by simp[dH.mode]at e⟩
  |mks d key sz el z x=>simp only[dA]at h
  |apps d el x y=>simp only[dA]at h
  |appm d key sz el u v=>
   cases key with
   |none=>simp only[dA]at h;obtain⟨k,n,xs,gG,ys,_,_,I,_,rfl⟩:=h;exact⟨rfl,fun k aa=>by simp[look]at aa,fun k aa=>by obtain rfl:=td aa;exact .inr (.inr (.inr (.inl ⟨rfl,_,I,Ψ⟩))),fun k aa=>by simp at aa,fun e=>by simp[dH.mode]at e,fun e=>by simp[dH.mode]at e⟩
   |some m=>
    simp only[dA]at h;rcases h with⟨k,n,xs,gG,ys,_,_,I,_,rfl⟩|⟨xs,gG,ys,_,_,⟨_,J,av⟩,_,rfl⟩
    ·exact⟨rfl,fun k aa=>by simp[look]at aa,fun k aa=>.inr (.inr (.inr (.inr rfl))),fun k aa=>by simp at aa,fun e=>by simp[dH.mode]at e,fun e=>by simp[dH.mode]at e⟩
    exact⟨rfl,fun k aa=>by simp[look]at aa,fun k aa=>.inr (.inr (.inr (.inr rfl))),fun k aa=>by simp at aa;subst aa;exact .inr ⟨.inr (.inr rfl),⟨m,rfl⟩,.inr (by simp[look])⟩,fun e=>by simp[dH.mode]at e,fun e=>by simp[dH.mode]at e⟩
  |storeE sz u v=>simp only[dA]at h;obtain⟨k,n,i,f,el,dj,xs,q,_,I,_,_,rfl⟩:=h;exact⟨rfl,fun k aa=>by simp[look]at aa,fun k aa=>by obtain rfl:=td aa;exact .inr (.inr (.inr (.inl ⟨rfl,_,I,Ψ⟩))),fun k aa=>by simp at aa,fun e=>by simp[dH.mode]at e,fun e=>by simp[dH.mode]at e⟩
  |mkmap d key=>
   cases key with
   |none=>simp only[dA]at h
   |some m=>simp only[dA]at h;obtain⟨⟨_,J,av⟩,rfl⟩:=h;exact⟨rfl,fun k aa=>by obtain rfl:=td aa;exact .inr (.inr (.inr ⟨rfl,⟨m,rfl⟩,J,av⟩)),fun k aa=>by simp[look]at aa,fun k aa=>by simp at aa;subst aa;exact .inr ⟨.inr (.inl rfl),⟨m,rfl⟩,.inl (by simp[look])⟩,fun e=>by simp[dH.mode]at e,fun e=>by simp[dH.mode]at e⟩
  |mput b0 x k v=>simp only[dA]at h;obtain⟨m,cs,cs',_,_,_,rfl⟩:=h;exact⟨rfl,fun k aa=>.inr (.inl rfl),fun k aa=>by simp[look]at aa,fun k aa=>by simp at aa,fun e=>by simp[dH.mode]at e,fun e=>by simp[dH.mode]at e⟩
  |range d key x=>simp only[dA]at h
 |next d x=>simp only[dA]at h
 |opn d f x=>simp only[dA]at h
 |call d f xs=>
  simp only[dA]at h;obtain⟨n,dI,_,h⟩:=h;rcases h with⟨⟨s,aC,r,rm,_,_,_,aj,P7,_,_,rfl⟩,bG⟩|⟨fE,r,rfl,_,_,_,rfl⟩;rotate_left
  ·exact⟨rfl,fun k aa=>by simp[look]at aa,fun k aa=>by simp[look]at aa,fun k aa=>by simp at aa;exact .inl ⟨fE,rfl,aa.symm⟩,fun _ k o aa=>by simp[look]at aa,fun _ k o aa=>by simp[look]at aa⟩
  refine⟨rfl,fun k aa=>.inr (.inr (.inl ⟨rfl,?_,?_⟩)),fun k aa=>.inr (.inr (.inl ⟨rfl,?_,?_⟩)),fun k aa=>.inr ⟨.inl rfl,(P7.2.2.2.2 k aa).1,(P7.2.2.2.2 k aa).2.2.2.2⟩,fun e=>by simp[dH.mode]at e,fun e=>by simp[dH.mode]at e⟩
  ·cases k with
   |loc m=>rw[aj.1 m]at aa;cases aa
   |obj m=>exact⟨m,rfl⟩
  ·cases q with
   |false=>rfl
   |true=>rw[(bG rfl).1]at aa;simp[look]at aa
  ·cases k with
   |loc m=>rw[aj.2 m]at aa;cases aa
   |obj m=>exact⟨m,rfl⟩
  ·cases q with
   |false=>rfl
   |true=>rw[(bG rfl).2]at aa;simp[look]at aa
theorem L5{P:bW}{q:Bool}{n0:Nat}{i:dH}{A A':cU}{x:kq}(h:dA P q n0 i A x)(aI:pE i.looks A.t A'.t)
  (aE:i.mode= .l->∀k,(q=true\/ ∃m,k= .loc m)->A.b k≠none->A'.b k=A.b k) (vO:i.mode= .m->∀k,A.b k≠none->A'.b k=A.b k)
  (abg:i.mode= .l->q=true->∀k o,A.e k=some o->o.xs≠none->A'.e k=some o)
  (aK:∀d,i.dst=some d->(i.mode= .n\/i.mode= .s\/i.mode= .a\/i.mode= .c)->(A.F (.loc (n0+d))/\A.b (.loc (n0+d))=none/\A.e (.loc (n0+d))=none)->(A'.F (.loc (n0+d))/\A'.b (.loc (n0+d))=none/\A'.e (.loc (n0+d))=none))
  (b4:i.mode= .a->∀k o,A.e k=some o->A'.e k=some o) (hw:i.mode= .w->∀k,A'.b k=A.b k) (xT:i.mode= .z->(∀m,(A.F (.obj m)/\A.b (.obj m)=none/\A.e (.obj m)=none)->(A'.F (.obj m)/\A'.b (.obj m)=none/\A'.e (.obj m)=none))/\∀k,A'.e k=A.e k) (Fa:i.mode= .k->∀m,(A.F (.obj m)/\A.b (.obj m)=none/\A.e (.obj m)=none)->(A'.F (.obj m)/\A'.b (.obj m)=none/\A'.e (.obj m)=none)) (BY:i.mode= .r->∀k o,A.e k=some o->o.xs≠none->A'.e k=some o)
  (aD:i.mode= .c->∀m,A'.b (.obj m)=A.b (.obj m)/\A'.e (.obj m)=A.e (.obj m)/\(A.F (.obj m)->A'.F (.obj m))):dA P q n0 i A' x:=by
 cases i with
 |s i=>
  cases i with
  |v d i=>
   simp only[dA]at h⊢;obtain⟨c,p,I,J,av,aV⟩:=h;by_cases hB:∃agg sz y,i= .loadB agg sz y
   ·obtain⟨agg,sz,y,rfl⟩:=hB;simp only[dH.looks,dG.looks,fD.looks]at aI;have xB:=fN aI;refine⟨c,p,?_,J,fun _=>.inl rfl,aV⟩;rw[<-I];simp only[po,<-xB];have hm:=vO (by simp[dH.mode]);simp only[po]at I;cases bq:dc A.t y<;>simp only[r0];rename_i key off;rw[bq]at I;simp only[r0]at I;cases af:A.b key with
    |none=>simp[af]at I
    |some cs=>have:A'.b key=A.b key:=hm key (by rw[af];simp);rw[this,af]
   by_cases Eo:∃b0 zero ok y z,i= .mgetB b0 zero ok y z
   ·obtain⟨b0,zero,ok,y,z,rfl⟩:=Eo;simp only[dH.looks,dG.looks,fD.looks]at aI;obtain⟨t1,t2⟩:=jP aI;refine⟨c,p,?_,J,fun _=>.inl rfl,aV⟩;simp only[po]at I⊢;rw[<-fN t1,<-fN t2];exact RB (vO (by simp[dH.mode])) I
   replace av:i.isLoad=true->q=true\/xV (i.ptrOf A.t)=true:=fun ny=>(av ny).resolve_left (fun af=>by cases i<;>simp[fD.isB]at af;exact hB ⟨_,_,_,rfl⟩;exact Eo ⟨_,_,_,_,_,rfl⟩);have aa3:i.isLoad=true->(dH.s (.v d i)).mode= .l:=by intro ny;cases i<;>simp only[fD.isLoad]at ny<;>first|(cases ny;done)|(simp[dH.mode,fD.isLoad];done)|exact absurd ⟨_,_,_,rfl⟩ hB|exact absurd ⟨_,_,_,_,_,rfl⟩ Eo
   by_cases ny:i.isLoad=true
   ·have bG:∀(bq:xV (i.ptrOf A.t)=false),∀k,A.b k≠none->A'.b k=A.b k:=fun bq k aa=>aE (aa3 ny) k (.inl ((av ny).resolve_right (by rw[bq];simp))) aa;cases i<;>simp only[fD.isLoad]at ny<;>try(cases ny;done)
    case mget b0 zero ok y z=>simp only[dH.looks,dG.looks,fD.looks]at aI;obtain⟨t1,t2⟩:=jP aI;refine⟨c,p,?_,J,fun _=>.inr (av rfl),aV⟩;simp only[po]at I⊢;rw[<-fN t1,<-fN t2];exact RB (bG rfl) I
    case ment y=>simp only[dH.looks,dG.looks,fD.looks]at aI;refine⟨c,p,?_,J,fun _=>.inr (av rfl),aV⟩;simp only[po]at I⊢;rw[<-fN aI];exact acK (bG rfl) I
    case mlen y=>simp only[dH.looks,dG.looks,fD.looks]at aI;refine⟨c,p,?_,J,fun _=>.inr (av rfl),aV⟩;simp only[po]at I⊢;rw[<-fN aI];exact acP (bG rfl) I
    case loadB agg sz y=>exact absurd ⟨_,_,_,rfl⟩ hB
    case mgetB=>exact absurd ⟨_,_,_,_,_,rfl⟩ Eo
    rename_i agg sz y;simp only[dH.looks,dG.looks,fD.looks]at aI;have xB:=fN aI;refine⟨c,p,?_,J,fun _=>.inr (by have:=av rfl;simpa only[fD.ptrOf,<-xB]using this),aV⟩;rw[<-I];simp only[po,<-xB];have hm:=aE (by simp[dH.mode,fD.isLoad]);simp only[po]at I;have Bn:=av rfl;simp only[fD.ptrOf]at Bn;cases bq:dc A.t y<;>simp only[r0]
    ·rename_i key off;rw[bq]at I Bn;simp only[r0]at I;cases af:A.b key with
     |none=>simp[af]at I
     |some cs=>have:A'.b key=A.b key:=hm key (by rcases Bn with h|h;exact .inl h;cases key;exact .inr ⟨_,rfl⟩;simp[xV]at h) (by rw[af];simp);rw[this,af]
    ·rename_i dj key n i f;rw[bq]at I Bn;simp only[r0]at I;have BU:q=true:=Bn.resolve_right (by simp[xV]);unfold yl at I;split at I
     ·rename_i n' el hR xs he;rw[he,abg (by simp[dH.mode,fD.isLoad]) BU key _ he Ψ]
     ·cases I
   ·have ny:i.isLoad=false:=by simpa using ny
    refine⟨c,p,?_,J,(fun e=>by rw[ny]at e;cases e),aV⟩;rw[<-I];exact(af4 (by simpa only[dH.looks,dG.looks]using aI) ny).symm
  |box d key v=>
   cases key with
   |some m=>simp only[dA]at h
   |none=>simp only[dA,dH.looks,dG.looks]at h aI⊢;obtain⟨I,J,av⟩:=h;rw[<-fN aI];exact⟨aK d rfl (.inl rfl) I,J,av⟩
  |alloc d key z=>
   cases key with
   |some m=>simp only[dA]at h
   |none=>simp only[dA]at h⊢;exact⟨aK d rfl (.inl rfl) h.1,h.2⟩
  |store sz u v=>simp only[dA,dH.looks,dG.looks]at h aI⊢;obtain⟨I,J⟩:=jP aI;rw[<-fN I,<-fN J];obtain⟨k,off,cs,g1,g2,g3,g4⟩:=h;exact⟨k,off,cs,g1,by rw[hw rfl];exact g2,g3,g4⟩
  |bsl d sz el xs=>simp only[dA,dH.looks,dG.looks]at h aI⊢;rw[<-Ct aI];exact⟨aK d rfl (.inr (.inl rfl)) h.1,h.2⟩
  |app d sz el u v=>
   simp only[dA,dH.looks,dG.looks]at h aI⊢;obtain⟨I,J⟩:=jP aI;rw[<-fN I,<-fN J];obtain⟨tag,xs,gG,ys,g1,g2,h⟩:=h;refine⟨tag,xs,gG,ys,g1,g2,?_⟩;rcases h with⟨k,o,aq,aU,bR⟩|⟨aq,aU,bR,ds⟩
   ·exact .inl ⟨k,o,aq,b4 rfl k o aU,bR⟩
   ·exact .inr ⟨aq,aU,aK d rfl (.inr (.inr (.inl rfl))) bR,ds⟩
  |bslm d key sz el xs=>
   cases key with
   |none=>simp only[dA]at h
   |some m=>simp only[dA,dH.looks,dG.looks]at h aI⊢;rw[<-Ct aI];exact⟨(xT rfl).1 m h.1,h.2⟩
  |mks d key sz el z x=>simp only[dA]at h
  |apps d el x y=>simp only[dA]at h
  |appm d key sz el u v=>
   cases key with
   |none=>simp only[dA,dH.looks,dG.looks]at h aI⊢;obtain⟨I,J⟩:=jP aI;rw[<-fN I,<-fN J];obtain⟨k,n,xs,gG,ys,g1,g2,g3,g4,g5⟩:=h;exact⟨k,n,xs,gG,ys,g1,g2,BY rfl k _ g3 Ψ,g4,g5⟩
   |some m=>
    simp only[dA,dH.looks,dG.looks]at h aI⊢;obtain⟨I,J⟩:=jP aI;rw[<-fN I,<-fN J];rcases h with⟨k,n,xs,gG,ys,g1,g2,g3,g4,g5⟩|⟨xs,gG,ys,g1,g2,g3,g4⟩
    ·exact .inl ⟨k,n,xs,gG,ys,g1,g2,by rw[(xT rfl).2];exact g3,g4,g5⟩
    ·exact .inr ⟨xs,gG,ys,g1,g2,(xT rfl).1 m g3,g4⟩
  |storeE sz u v=>simp only[dA,dH.looks,dG.looks]at h aI⊢;obtain⟨I,J⟩:=jP aI;rw[<-fN I,<-fN J];obtain⟨k,n,i,f,el,dj,xs,q,g1,g2,g3⟩:=h;exact⟨k,n,i,f,el,dj,xs,q,g1,BY rfl k _ g2 Ψ,g3⟩
  |mkmap d key=>
   cases key with
   |none=>simp only[dA]at h
   |some m=>simp only[dA]at h⊢;exact⟨Fa rfl m h.1,h.2⟩
  |mput b0 u k v=>simp only[dA,dH.looks,dG.looks]at h aI⊢;obtain⟨t1,t3⟩:=jP aI;obtain⟨t1,t2⟩:=jP t1;obtain⟨m,cs,cs',g1,g2,g3,g4⟩:=h;rw[<-fN t1,<-fN t2,<-fN t3];exact⟨m,cs,cs',g1,by rw[hw rfl];exact g2,g3,g4⟩
  |range d key x=>simp only[dA]at h
 |next d x=>simp only[dA]at h
 |opn d f x=>simp only[dA]at h
 |call d f xs=>
  simp only[dA,dH.looks]at h aI⊢;obtain⟨I,J⟩:=jP aI;rw[<-fN I,<-Ct J];obtain⟨n,dI,g1,h⟩:=h;rcases h with⟨⟨s,aC,r,rm,cJ,c2,c3,c4,c5,iI⟩,g3⟩|⟨fE,r,rfl,cJ,c2⟩;rotate_left
  ·exact⟨n,dI,g1,.inr ⟨fE,r,rfl,aK fE rfl (.inr (.inr (.inr rfl))) cJ,c2⟩⟩
  refine⟨n,dI,g1,.inl ⟨⟨s,aC,r,rm,fun k cs aa=>?_,fun k o aa=>?_,c3,c4,⟨c5.1,c5.2.1,c5.2.2.1,c5.2.2.2.1,fun k aa=>?_⟩,iI⟩,g3⟩⟩
  ·cases k with
   |loc m=>rw[c3.1 m]at aa;cases aa
   |obj m=>rw[(aD rfl m).1];exact cJ _ _ aa
  ·cases k with
   |loc m=>rw[c3.2 m]at aa;cases aa
   |obj m=>rw[(aD rfl m).2.1];exact c2 _ _ aa
  ·obtain⟨⟨j,rfl⟩,d2,d3,d4,d5⟩:=c5.2.2.2.2 k aa;exact⟨⟨j,rfl⟩,(aD rfl j).2.2 d2,by rw[(aD rfl j).1];exact d3,by rw[(aD rfl j).2.1];exact d4,d5⟩
def kY(d:be Nat):kq:=⟨d,.tuple [],[],[],none⟩
def kr(P:bW)(q:Bool)(n0:Nat)(g:cL)(A:cU)(x:kq):Prop:=
 match g.g with
 |none=>dA P q n0 g.i A x
 |some (s,w)=>match A.t s with
  | .bool b=>(b=w/\dA P q n0 g.i A x)\/(b= !w/\x=kY g.i.dst)
  | .tuple []=>x=kY g.i.dst
  |_=>dK
def ep:AG->AG->Bool
 | .v,_=>true
 |_,.v=>true
 | .l,.l| .l,.n| .l,.s| .l,.a| .l,.c=>true
 | .n,.n| .n,.s| .n,.a| .n,.c=>true
 | .s,.l| .s,.n| .s,.s| .s,.c=>true
 | .a,.l| .a,.n| .a,.s=>true
 | .c,.l| .c,.n| .c,.s=>true
 | .l,.m| .m,.l| .m,.m| .m,.n| .m,.s| .m,.a| .s,.m| .a,.m=>true
 | .l,.k| .m,.k| .n,.k| .s,.k=>true
 | .m,.r| .r,.m| .r,.n| .r,.s| .n,.r| .s,.r| .r,.w| .w,.r=>true
 | .m,.z| .z,.m| .z,.n=>true
 |_,_=>false
def zg(g h:cL):Bool:=(match g.i.dst with|some d=> !(h.looks.contains d)&&h.i.dst !=some d|none=>true)&&(match h.i.dst with|some d=> !(g.looks.contains d)|none=>true)&&ep g.i.mode h.i.mode
theorem T0(q:Bool)(n0:Nat)(m:AG)(d:be Nat)(A:cU):GP q n0 m d A (kY d):=⟨rfl,fun k aa=>by simp[kY,look]at aa,fun k aa=>by simp[kY,look]at aa,fun k aa=>by simp[kY]at aa,fun _ k o aa=>by simp[kY,look]at aa,fun _ k o aa=>by simp[kY,look]at aa⟩
theorem Lq{P:bW}{q:Bool}{n0:Nat}{g:cL}{A:cU}{x:kq}(h:kr P q n0 g A x):GP q n0 g.i.mode g.i.dst A x:=by
 unfold kr at h;split at h
 ·exact TZ h
 ·split at h
  ·rcases h with⟨_,h⟩|⟨_,rfl⟩
   ·exact TZ h
   ·exact T0 _ _ _ _ _
  ·subst h;exact T0 _ _ _ _ _
  ·exact h.elim
theorem ry{A:cU}{x:kq}{k:aJ}(h:look k x.bw=none):(A.do x).b k=A.b k:=by simp[cU.do,ic,h]
theorem pH{A:cU}{x:kq}{k:aJ}(h:look k x.ew=none):(A.do x).e k=A.e k:=by simp[cU.do,ic,h]
theorem DR{A:cU}{x:kq}{k:aJ}(h:(A.do x).b k=none):A.b k=none:=by
 simp only[cU.do,ic]at h;split at h
 ·cases h
 ·exact h
theorem DS{A:cU}{x:kq}{k:aJ}(h:(A.do x).e k=none):A.e k=none:=by
 simp only[cU.do,ic]at h;split at h
 ·cases h
 ·exact h
theorem jX{α:Type}{o:be α}(h:¬o.isSome):o=none:=by cases o<;>simp at h⊢
theorem L7{P:bW}{q:Bool}{n0:Nat}{g:cL}{A A':cU}{x:kq}(h:kr P q n0 g A x)(aI:pE g.looks A.t A'.t)(hm:dA P q n0 g.i A x->dA P q n0 g.i A' x):kr P q n0 g A' x:=by
 unfold kr at h⊢;cases aO:g.g with
 |none=>simp only[aO]at h⊢;exact hm h
 |some yu=>
  obtain⟨s,w⟩:=yu;have:A.t s=A'.t s:=aI s (by simp[cL.looks,aO]);simp only[aO,this]at h⊢;split at h
  ·rcases h with⟨I,J⟩|h
   ·exact .inl ⟨I,hm J⟩
   ·exact .inr h
  ·exact h
  ·exact h
theorem afU{P:bW}{q:Bool}{n0:Nat}{g h:cL}(PW:zg g h=true){A:cU}{x y:kq}(ad:kr P q n0 g A x)(bC:kr P q n0 h (A.do x) y):
  kr P q n0 h A y/\kr P q n0 g (A.do y) x/\x.apart y:=by
 simp only[zg,bB]at PW;obtain⟨⟨lL,ky⟩,hm⟩:=PW;have pj:=Lq ad;have cE:∀d jR,g.i.dst=some d->h.i.dst=some jR->d≠jR:=by intro d jR aq aU e;simp only[aq,bB,bne_iff_ne]at lL;exact lL.2 (by rw[aU,e])
 have zn:pE h.looks (A.do x).t A.t:=by intro i aw;simp only[cU.do];rw[bf];intro e;rw[pj.d]at e;simp only[e,bB,Bool.not_eq_true',List.contains_eq_mem,decide_eq_false_iff_not]at lL;exact lL.1 aw
 have vP:∀k,(look k x.bw).isSome->_:=pj.b;have hle:∀k,(look k x.ew).isSome->_:=pj.e;have Q9:kr P q n0 h A y:=by
  refine L7 bC zn fun Ii=>L5 Ii (fun i aw=>zn i (by simp[cL.looks,aw])) (fun e k aa af=>?_) (fun e k af=>?_) (fun e bG k o aj ey=>?_) (fun d a7 IZ iK=>?_) (fun e k o aj=>?_) (fun e k=>?_) (fun e=>⟨fun m iK=>⟨iK.1.1,DR iK.2.1,DS iK.2.2⟩,fun k=>?_⟩) (fun e m iK=>⟨iK.1.1,DR iK.2.1,DS iK.2.2⟩) (fun e k o aj ey=>?_) (fun e m=>?_)
  ·rw[ry (jX fun ao=>?_)];rcases vP k ao with⟨aq,_⟩|aq|⟨aq,⟨j,aU⟩,bR⟩|⟨aq,_⟩;rotate_left 3
   ·rw[e,aq]at hm;simp[ep]at hm
   ·rw[e,aq]at hm;simp[ep]at hm
   ·rw[e,aq]at hm;simp[ep]at hm
   ·rcases aa with aa|⟨m,aa⟩
    ·rw[aa]at bR;cases bR
    ·rw[aa]at aU;cases aU
  ·rw[ry (jX fun ao=>?_)];rcases vP k ao with⟨aq,_⟩|aq|⟨aq,_⟩|⟨aq,_⟩<;>(rw[e,aq]at hm;simp[ep]at hm)
  ·rw[e]at hm;cases ih:look k x.ew with
   |none=>rw[pH ih]at aj;exact aj
   |some o'=>
    exfalso;have I2:(A.do x).e k=some o':=by simp[cU.do,ic,ih]
    rw[I2]at aj;cases aj;rcases hle k (by simp[ih])with⟨aq,_⟩|⟨aq,_⟩|⟨aq,_,bR⟩|⟨aq,_⟩|aq
    ·exact ey (pj.xn (.inr aq) k _ ih)
    ·exact ey (pj.xn (.inl aq) k _ ih)
    ·rw[bG]at bR;cases bR
    ·rw[aq]at hm;simp[ep]at hm
    ·rw[aq]at hm;simp[ep]at hm
  ·exact⟨iK.1.1,DR iK.2.1,DS iK.2.2⟩
  ·rw[pH (jX fun ao=>?_)]at aj
   ·exact aj
   ·rw[e]at hm;rcases hle k ao with⟨aq,_⟩|⟨aq,_⟩|⟨aq,_⟩|⟨aq,_⟩|aq<;>(rw[aq]at hm;simp[ep]at hm)
  ·rw[ry (jX fun ao=>?_)];rw[e]at hm;rcases vP k ao with⟨aq,_⟩|aq|⟨aq,_⟩|⟨aq,_⟩<;>(rw[aq]at hm;simp[ep]at hm)
  ·rw[pH (jX fun ao=>?_)];rw[e]at hm;rcases hle k ao with⟨aq,_⟩|⟨aq,_⟩|⟨aq,_⟩|⟨aq,_⟩|aq<;>(rw[aq]at hm;simp[ep]at hm)
  ·rw[e]at hm;cases ih:look k x.ew with
   |none=>rw[pH ih]at aj;exact aj
   |some o'=>
    exfalso;have I2:(A.do x).e k=some o':=by simp[cU.do,ic,ih]
    rw[I2]at aj;cases aj;rcases hle k (by simp[ih])with⟨aq,_⟩|⟨aq,_⟩|⟨aq,_⟩|⟨aq,_⟩|aq
    ·exact ey (pj.xn (.inr aq) k _ ih)
    ·rw[aq]at hm;simp[ep]at hm
    ·rw[aq]at hm;simp[ep]at hm
    ·rw[aq]at hm;simp[ep]at hm
    ·rw[aq]at hm;simp[ep]at hm
  ·rw[e]at hm;refine⟨?_,?_,fun eW=>eW.1⟩
   ·rw[ry (jX fun ao=>?_)];rcases vP _ ao with⟨aq,d,_,aU,_⟩|aq|⟨aq,_⟩|⟨aq,_⟩;rotate_left 3
    ·rw[aq]at hm;simp[ep]at hm
    ·cases aU
    ·rw[aq]at hm;simp[ep]at hm
    ·rw[aq]at hm;simp[ep]at hm
   ·rw[pH (jX fun ao=>?_)];rcases hle _ ao with⟨aq,d,_,aU,_⟩|⟨aq,_⟩|⟨aq,_⟩|⟨aq,_⟩|aq
    ·cases aU
    ·rw[aq]at hm;simp[ep]at hm
    ·rw[aq]at hm;simp[ep]at hm
    ·rw[aq]at hm;simp[ep]at hm
    ·rw[aq]at hm;simp[ep]at hm
 have ty:=Lq Q9;have PI:pE g.looks A.t (A.do y).t:=by intro i aw;simp only[cU.do];rw[bf];intro e;rw[ty.d]at e;simp only[e,Bool.not_eq_true',List.contains_eq_mem,decide_eq_false_iff_not]at ky;exact ky aw
 refine⟨Q9,?_,?_⟩
 ·refine L7 ad PI fun Ii=>L5 Ii (fun i aw=>PI i (by simp[cL.looks,aw])) (fun e k aa af=>?_) (fun e k af=>?_) (fun e bG k o aj ey=>?_) (fun d a7 IZ iK=>?_) (fun e k o aj=>?_) (fun e k=>?_) (fun e=>⟨fun m iK=>?_,fun k=>?_⟩) (fun e m iK=>?_) (fun e k o aj ey=>?_) (fun e m=>?_)
  ·refine ry (jX fun ao=>?_);rcases ty.b k ao with⟨aq,d,_,_,aU,_⟩|aq|⟨aq,⟨j,aU⟩,bR⟩|⟨_,_,aU,_⟩;rotate_left 3
   ·exact af aU
   ·exact af aU
   ·rw[e,aq]at hm;simp[ep]at hm
   ·rcases aa with aa|⟨m,aa⟩
    ·rw[aa]at bR;cases bR
    ·rw[aa]at aU;cases aU
  ·refine ry (jX fun ao=>?_);rcases ty.b k ao with⟨aq,d,_,_,aU,_⟩|aq|⟨aq,_⟩|⟨_,_,aU,_⟩;rotate_left 3
   ·exact af aU
   ·exact af aU
   ·rw[e,aq]at hm;simp[ep]at hm
   ·rw[e,aq]at hm;simp[ep]at hm
  ·rw[pH (jX fun ao=>?_)]
   ·exact aj
   ·rcases ty.e k ao with⟨aq,d,_,_,_,aU⟩|⟨aq,aU⟩|⟨aq,_,bR⟩|⟨aq,_⟩|aq
    ·rw[aU]at aj;cases aj
    ·exact ey (ty.ex aq k o ao aj)
    ·rw[bG]at bR;cases bR
    ·rw[e,aq]at hm;simp[ep]at hm
    ·rw[e,aq]at hm;simp[ep]at hm
  ·refine⟨⟨iK.1,fun rA=>?_⟩,?_,?_⟩
   ·rcases ty.r _ rA with⟨jR,aq,aU⟩|⟨_,⟨j,aU⟩,_⟩
    ·simp only[aJ.loc.injEq]at aU;exact cE d jR a7 aq Ω
    ·cases aU
   ·rw[ry (jX fun ao=>?_)]
    ·exact iK.2.1
    ·rcases ty.b _ ao with⟨aq,jR,aU,bR,_⟩|aq|⟨aq,⟨j,aU⟩,_⟩|⟨aq,⟨j,aU⟩,_⟩;rotate_left 3
     ·cases aU
     ·simp only[aJ.loc.injEq]at bR;exact cE d jR a7 aU Ω
     ·rcases IZ with aU|aU|aU|aU<;>(rw[aq,aU]at hm;simp[ep]at hm)
     ·cases aU
   ·rw[pH (jX fun ao=>?_)]
    ·exact iK.2.2
    ·rcases ty.e _ ao with⟨aq,jR,aU,bR,_⟩|⟨aq,aU⟩|⟨aq,⟨j,aU⟩,_⟩|⟨aq,o,aU,_⟩|aq;rotate_left 4
     ·rcases IZ with aU|aU|aU|aU<;>(rw[aq,aU]at hm;simp[ep]at hm)
     ·simp only[aJ.loc.injEq]at bR;exact cE d jR a7 aU Ω
     ·rcases aU with aU|⟨jR,aU,bR,_⟩
      ·exact aU iK.2.2
      ·simp only[aJ.loc.injEq]at bR;exact cE d jR a7 aU Ω
     ·cases aU
     ·rw[iK.2.2]at aU;cases aU
  ·rw[pH (jX fun ao=>?_)]
   ·exact aj
   ·rw[e]at hm;rcases ty.e k ao with⟨aq,d,_,_,_,aU⟩|⟨aq,_⟩|⟨aq,_⟩|⟨aq,_⟩|aq
    ·rw[aU]at aj;cases aj
    ·rw[aq]at hm;simp[ep]at hm
    ·rw[aq]at hm;simp[ep]at hm
    ·rw[aq]at hm;simp[ep]at hm
    ·rw[aq]at hm;simp[ep]at hm
  ·refine ry (jX fun ao=>?_);rw[e]at hm;rcases ty.b k ao with⟨aq,_⟩|aq|⟨aq,_⟩|⟨aq,_⟩<;>(rw[aq]at hm;simp[ep]at hm)
  ·rw[e]at hm;refine⟨⟨iK.1,fun rA=>?_⟩,?_,?_⟩
   ·rcases ty.r _ rA with⟨jR,aq,aU⟩|⟨aq|aq|aq,_⟩
    ·cases aU
    ·rw[aq]at hm;simp[ep]at hm
    ·rw[aq]at hm;simp[ep]at hm
    ·rw[aq]at hm;simp[ep]at hm
   ·rw[ry (jX fun ao=>?_)]
    ·exact iK.2.1
    ·rcases ty.b _ ao with⟨aq,d,_,aU,_⟩|aq|⟨aq,_⟩|⟨aq,_⟩
     ·cases aU
     all_goals(rw[aq]at hm;simp[ep]at hm)
   ·rw[pH (jX fun ao=>?_)]
    ·exact iK.2.2
    ·rcases ty.e _ ao with⟨aq,_⟩|⟨aq,_⟩|⟨aq,_⟩|⟨aq,_⟩|aq<;>(rw[aq]at hm;simp[ep]at hm)
  ·rw[pH (jX fun ao=>?_)];rw[e]at hm;rcases ty.e _ ao with⟨aq,_⟩|⟨aq,_⟩|⟨aq,_⟩|⟨aq,_⟩|aq<;>(rw[aq]at hm;simp[ep]at hm)
  ·rw[e]at hm;refine⟨⟨iK.1,fun rA=>?_⟩,?_,?_⟩
   ·rcases ty.r _ rA with⟨jR,aq,aU⟩|⟨aq|aq|aq,_⟩
    ·cases aU
    ·rw[aq]at hm;simp[ep]at hm
    ·rw[aq]at hm;simp[ep]at hm
    ·rw[aq]at hm;simp[ep]at hm
   ·rw[ry (jX fun ao=>?_)]
    ·exact iK.2.1
    ·rcases ty.b _ ao with⟨aq,_⟩|aq|⟨aq,_⟩|⟨aq,_⟩<;>(rw[aq]at hm;simp[ep]at hm)
   ·rw[pH (jX fun ao=>?_)]
    ·exact iK.2.2
    ·rcases ty.e _ ao with⟨aq,_⟩|⟨aq,_⟩|⟨aq,_⟩|⟨aq,o,aU,_⟩|aq
     ·rw[aq]at hm;simp[ep]at hm
     ·rw[aq]at hm;simp[ep]at hm
     ·rw[aq]at hm;simp[ep]at hm
     ·rw[iK.2.2]at aU;cases aU
     ·rw[aq]at hm;simp[ep]at hm
  ·rw[pH (jX fun ao=>?_)]
   ·exact aj
   ·rw[e]at hm;rcases ty.e k ao with⟨aq,d,_,_,_,aU⟩|⟨aq,_⟩|⟨aq,_⟩|⟨aq,_⟩|aq
    ·rw[aU]at aj;cases aj
    ·rw[aq]at hm;simp[ep]at hm
    ·rw[aq]at hm;simp[ep]at hm
    ·rw[aq]at hm;simp[ep]at hm
    ·rw[aq]at hm;simp[ep]at hm
  ·rw[e]at hm;refine⟨?_,?_,fun eW=>⟨eW,fun rA=>?_⟩⟩;rotate_left 2
   ·rcases ty.r _ rA with⟨jR,_,aU⟩|⟨aU|aU|aU,_⟩
    ·cases aU
    ·rw[aU]at hm;simp[ep]at hm
    ·rw[aU]at hm;simp[ep]at hm
    ·rw[aU]at hm;simp[ep]at hm
   ·refine ry (jX fun ao=>?_);rcases ty.b _ ao with⟨aq,d,_,aU,_⟩|aq|⟨aq,_⟩|⟨aq,_⟩;rotate_left 3
    ·rw[aq]at hm;simp[ep]at hm
    ·cases aU
    ·rw[aq]at hm;simp[ep]at hm
    ·rw[aq]at hm;simp[ep]at hm
   ·refine pH (jX fun ao=>?_);rcases ty.e _ ao with⟨aq,d,_,aU,_⟩|⟨aq,_⟩|⟨aq,_⟩|⟨aq,_⟩|aq
    ·cases aU
    ·rw[aq]at hm;simp[ep]at hm
    ·rw[aq]at hm;simp[ep]at hm
    ·rw[aq]at hm;simp[ep]at hm
    ·rw[aq]at hm;simp[ep]at hm
 ·refine⟨fun i aw e=>?_,fun k aa=>jX fun ao=>?_,fun k aa=>jX fun ao=>?_⟩
  ·rw[pj.d]at aw;rw[ty.d]at e;exact cE i i aw e rfl
  ·rcases vP k aa with⟨bV,d,a2,a3,_⟩|bV|⟨bV,⟨j,a2⟩,_⟩|⟨bV,_⟩<;>rcases ty.b k ao with⟨bQ,jR,b3,eV,_⟩|bQ|⟨bQ,⟨e4,b3⟩,_⟩|⟨bQ,⟨e4,b3⟩,_⟩;all_goals first|(rw[bV,bQ]at hm;simp[ep]at hm;done)|skip
   ·rw[a3]at eV;simp only[aJ.loc.injEq]at eV;exact cE d jR a2 b3 Ω
   ·rw[a3]at b3;cases b3
   ·rw[a3]at b3;cases b3
   ·rw[a2]at eV;cases eV
  ·rcases hle k aa with⟨bV,d,a2,a3,_,a4⟩|⟨bV,a2⟩|⟨bV,⟨j,a2⟩,_⟩|⟨bV,lZ,a2,_⟩|bV<;>rcases ty.e k ao with⟨bQ,jR,b3,eV,_,l7⟩|⟨bQ,b3⟩|⟨bQ,⟨e4,b3⟩,_⟩|⟨bQ,kh,b3,_⟩|bQ;all_goals first|(rw[bV,bQ]at hm;simp[ep]at hm;done)|skip
   ·rw[a3]at eV;simp only[aJ.loc.injEq]at eV;exact cE d jR a2 b3 Ω
   ·rw[a3]at b3;cases b3
   ·rw[a4]at b3;cases b3
   ·rcases a2 with a2|⟨d,a2,a3,_⟩
    ·exact a2 l7
    ·rw[a3]at eV;simp only[aJ.loc.injEq]at eV;exact cE d jR a2 b3 Ω
   ·rw[a2]at eV;cases eV
   ·rw[l7]at a2;cases a2
def wN(C:eH)(A:cU)(a:Act)(w:World):Prop:= ∃st ν,k3 st A/\(∀k,A.F k->fresh st.n st.o k)/\ct C st a w ν
theorem JM{st:bb}{A:cU}(h:k3 st A)(d:Nat)(p:ag):k3 {st with t:=put d p st.t} (A.do ⟨some d,p,[],[],none⟩):=by
 refine⟨fun i=>?_,fun k=>?_,fun k=>?_⟩
 ·simp only[cU.do,pM,dL,h.t]
 ·simpa[cU.do,ic,look]using h.b k
 ·simpa[cU.do,ic,look]using h.e k
theorem Rq{st:bb}{A:cU}(h:k3 st A)(d:Nat)(p:ag)(o':List aJ)(rm:be aJ):k3 {st with t:=put d p st.t,o:=o'} (A.do ⟨some d,p,[],[],rm⟩):=by have:=JM h d p;exact⟨this.t,this.b,this.e⟩
theorem Ux{α:Type}{β:Type}:∀l:List (aJ×α),bu ([]:List (aJ×β)) l=l
 |[]=>rfl
 |(k,x)::r=>by simp[bu,look,Ux r]
theorem zF{st:bb}{A:cU}(h:k3 st A)(d:Nat)(p:ag)(κ:aJ)(cs:List ag)(n':Nat)(o':List aJ)(rm:be aJ):k3 ⟨put d p st.t,cR κ cs st.b,st.e,n',o'⟩ (A.do ⟨some d,p,[(κ,cs)],[],rm⟩):=by
 refine⟨fun i=>?_,fun k=>?_,fun k=>?_⟩
 ·simp only[cU.do,pM,dL,h.t]
 ·simp only[cU.do,ic,look,jr,h.b];by_cases e:κ=k<;>simp[e]
 ·simpa[cU.do,ic,look]using h.e k
theorem Fx{st:bb}{A:cU}(h:k3 st A)(κ:aJ)(cs:List ag)(p:ag):k3 {st with b:=cR κ cs st.b} (A.do ⟨none,p,[(κ,cs)],[],none⟩):=by
 refine⟨fun i=>?_,fun k=>?_,fun k=>?_⟩
 ·simpa[cU.do]using h.t i
 ·simp only[cU.do,ic,look,jr,h.b];by_cases e:κ=k<;>simp[e]
 ·simpa[cU.do,ic,look]using h.e k
theorem o9{st:bb}{A:cU}(h:k3 st A)(d:Nat)(p:ag)(κ:aJ)(o:dw)(n':Nat)(o':List aJ)(rm:be aJ):k3 ⟨put d p st.t,st.b,cR κ o st.e,n',o'⟩ (A.do ⟨some d,p,[],[(κ,o)],rm⟩):=by
 refine⟨fun i=>?_,fun k=>?_,fun k=>?_⟩
 ·simp only[cU.do,pM,dL,h.t]
 ·simpa[cU.do,ic,look]using h.b k
 ·simp only[cU.do,ic,look,jr,h.e];by_cases e:κ=k<;>simp[e]
theorem Rp{st:bb}{A:cU}(h:k3 st A)(κ:aJ)(o:dw)(p:ag):k3 {st with e:=cR κ o st.e} (A.do ⟨none,p,[],[(κ,o)],none⟩):=by
 refine⟨fun i=>?_,fun k=>?_,fun k=>?_⟩
 ·simpa[cU.do]using h.t i
 ·simpa[cU.do,ic,look]using h.b k
 ·simp only[cU.do,ic,look,jr];by_cases e:κ=k<;>simp[e,h.e]
theorem JW{α:Type}{k:aJ}:∀{l:List (aJ×α)},k∈l.map (·.1)->(look k l).isSome
 |[],h=>by simp at h
 |(i,x)::r,h=>by
  simp only[look];split
  ·rfl
  ·rename_i e;simp only[eQ,gH]at h;rcases h with h|h
   ·exact absurd h.symm e
   ·exact JW h
theorem sQ{n:Nat}{o:List aJ}{κ:aJ}:∀j,fresh n (κ::o) j->fresh n o j/\j≠κ:=by intro j al;simp only[fresh,gH,not_or]at al⊢;exact⟨⟨al.1,al.2.2⟩,al.2.1⟩
theorem YM{n:Nat}{o:List aJ}{κ j:aJ}(h:fresh n o j)(al:some κ≠some j):fresh n (κ::o) j:=by simp only[fresh,gH,not_or]at h⊢;exact⟨h.1,fun e=>al (by rw[e]),h.2⟩
theorem L6{P:bW}{bs:List (Nat×du)}(aI:fS P bs=true){C:eH}{q:Bool}{n0:Nat}{i:dH}{o:Oper}(aj:tn C.N bs i o=true){A:cU}{x:kq}(ad:dA P q n0 i A x){a:Act}{w:World}(hr:wN C A a w)
  {K:Act->World->Prop} {Q:Exit->Act->World->Prop} (dk:∀cV w',wN C (A.do x) cV w'->K cV w'):o.wp P a w K Q:=by
 obtain⟨st,ν,aE,eW,hr⟩:=hr;have vE:∀(t:List (Nat×ag)) (b:List (aJ×List ag)) (e:List (aJ×dw)) (d:be Nat) (p:ag) (bw:List (aJ×List ag)) (ew:List (aJ×dw)),∀k,(A.do ⟨d,p,bw,ew,none⟩).F k->fresh st.n st.o k:=fun t b e d p bw ew k aa=>eW k aa.1;have mL:∀(d:be Nat) (p:ag) (bw:List (aJ×List ag)) (ew:List (aJ×dw)) (κ:aJ),∀k,(A.do ⟨d,p,bw,ew,some κ⟩).F k->fresh st.n (κ::st.o) k:=fun d p bw ew κ k aa=>YM (eW k aa.1) aa.2;cases i with
 |s i=>
  have hN:q0 C.N bs i o=true:=by simpa only[tn]using aj
  cases i with
  |v d i=>simp only[dA]at ad;obtain⟨c,p,I,J,_,rfl⟩:=ad;rw[<-T7 aE]at I;refine iE (κ:= .loc 0) (n':=0) (o₁:=[]) aI hr hN (fun h=>by simp[dG.makes]at h) (fun h=>by simp[dG.makes]at h) (st':={st with t:=put d p st.t}) (by simp only[dY,I]) J fun cV w' ν' cr=>dk _ _ ⟨_,ν',JM aE d p,fun k aa=>eW k aa.1,cr⟩
  |box d key v=>
   cases key with
   |some m=>simp only[dA]at ad
   |none=>simp only[dA]at ad;obtain⟨⟨I,_⟩,J,rfl⟩:=ad;rw[<-hG aE]at J;refine iE (κ:= .loc (n0+d)) (n':=st.n) (o₁:= .loc (n0+d)::st.o) aI hr hN (fun _=>eW _ I) (fun _=>sQ) (st':=⟨put d (.ptr (.loc (n0+d)) 0) st.t,cR (.loc (n0+d)) (cells (bL st.t v)) st.b,st.e,st.n,.loc (n0+d)::st.o⟩) (by simp only[dY]) J fun cV w' ν' cr=>dk _ _ ⟨_,ν',?_,mL _ _ _ _ _,cr⟩;rw[hG aE];exact zF aE d _ _ _ _ _ _
  |alloc d key z=>
   cases key with
   |some m=>simp only[dA]at ad
   |none=>simp only[dA]at ad;obtain⟨⟨I,_⟩,rfl⟩:=ad;refine iE (κ:= .loc (n0+d)) (n':=st.n) (o₁:= .loc (n0+d)::st.o) aI hr hN (fun _=>eW _ I) (fun _=>sQ) (st':=⟨put d (.ptr (.loc (n0+d)) 0) st.t,cR (.loc (n0+d)) (cells z) st.b,st.e,st.n,.loc (n0+d)::st.o⟩) (by simp only[dY]) trivial fun cV w' ν' cr=>dk _ _ ⟨_,ν',zF aE d _ _ _ _ _ _,mL _ _ _ _ _,cr⟩
  |store sz u v=>simp only[dA]at ad;obtain⟨k,off,cs,I,J,av,rfl⟩:=ad;rw[<-hG aE]at I av;rw[<-aE.b]at J;refine iE (κ:= .loc 0) (n':=0) (o₁:=[]) aI hr hN (fun h=>by simp[dG.makes]at h) (fun h=>by simp[dG.makes]at h) (st':={st with b:=cR k (oz cs off (cells (bL st.t v))) st.b}) (by simp only[dY,I,J]) av fun cV w' ν' cr=>dk _ _ ⟨{st with b:=cR k (oz cs off (cells (bL st.t v))) st.b},ν',by rw[hG aE];exact Fx aE k _ _,fun k aa=>eW k aa.1,cr⟩
  |bsl d sz el xs=>simp only[dA]at ad;obtain⟨⟨I,_⟩,J,rfl⟩:=ad;rw[<-pK aE]at J;refine iE (κ:= .loc (n0+d)) (n':=st.n) (o₁:= .loc (n0+d)::st.o) aI hr hN (fun _=>eW _ I) (fun _=>sQ) (st':=⟨put d (.slice sz (.own (.loc (n0+d))) (xs.map (bL st.t))) st.t,st.b,cR (.loc (n0+d)) ⟨xs.length,el,sz,none⟩ st.e,st.n,.loc (n0+d)::st.o⟩) (by simp only[dY]) J fun cV w' ν' cr=>dk _ _ ⟨_,ν',?_,mL _ _ _ _ _,cr⟩;rw[pK aE];exact o9 aE d _ _ _ _ _ _
  |app d sz el u v=>
   simp only[dA]at ad;obtain⟨tag,xs,gG,ys,I,J,ad⟩:=ad;rw[<-hG aE]at I J;rcases ad with⟨k,ow,rfl,av,aV,rfl⟩|⟨rfl,av,⟨aV,_⟩,rfl⟩
   ·rw[<-aE.e]at av;refine iE (κ:= .loc 0) (n':=0) (o₁:=[]) aI hr hN (fun h=>by simp[dG.makes,I]at h) (fun h=>by simp[dG.makes,I]at h) (st':=⟨put d (.slice sz (.own k) (xs++ys)) st.t,st.b,cR k ⟨xs.length+ys.length,el,sz,none⟩ st.e,st.n,st.o⟩) (by simp only[dY,I,J,av,and_self,if_true]) aV.2 fun cV w' ν' cr=>dk _ _ ⟨_,ν',o9 aE d _ _ _ _ _ _,fun k aa=>eW k aa.1,cr⟩
   ·refine iE (κ:= .loc (n0+d)) (n':=st.n) (o₁:= .loc (n0+d)::st.o) aI hr hN (fun _=>eW _ aV) (fun _=>sQ) (st':=⟨put d (.slice sz (.own (.loc (n0+d))) ys) st.t,st.b,cR (.loc (n0+d)) ⟨ys.length,el,sz,none⟩ st.e,st.n,.loc (n0+d)::st.o⟩) (by simp only[dY,I,J,and_self,if_true]) av fun cV w' ν' cr=>dk _ _ ⟨_,ν',o9 aE d _ _ _ _ _ _,mL _ _ _ _ _,cr⟩
  |bslm d key sz el xs=>
   cases key with
   |none=>simp only[dA]at ad
   |some m=>simp only[dA]at ad;obtain⟨⟨I,_⟩,J,rfl⟩:=ad;rw[<-pK aE]at J;refine iE (κ:= .obj m) (n':=st.n) (o₁:= .obj m::st.o) aI hr hN (fun _=>eW _ I) (fun _=>sQ) (st':=⟨put d (.row sz (.obj m) xs.length) st.t,st.b,cR (.obj m) ⟨xs.length,el,sz,some (xs.map (bL st.t))⟩ st.e,st.n,.obj m::st.o⟩) (by simp only[dY]) J fun cV w' ν' cr=>dk _ _ ⟨_,ν',?_,mL _ _ _ _ _,cr⟩;rw[pK aE];exact o9 aE d _ _ _ _ _ _
  |mks d key sz el z x=>simp only[dA]at ad
  |apps d el x y=>simp only[dA]at ad
  |appm d key sz el u v=>
   cases key with
   |some m=>
    simp only[dA]at ad;rcases ad with⟨k,n,xs,gG,ys,I,J,av,aV,rfl⟩|⟨xs,gG,ys,I,J,⟨av,_⟩,aV,rfl⟩
    ·rw[<-hG aE]at I J;rw[<-aE.e]at av;exact iE (κ:= .loc 0) (n':=0) (o₁:=[]) aI hr hN (fun h=>by simp[dG.makes,I]at h) (fun h=>by simp[dG.makes,I]at h) (st':=⟨put d (.row sz k (xs.length+ys.length)) st.t,st.b,cR k ⟨xs.length+ys.length,el,sz,some (xs++ys)⟩ st.e,st.n,st.o⟩) (by simp only[dY,l6,I,J,av,and_self,if_true]) aV fun cV w' ν' cr=>dk _ _ ⟨_,ν',o9 aE d _ _ _ _ _ _,fun k aa=>eW k aa.1,cr⟩
    rw[<-hG aE]at I J;refine iE (κ:= .obj m) (n':=st.n) (o₁:= .obj m::st.o) aI hr hN (fun _=>eW _ av) (fun _=>sQ) (st':=⟨put d (.row sz (.obj m) ys.length) st.t,st.b,cR (.obj m) ⟨ys.length,el,sz,some ys⟩ st.e,st.n,.obj m::st.o⟩) (by simp only[dY,l6,I,J,and_self,if_true]) aV fun cV w' ν' cr=>dk _ _ ⟨_,ν',o9 aE d _ _ _ _ _ _,mL _ _ _ _ _,cr⟩
   |none=>
   simp only[dA]at ad;obtain⟨k,n,xs,gG,ys,I,J,av,aV,rfl⟩:=ad;rw[<-hG aE]at I J;rw[<-aE.e]at av;refine iE (κ:= .loc 0) (n':=0) (o₁:=[]) aI hr hN (fun h=>by simp[dG.makes,I]at h) (fun h=>by simp[dG.makes,I]at h) (st':=⟨put d (.row sz k (xs.length+ys.length)) st.t,st.b,cR k ⟨xs.length+ys.length,el,sz,some (xs++ys)⟩ st.e,st.n,st.o⟩) (by simp only[dY,l6,I,J,av,and_self,if_true]) aV fun cV w' ν' cr=>dk _ _ ⟨_,ν',o9 aE d _ _ _ _ _ _,fun k aa=>eW k aa.1,cr⟩
  |storeE sz u v=>simp only[dA]at ad;obtain⟨k,n,i,f,el,dj,xs,q,I,J,av,aV,rfl⟩:=ad;rw[<-hG aE]at I aV;rw[<-aE.e]at J;refine iE (κ:= .loc 0) (n':=0) (o₁:=[]) aI hr hN (fun h=>by simp[dG.makes]at h) (fun h=>by simp[dG.makes]at h) (st':={st with e:=cR k ⟨n,el,dj,some (xs.set i (qZ q f (cells (bL st.t v))))⟩ st.e}) (by simp only[dY,q2,I,J,av,and_self,if_true]) aV fun cV w' ν' cr=>dk _ _ ⟨{st with e:=cR k ⟨n,el,dj,some (xs.set i (qZ q f (cells (bL st.t v))))⟩ st.e},ν',by rw[hG aE];exact Rp aE k _ _,fun k aa=>eW k aa.1,cr⟩
  |mkmap d key=>
   cases key with
   |none=>simp only[dA]at ad
   |some m=>simp only[dA]at ad;obtain⟨⟨I,_⟩,rfl⟩:=ad;refine iE (κ:= .obj m) (n':=st.n) (o₁:= .obj m::st.o) (hB:=fun e=>Ml hN (by cases e;rfl)) aI hr hN (fun _=>eW _ I) (fun _=>sQ) (st':=⟨put d (.gmap (.obj m)) st.t,cR (.obj m) [.hdm 0 []] st.b,st.e,st.n,.obj m::st.o⟩) (by simp only[dY]) trivial fun cV w' ν' cr=>dk _ _ ⟨_,ν',zF aE d _ _ _ _ _ _,mL _ _ _ _ _,cr⟩
  |mput b0 u k v=>simp only[dA]at ad;obtain⟨m,cs,cs',I,J,av,rfl⟩:=ad;rw[<-hG aE]at I;rw[<-hG aE,<-hG aE]at av;rw[<-aE.b]at J;exact iE (κ:= .loc 0) (n':=0) (o₁:=[]) aI hr hN (fun h=>by simp[dG.makes]at h) (fun h=>by simp[dG.makes]at h) (st':={st with b:=cR m cs' st.b}) (by simp only[dY,I,J,av]) trivial fun cV w' ν' cr=>dk _ _ ⟨{st with b:=cR m cs' st.b},ν',Fx aE m _ _,fun k aa=>eW k aa.1,cr⟩
  |range d key x=>simp only[dA]at ad
 |next d x=>simp only[dA]at ad
 |opn d f x=>simp only[dA]at ad
 |call d f xs=>
  simp only[dA]at ad;obtain⟨n,dI,I,ad⟩:=ad;rw[<-hG aE]at I;rcases ad with⟨⟨s,aC,r,rm,cJ,c2,c3,c4,c5,iI,jo,rfl⟩,_⟩|⟨fE,r,rfl,cJ,c2,c3,rfl⟩;rotate_left
  ·rw[<-pK aE]at c2 c3;simp only[tn]at aj;split at aj
   ·rename_i mK args ts jU;simp only[bB,dO]at aj;obtain⟨⟨⟨aq,aU⟩,bR⟩,ds⟩:=aj;have mQ:=dT hr bR;rw[I]at mQ;refine ND hr jU aq aU mQ (Ah hr ds) (K:=fun st'=>st'={st with t:=put fE r st.t,o:= .loc (n0+fE)::st.o}) ⟨⟨[],[]⟩,_,some (n0+fE),st.n,fun _=>.loc (n0+fE)::st.o,fun k cs aa=>by simp[look]at aa,fun k cs aa=>by simp[look]at aa,⟨fun _=>rfl,fun _=>rfl⟩,ux (fun _ h=>h.elim) _ c2,c3,fun m hm=>?_,fun k dt aC bG aa=>?_,?_⟩ ?_
    ·cases hm;exact eW _ cJ.1
    ·obtain⟨_,rfl⟩:=bG;have:=sQ k aa;exact⟨by simpa[fY]using this.1,fun m hm=>by cases hm;exact this.2⟩
    ·rintro dt oy ⟨rfl,rfl⟩;refine⟨⟨fun m hm=>by simp[look]at hm,fun m hm=>by simp[look]at hm⟩,?_⟩;simp[after,Ux,e6]
    ·rintro st' cV w' ν' rfl cr;exact dk _ _ ⟨_,ν',Rq aE fE r _ _,mL _ _ _ _ _,cr⟩
   ·cases aj
  rw[<-pK aE]at iI jo;simp only[tn]at aj;split at aj
  ·rename_i mK args ts jU;simp only[bB,dO]at aj;obtain⟨⟨⟨aq,aU⟩,bR⟩,ds⟩:=aj;have mQ:=dT hr bR;rw[I]at mQ;obtain⟨dh,ed,hO,kS,qP⟩:=c5;refine NC hr jU aq aU mQ (Ah hr ds) (K:=fun st'=>st'=after st s aC d r) (.inl ⟨s,_,fun k cs aa=>⟨by rw[aE.b];exact(cJ k cs aa).1,.inl (by simp[aa]),(cJ k cs aa).2⟩,fun k o' aa=>⟨by rw[aE.e];exact(c2 k o' aa).1,.inr (by simp[aa]),(c2 k o' aa).2⟩,c3,iI,jo,?_⟩) ?_
   ·rintro dt oy ⟨rfl,rfl⟩;refine⟨⟨fun m hm=>?_,fun m hm=>?_⟩,rfl⟩
    ·rcases dh _ hm with h|h
     ·exact .inl h
     ·exact .inr (eW _ (qP _ h).2.1).2
    ·rcases ed _ hm with h|h
     ·exact .inl h
     ·exact .inr (eW _ (qP _ h).2.1).2
   ·rintro st' cV w' ν' rfl cr;refine dk _ _ ⟨_,ν',⟨fun i=>?_,fun k=>?_,fun k=>?_⟩,fun k aa=>?_,cr⟩
    ·simp only[after,cU.do];cases d with
     |none=>simpa[e6]using aE.t i
     |some d=>simp only[e6,pM,dL,aE.t]
    ·simp only[after,cU.do,ic,x0,te];by_cases ao:(look k s.b).isSome
     ·have:=hO k ao;obtain⟨y,bC⟩:=fv.1 this;simp[ao,bC]
     ·cases aK:look k aC.b with
      |none=>simp only[ao,aE.b];cases A.b k<;>simp
      |some y=>
       rcases dh k (by simp[aK])with h|h
       ·exact absurd h ao
       ·have:=qP k h;simp[ao,aE.b,this]
    ·simp only[after,cU.do,ic,x0,te];by_cases ao:(look k s.e).isSome
     ·have:=kS k ao;obtain⟨y,bC⟩:=fv.1 this;simp[ao,bC]
     ·cases aK:look k aC.e with
      |none=>simp only[ao,aE.e];cases A.e k<;>simp
      |some y=>
       rcases ed k (by simp[aK])with h|h
       ·exact absurd h ao
       ·have:=qP k h;simp[ao,aE.e,this]
    ·have IF:=eW k aa.1;have od:=hr.lookNone IF;simp only[after];refine⟨IF.1,fun kB=>?_⟩;rcases iG.1 kB with kB|kB
     ·exact IF.2 kB
     ·rcases iG.1 kB with kB|kB
      ·rcases dh k (JW kB)with h|h
       ·obtain⟨y,bC⟩:=fv.1 h;have:=(cJ k y bC).1;rw[<-aE.b,od.1]at this;cases this
       ·exact aa.2 h
      ·rcases ed k (JW kB)with h|h
       ·obtain⟨y,bC⟩:=fv.1 h;have:=(c2 k y bC).1;rw[<-aE.e,od.2]at this;cases this
       ·exact aa.2 h
  ·cases aj
theorem UO{P:bW}{bs:List (Nat×du)}(aI:fS P bs=true){C:eH}{q:Bool}{n0:Nat}{ops:Array Oper}{g:cL}{o:Oper}{j:Nat}(al:ops[j]? =some o)(aj:Bk C.N bs ops.toList g o=true){A:cU}{x:kq}(ad:kr P q n0 g A x){a:Act}{w:World}(hr:wN C A a w)
  {K:Act->World->Prop} {Q:Exit->Act->World->Prop} (dk:∀cV w',wN C (A.do x) cV w'->K cV w'):wpOp P ops Q j K a w:=by
 unfold wpOp;rw[al];simp only;simp only[Bk,bB]at aj;obtain⟨mn,lf⟩:=aj;unfold kr at ad;cases BC:g.g with
 |none=>
  cases eU:o.guard with
  |some x=>simp[eU,BC]at mn
  |none=>
   have hw:oF o (yielded ops a.tmps)=true:=by simp[oF,eU]
   rw[bN hw];simp only[BC]at ad;exact .inl (L6 aI lf ad hr dk)
 |some yu=>
  obtain⟨s,want⟩:=yu;cases eU:o.guard with
  |none=>simp[eU,BC]at mn
  |some agS=>
   obtain⟨ajq,fy⟩:=agS;simp only[eU,BC,bB,dO,ef]at mn;obtain⟨⟨⟨⟨rfl,J⟩,av⟩,aV⟩,bE⟩:=mn;obtain⟨st,ν,aE,eW,dv⟩:=id hr;obtain⟨GH,GI⟩:=UC dv J av;simp only[BC]at ad;have Qo:∀(h:x=kY g.i.dst),K (a.put o.dst undef) w:=by
    rintro rfl;rw[aV];refine dk _ _ ⟨_,ν,?_,fun k aa=>?_,dv.put bE (p:= .tuple []) (by simp[aR,cD,undef])⟩
    ·refine⟨fun i=>?_,fun k=>?_,fun k=>?_⟩
     ·simp only[cU.do,kY];cases g.i.dst with
      |none=>simpa[e6]using aE.t i
      |some d=>simp only[e6,pM,dL,aE.t]
     ·simpa[cU.do,ic,look,kY]using aE.b k
     ·simpa[cU.do,ic,look,kY]using aE.e k
    ·exact eW k aa.1
   split at ad
   ·rename_i b af;have bC:=GH b (by rw[aE.t];exact af);rcases ad with⟨rfl,ad⟩|⟨rfl,ad⟩
    ·have hw:oF o (yielded ops a.tmps)=true:=by simp[oF,eU,bC]
     rw[bN hw];exact .inl (L6 aI lf ad hr dk)
    ·have hw:¬(oF o (yielded ops a.tmps)=true):=by simp[oF,eU,bC]
     rw[bf hw];exact Qo ad
   ·rename_i af;have bC:=GI (by rw[aE.t];exact af);have hw:¬(oF o (yielded ops a.tmps)=true):=by simp[oF,eU,bC]
    rw[bf hw];exact Qo ad
   ·exact ad.elim
def vr(P:bW)(q:Bool)(n0:Nat)(K:cU->Prop):List (Nat×cL)->cU->Prop
 |[],A=>K A
 |(_,g)::r,A=> ∃x,kr P q n0 g A x/\vr P q n0 K r (A.do x)
theorem Mp{P:bW}{q:Bool}{n0:Nat}{K:cU->Prop}{i:Nat}{g:cL}:∀(nR oJ:List (Nat×cL)) (A:cU),(∀x∈nR,zg x.2 g=true)->vr P q n0 K (nR++(i,g)::oJ) A->∃x,kr P q n0 g A x/\vr P q n0 K (nR++oJ) (A.do x)
 |[],oJ,A,_,h=>h
 |(j,gj)::nR,oJ,A,aD,h=>by simp only[iT,vr]at h;obtain⟨y,bC,h⟩:=h;obtain⟨x,ad,h⟩:=Mp nR oJ (A.do y) (fun z cn=>aD z (List.mem_cons_of_mem _ cn)) h;obtain⟨s1,s2,Ak⟩:=afU (aD _ (List.mem_cons_self ..)) bC ad;refine⟨x,s1,y,s2,?_⟩;rw[<-cU.do_comm A Ak];exact h
def rem(listed:Array Bool):Nat->List cL->List (Nat×cL)
 |_,[]=>[]
 |k,g::r=>if listed.getD k false then rem listed (k+1) r else(k,g)::rem listed (k+1) r
theorem Td{l cQ:Array Bool}:∀(gs:List cL) (k:Nat),(∀j,k<=j->l.getD j false=cQ.getD j false)->rem l k gs=rem cQ k gs
 |[],_,_=>rfl
 |g::r,k,h=>by simp only[rem,h k (da _),Td r (k+1) fun j al=>h j Ω]
theorem Eh{l:Array Bool}{i j:Nat}(h:i<l.size):(l.setIfInBounds i true).getD j false=if i=j then true else l.getD j false:=by
 simp only[Array.getD_eq_getD_getElem?];by_cases e:i=j
 ·subst e;simp[h]
 ·simp[e]
theorem KR{l:Array Bool}{i:Nat}(aw:i<l.size)(aK:l.getD i false=false):∀(gs:List cL) (k:Nat),k<=i->i<k+gs.length->∃nR oJ g,gs[i-k]? =some g/\rem l k gs=nR++(i,g)::oJ/\rem (l.setIfInBounds i true) k gs=nR++oJ/\
  ∀x∈nR,gs[x.1-k]? =some x.2/\k<=x.1/\x.1<i/\l.getD x.1 false=false
 |[],k,I,J=>by simp at J;omega
 |g::r,k,I,J=>by
  by_cases e:k=i
  ·subst e;refine⟨[],rem l (k+1) r,g,Ψ,by simp[rem,aK],?_,fun x ad=>by simp at ad⟩;simp only[rem,Eh aw,if_true,List.nil_append];exact Td r (k+1) fun j al=>by rw[Eh aw,bf Ω]
  ·obtain⟨nR,oJ,eK,aq,aU,bR,ds⟩:=KR aw aK r (k+1) Ω (by simp at J;omega);have qI:i-k=(i-(k+1))+1:=Ω
   have lN:(l.setIfInBounds i true).getD k false=l.getD k false:=by rw[Eh aw,bf Ω]
   by_cases aa:l.getD k false=true
   ·refine⟨nR,oJ,eK,by rw[qI];simpa using aq,by simp only[rem,aa,if_true,aU],by simp only[rem,lN,aa,if_true,bR],fun x ad=>?_⟩;obtain⟨f1,f2,f3,f4⟩:=ds x ad;refine⟨?_,Ω,f3,f4⟩;have:x.1-k=(x.1-(k+1))+1:=Ω
    rw[this];simpa using f1
   ·have aa:l.getD k false=false:=by simpa using aa
    refine⟨(k,g)::nR,oJ,eK,by rw[qI];simpa using aq,by simp[rem,aa,aU],by simp[rem,lN,aa,bR],fun x ad=>?_⟩;rcases gH.1 ad with rfl|ad
    ·exact⟨Ψ,da _,by simp;omega,aa⟩
    ·obtain⟨f1,f2,f3,f4⟩:=ds x ad;refine⟨?_,Ω,f3,f4⟩;have:x.1-k=(x.1-(k+1))+1:=Ω
     rw[this];simpa using f1
def uC(acc:List Nat):List Edge->Nat
 |[]=>0
 |e::r=>if Region.binds .any e then(2 ^ e.on)|||(acc.getD e.on 0)|||uC acc r else uC acc r
def r2(acc:List Nat):List Oper->List Nat
 |[]=>acc
 |o::os=>r2 (acc++[uC acc o.after.toList]) os
def CX(m:Nat)(h:cL):Nat->List cL->Bool
 |_,[]=>true
 |i,g::r=>(m.testBit i||zg g h)&&CX m h (i+1) r
def CI:List cL->List cL->List Nat->Bool
 |_,[],_=>true
 |pre,h::r,m::ms=>CX m h 0 pre&&CI (pre++[h]) r ms
 |_,_,[]=>false
def Bb:Nat->List Oper->Bool
 |_,[]=>true
 |k,o::os=>o.after.toList.all (fun e=> !Region.binds .any e||decide (e.on<k))&&Bb (k+1) os
def AV(gs:List cL)(ops:List Oper):Bool:=Bb 0 ops&&CI [] gs (r2 [] ops)
theorem JS{acc:List Nat}{j:Nat}:∀{es:List Edge},(uC acc es).testBit j=true->∃e∈es,Region.binds .any e=true/\(j=e.on\/(acc.getD e.on 0).testBit j=true)
 |[],h=>by simp[uC]at h
 |e::r,h=>by
  simp only[uC]at h;split at h
  ·rename_i af;simp only[Nat.testBit_or,Bool.or_eq_true]at h;rcases h with(h|h)|h
   ·refine⟨e,Ψ,af,.inl ?_⟩;rw[Nat.testBit_two_pow]at h;have cr:e.on=j:=by simpa using h
    exact cr.symm
   ·exact⟨e,Ψ,af,.inr h⟩
   ·obtain⟨iX,I,J⟩:=JS h;exact⟨iX,by simp[I],J⟩
  ·obtain⟨iX,I,J⟩:=JS h;exact⟨iX,by simp[I],J⟩
theorem JT:∀(os:List Oper) (acc:List Nat) (k:Nat),k<acc.length->(r2 acc os)[k]? =acc[k]?
 |[],acc,k,_=>rfl
 |o::os,acc,k,h=>by simp only[r2];rw[JT os _ k (by simp;omega),mF h]
theorem Rx:∀(os:List Oper) (acc:List Nat) (k:Nat) (o:Oper),os[k]? =some o->∃tK,(r2 acc os)[acc.length+k]? =some (uC tK o.after.toList)/\tK.length=acc.length+k/\∀i,i<tK.length->tK[i]? =(r2 acc os)[i]?
 |[],acc,k,o,h=>by simp at h
 |o'::os,acc,0,o,h=>by
  simp only[List.getElem?_cons_zero,dL]at h;subst h;refine⟨acc,?_,Ψ,fun i aw=>?_⟩
  ·simp only[r2,Nat.add_zero];rw[JT os _ _ Ψ];simp
  ·simp only[r2];rw[JT os _ i (by simp;omega),mF aw]
 |o'::os,acc,k+1,o,h=>by simp only[List.getElem?_cons_succ]at h;obtain⟨tK,I,J,av⟩:=Rx os (acc++[uC acc o'.after.toList]) k o h;refine⟨tK,?_,by rw[J];simp;omega,fun i aw=>by rw[av i aw];rfl⟩;simp only[r2];rw[show acc.length+(k+1)=(acc++[uC acc o'.after.toList]).length+k from by simp;omega];exact I
def L1(ops:Array Oper)(listed:Array Bool):Prop:= ∀k o,ops[k]? =some o->listed.getD k false=true->∀e∈o.after.toList,Region.binds .any e=true->listed.getD e.on false=true
theorem acI{ops:Array Oper}{listed:Array Bool}(a7:L1 ops listed):∀(k:Nat) (o:Oper),ops[k]? =some o->(∀e∈o.after.toList,Region.binds .any e=true->listed.getD e.on false=true)->∀j,((r2 [] ops.toList).getD k 0).testBit j=true->listed.getD j false=true:=by
 intro k;induction k using Nat.strongRecOn with
 |_ k a8=>
  intro o aj aE j al;obtain⟨tK,I,J,av⟩:=Rx ops.toList [] k o (by simpa using aj);simp only[nj,nk]at I J;rw[List.getD_eq_getElem?_getD,I]at al;obtain⟨e,he,af,bK⟩:=JS al;rcases bK with rfl|bK
  ·exact aE e he af
  ·by_cases b7:e.on<tK.length
   ·have hm:tK.getD e.on 0=(r2 [] ops.toList).getD e.on 0:=by rw[List.getD_eq_getElem?_getD,av _ b7,List.getD_eq_getElem?_getD]
    have aa:k<ops.size:=(Array.getElem?_eq_some_iff.1 aj).1;have hN:ops[e.on]? =some ops[e.on]:=Array.getElem?_eq_getElem Ω;rw[hm]at bK;exact a8 e.on Ω _ hN (fun iX Bz hq=>a7 e.on _ hN (aE e he af) iX Bz hq) j bK
   ·rw[List.getD_eq_getElem?_getD,List.getElem?_eq_none Ω]at bK;simp at bK
theorem Tu{m:Nat}{h:cL}:∀{gs:List cL} {i0:Nat},CX m h i0 gs=true->∀i g,gs[i]? =some g->m.testBit (i0+i)=true\/zg g h=true
 |[],i0,_,i,g,aO=>by simp at aO
 |eK::r,i0,hr,0,g,aO=>by simp only[CX,bB,Bool.or_eq_true]at hr;simp only[List.getElem?_cons_zero,dL]at aO;subst aO;simpa using hr.1
 |eK::r,i0,hr,i+1,g,aO=>by simp only[CX,bB]at hr;have:=Tu hr.2 i g (by simpa using aO);rwa[show i0+1+i=i0+(i+1)from by omega]at this
theorem Su:∀{gs pre:List cL} {ms:List Nat},CI pre gs ms=true->∀j h,gs[j]? =some h->∀i g,i<pre.length+j->(pre++gs)[i]? =some g->(ms.getD j 0).testBit i=true\/zg g h=true
 |[],pre,ms,_,j,h,al,_,_,_,_=>by simp at al
 |cr::r,pre,[],bq,j,h,al,_,_,_,_=>by simp[CI]at bq
 |cr::r,pre,m::ms,bq,j,h,al,i,g,aw,aO=>by
  simp only[CI,bB]at bq;cases j with
  |zero=>simp only[List.getElem?_cons_zero,dL]at al;subst al;rw[mF Ω]at aO;simpa using Tu bq.1 i g aO
  |succ j=>have:=Su bq.2 j h (by simpa using al) i g (by simp;omega) (by simpa using aO);simpa using this
theorem Ol:∀{os:List Oper} {k:Nat},Bb k os=true->∀i o,os[i]? =some o->∀e∈o.after.toList,Region.binds .any e=true->e.on<k+i
 |[],k,_,i,o,aj,_,_,_=>by simp at aj
 |o'::os,k,h,0,o,aj,e,he,af=>by simp only[Bb,bB,gC]at h;simp only[List.getElem?_cons_zero,dL]at aj;subst aj;have:=h.1 e he;simpa[af]using this
 |o'::os,k,h,i+1,o,aj,e,he,af=>by simp only[Bb,bB]at h;have:=Ol h.2 i o (by simpa using aj) e he af;omega
theorem Pq{N:Nat}{bs:List (Nat×du)}{ops:List Oper}:∀{gs:List cL} {os:List Oper},j3 N bs ops gs os=true->∀(i:Nat) (g:cL),gs[i]? =some g->∃o,os[i]? =some o/\Bk N bs ops g o=true
 |[],[],_,i,g,h=>by simp at h
 |[],_::_,h,_,_,_=>by simp[j3]at h
 |_::_,[],h,_,_,_=>by simp[j3]at h
 |eK::gs,o::os,h,0,g,aO=>by simp only[j3,bB]at h;simp only[List.getElem?_cons_zero,dL]at aO;subst aO;exact⟨o,Ψ,h.1⟩
 |eK::gs,o::os,h,i+1,g,aO=>by simp only[j3,bB]at h;obtain⟨o',I,J⟩:=Pq h.2 i g (by simpa using aO);exact⟨o',by simpa using I,J⟩
theorem Ie{N:Nat}{bs:List (Nat×du)}{ops:List Oper}:∀{gs:List cL} {os:List Oper},j3 N bs ops gs os=true->gs.length=os.length
 |[],[],_=>rfl
 |[],_::_,h=>by simp[j3]at h
 |_::_,[],h=>by simp[j3]at h
 |g::gs,o::os,h=>by simp only[j3,bB]at h;simp[Ie h.2]
theorem Te{l:Array Bool}:∀(gs:List cL) (k:Nat),rem l k gs=[]\/ ∃i g,i<gs.length/\gs[i]? =some g/\l.getD (k+i) false=false/\∀j,j<i->l.getD (k+j) false=true
 |[],_=>.inl rfl
 |g::r,k=>by
  by_cases h:l.getD k false=true
  ·rcases Te (l:=l) r (k+1)with I|⟨i,eK,I,J,av,aV⟩
   ·left;simp only[rem,h,if_true,I]
   ·refine .inr ⟨i+1,eK,by simp;omega,by simpa using J,by rw[show k+(i+1)=k+1+i from by omega];exact av,fun j al=>?_⟩;cases j with
    |zero=>simpa using h
    |succ j=>rw[show k+(j+1)=k+1+j from by omega];exact aV j Ω
  ·exact .inr ⟨0,g,Ψ,Ψ,by simpa using h,fun j al=>Ω⟩
theorem U2{P:bW}{bs:List (Nat×du)}(aI:fS P bs=true){C:eH}{q:Bool}{n0:Nat}{ops:Array Oper}{gs:List cL}(gu:j3 C.N bs ops.toList gs ops.toList=true)(Et:AV gs ops.toList=true){K:cU->Prop}{Q:Exit->Act->World->Prop}
  (lH:∀A a w,K A->wN C A a w->Q .normal a w):∀(fuel:Nat) (listed:Array Bool) (A:cU) (a:Act) (w:World),listed.size=ops.size->L1 ops listed->(rem listed 0 gs).length<=fuel->vr P q n0 K (rem listed 0 gs) A->wN C A a w->wpAny P .any ops Q fuel listed a w:=by
 simp only[AV,bB]at Et;obtain⟨Il,abb⟩:=Et;have hlen:gs.length=ops.size:=by simpa using Ie gu
 have PS:∀(listed:Array Bool) (A:cU) (a:Act) (w:World),listed.size=ops.size->vr P q n0 K (rem listed 0 gs) A->wN C A a w->Region.ready .any ops listed=[]->Q .normal a w:=by
  intro listed A a w ev nu hr E6;rcases Te (l:=listed) gs 0 with h|⟨i,g,I,J,av,aV⟩
  ·rw[h]at nu;exact lH A a w nu hr
  ·exfalso;have aw:i<ops.size:=Ω
   have kB:i∈Region.ready .any ops listed:=by
    unfold Region.ready;simp only[List.mem_filter,List.mem_range,bB,Bool.not_eq_true'];refine⟨aw,?_,?_⟩
    ·rw[nk]at av;simp only[Array.getD_eq_getD_getElem?]at av⊢;rw[Array.getElem?_eq_getElem Ω]at av⊢;simpa using av
    ·rw[Array.getElem?_eq_getElem aw];simp only[su,rh];rw[<-Array.all_toList,gC];intro e he;by_cases af:Region.binds .any e=true
     ·have b7:=Ol Il i ops[i] (by simp[aw]) e he af;have:=aV e.on Ω;rw[nk]at this;simp[this]
     ·simp[af]
   rw[E6]at kB;simp at kB
 intro fuel;induction fuel with
 |zero=>
  intro listed A a w ev a7 aM nu hr;have aa8:rem listed 0 gs=[]:=l3 Ω;have E6:Region.ready .any ops listed=[]:=by
   rw[List.eq_nil_iff_forall_not_mem];intro i aw;unfold Region.ready at aw;simp only[List.mem_filter,List.mem_range,bB,Bool.not_eq_true']at aw;obtain⟨I,J,_⟩:=aw;have aK:listed.getD i false=false:=by simp only[Array.getD_eq_getD_getElem?]at J⊢;rw[Array.getElem?_eq_getElem Ω]at J⊢;simpa using J
   obtain⟨nR,oJ,g,_,aU,_⟩:=KR Ω aK gs 0 Ω Ω;rw[aa8]at aU;simp at aU
  exact⟨E6,PS listed A a w ev nu hr E6⟩
 |succ fuel a8=>
  intro listed A a w ev a7 aM nu hr;refine⟨PS listed A a w ev nu hr,fun i aw=>?_⟩;unfold Region.ready at aw;simp only[List.mem_filter,List.mem_range,bB,Bool.not_eq_true']at aw;obtain⟨I,J,av⟩:=aw;have aK:listed.getD i false=false:=by simp only[Array.getD_eq_getD_getElem?]at J⊢;rw[Array.getElem?_eq_getElem Ω]at J⊢;simpa using J
  have aj:ops[i]? =some ops[i]:=Array.getElem?_eq_getElem I;have PT:∀e∈ops[i].after.toList,Region.binds .any e=true->listed.getD e.on false=true:=by rw[aj]at av;simp only[su,rh]at av;rw[<-Array.all_toList,gC]at av;intro e he af;simpa[af]using av e he
  obtain⟨nR,oJ,g,aq,aU,bR,ds⟩:=KR Ω aK gs 0 Ω Ω;simp only[Nat.sub_zero]at aq ds;rw[aU]at nu;obtain⟨x,ad,ZX⟩:=Mp nR oJ A (fun y bC=>by
   obtain⟨f1,f2,f3,f4⟩:=ds y bC;rcases Su abb i g aq y.1 y.2 (by simpa using f3) (by simpa using f1)with h|h
   ·have:=acI a7 i ops[i] aj PT y.1 h;rw[f4]at this;cases this
   ·exact h) nu
  obtain⟨o',g1,g2⟩:=Pq gu i g aq;have:o'=ops[i]:=by rw[Array.getElem?_toList,aj]at g1;exact(dZ g1).symm
  subst this;refine UO aI aj g2 ad hr fun cV w' dv=>?_;refine a8 (listed.setIfInBounds i true) (A.do x) cV w' (by simpa using ev) ?_ ?_ (by rw[bR];exact ZX) dv
  ·intro k o aa aE e he af;rw[Eh Ω]at aE⊢;split
   ·rfl
   ·by_cases qI:i=k
    ·subst qI;rw[aj]at aa;cases aa;exact PT e he af
    ·rw[bf qI]at aE;exact a7 k o aa aE e he af
  ·rw[bR];rw[aU]at aM;simp at aM⊢;omega
def xl(n0 d:Nat)(st:bb):Prop:= .loc (n0+d)∉st.o/\look (.loc (n0+d)) st.b=none/\look (.loc (n0+d)) st.e=none
def fD.loadO(q:Bool)(t:List (Nat×ag)):fD->Prop
 | .load _ _ x=>q=true\/xV (bL t x)=true
 | .loadB _ _ _=>True
 | .mgetB _ _ _ _ _=>True
 | .mget _ _ _ _ _=>q=true
 | .ment _=>q=true
 | .mlen _=>q=true
 |_=>True
def kv(q:Bool)(nw:List Nat)(n0:Nat)(st:bb):dG->Prop
 | .v _ i=>i.loadO q st.t
 | .box d none _=>xl n0 d st
 | .alloc d none _=>xl n0 d st
 | .box _ (some _) _=>dK
 | .alloc _ (some _) _=>dK
 | .store _ x _=>match bL st.t x with| .ptr _ _=>True|_=>dK
 | .bslm _ none _ _ _=>dK
 | .bslm _ (some m) _ _ _=>m∈nw/\look (.obj m) st.b=none/\look (.obj m) st.e=none
 | .mks _ _ _ _ _ _=>dK
 | .apps _ _ _ _=>dK
 | .appm _ none _ _ x _=>match bL st.t x with| .row _ _ _=>True|_=>dK
 | .appm _ (some m) _ _ x _=>match bL st.t x with| .row _ _ _=>True| .slice _ .nil _=>m∈nw/\look (.obj m) st.b=none/\look (.obj m) st.e=none|_=>dK
 | .storeE _ _ _=>True
 | .mkmap _ none=>dK
 | .mkmap _ (some m)=>m∈nw/\look (.obj m) st.b=none/\look (.obj m) st.e=none
 | .mput _ _ _ _=>True
 | .range _ _ _=>dK
 | .bsl d _ _ _=>xl n0 d st
 | .app d _ _ x _=>match bL st.t x with
  | .slice _ .nil _=>xl n0 d st
  | .slice _ (.own k) _=>(look k st.e).bind (·.xs)=none
  |_=>True
def nq(n0:Nat):dG->aJ
 | .mkmap _ (some m)=>.obj m
 | .appm _ (some m) _ _ _ _=>.obj m
 | .bslm _ (some m) _ _ _=>.obj m
 | .v d _| .box d _ _| .alloc d _ _| .bsl d _ _ _| .app d _ _ _ _| .bslm d _ _ _ _| .appm d _ _ _ _ _| .mkmap d _| .range d _ _| .mks d _ _ _ _ _| .apps d _ _ _=>.loc (n0+d)
 | .store _ _ _| .mput _ _ _ _| .storeE _ _ _=>.loc n0
def acb(nw:List Nat)(st:bb)(s aC:dM)(rm:be aJ):Prop:=(∀k,(look k aC.b).isSome->(look k s.b).isSome\/rm=some k)/\(∀k,(look k aC.e).isSome->(look k s.e).isSome\/rm=some k)/\(∀k,(look k s.b).isSome->(look k aC.b).isSome)/\(∀k,(look k s.e).isSome->(look k aC.e).isSome)/\
 (∀k,rm=some k->(∃j,j∈nw/\k= .obj j)/\look k st.b=none/\look k st.e=none/\((look k aC.b).isSome\/(look k aC.e).isSome))
def gI(P:bW)(q:Bool)(nw:List Nat)(n:Nat)(args:List ag)(st:bb)(d:be Nat)(K:bb->Prop):Prop:=
 (∃fE r,d=some fE/\xl st.n fE st/\ai (fun _=>dK) args/\GK P n (st.n+fE) args ⟨[],[]⟩ (fun dt eB=>dt=r/\eB=⟨[],[]⟩)/\K {st with t:=put fE r st.t,o:= .loc (st.n+fE)::st.o})\/
 ∃s aC r rm,oA (ah s) s.b st.b/\oB (ah s) s.e st.e/\js s/\js aC/\acb nw st s aC rm/\ai (ah s) args/\bT P n args s (fun dt eB=>dt=r/\eB=aC)/\(q=true->aC.b=[]/\aC.e=[])/\K {after st s aC d r with o:=st.o}
def iZ(P:bW)(q:Bool)(nw:List Nat)(n0:Nat)(st:bb)(K:bb->Prop):dH->Prop
 | .s i=>match dY (nq n0 i) st.n (nq n0 i::st.o) st i with
  |some (c,st')=>kv q nw n0 st i/\c/\K st'
  |none=>dK
 | .call d f xs=>match bL st.t f with
  | .func n dI=>gI P q nw n (cO (xs.map (bL st.t)++dI)) st d K
  |_=>dK
 | .next _ _=>dK
 | .opn _ _ _=>dK
def hF(P:bW)(q:Bool)(nw:List Nat)(n0:Nat):List cL->bb->(bb->Prop)->Prop
 |[],st,K=>K st
 |⟨none,i⟩::r,st,K=>iZ P q nw n0 st (fun st'=>hF P q nw n0 r st' K) i
 |⟨some (s,want),i⟩::r,st,K=>match get s st.t with
  | .bool b=>(b=want->iZ P q nw n0 {st with t:=put s (.bool want) st.t} (fun st'=>hF P q nw n0 r st' K) i)/\(b= !want->hF P q nw n0 r {st with t:=e6 i.dst (.tuple []) (put s (.bool !want) st.t)} K)
  | .tuple []=>hF P q nw n0 r {st with t:=e6 i.dst (.tuple []) st.t} K
  |_=>dK
structure sw (nw:List Nat) (n0 N:Nat) (mZ:List aJ) (st:bb) (A:cU):Prop where
 like:k3 st A
 n:st.n=n0
 F:∀k,fresh n0 st.o k->(∀j∈nw,k≠ .obj j)->A.F k
 o:∀k∈st.o,k∈mZ\/(∃d,d<N/\k= .loc (n0+d))\/ ∃j∈nw,k= .obj j
def AH(nw:List Nat)(A:cU):Prop:= ∀j∈nw,A.b (.obj j)=none->A.e (.obj j)=none->A.F (.obj j)
theorem AH.do{P:bW}{q:Bool}{n0:Nat}{nw:List Nat}{A:cU}(h:AH nw A){g:cL}{x:kq}(ad:kr P q n0 g A x):AH nw (A.do x):=by
 intro j al af he;refine⟨h j al (DR af) (DS he),fun rA=>?_⟩;rcases(Lq ad).r _ rA with⟨d,_,e⟩|⟨_,_,ao⟩
 ·cases e
 ·rcases ao with ao|ao
  ·obtain⟨y,bC⟩:=fv.1 ao;simp[cU.do,ic,bC]at af
  ·obtain⟨y,bC⟩:=fv.1 ao;simp[cU.do,ic,bC]at he
theorem Ou{P:bW}{q:Bool}{nw:List Nat}{n0 N:Nat}{mZ:List aJ}{i:dH}(a7:∀d,i.dst=some d->d<N){st:bb}{A:cU}(h:sw nw n0 N mZ st A)(ja:AH nw A){K:bb->Prop}(he:iZ P q nw n0 st K i):∃x st',dA P q n0 i A x/\K st'/\sw nw n0 N mZ st' (A.do x):=by
 have aE:=h.like;have xC:∀d,xl n0 d st->(A.F (.loc (n0+d))/\A.b (.loc (n0+d))=none/\A.e (.loc (n0+d))=none):=fun d aM=>⟨h.F _ ⟨Ψ,aM.1⟩ (fun _ _ e=>by cases e),by rw[<-aE.b];exact aM.2.1,by rw[<-aE.e];exact aM.2.2⟩;have mL:∀(d:be Nat) (p:ag) (bw:List (aJ×List ag)) (ew:List (aJ×dw)) (κ:aJ),∀k,fresh n0 (κ::st.o) k->(∀j∈nw,k≠ .obj j)->(A.do ⟨d,p,bw,ew,some κ⟩).F k:=fun d p bw ew κ k aa al=>⟨h.F k (sQ k aa).1 al,fun e=>(sQ k aa).2 (dZ e).symm⟩;have vE:∀(d:be Nat) (p:ag) (bw:List (aJ×List ag)) (ew:List (aJ×dw)),∀k,fresh n0 st.o k->(∀j∈nw,k≠ .obj j)->(A.do ⟨d,p,bw,ew,none⟩).F k:=fun d p bw ew k aa al=>⟨h.F k aa al,Ψ⟩;have BN:∀d,d<N->∀k∈aJ.loc (n0+d)::st.o,k∈mZ\/(∃d,d<N/\k= .loc (n0+d))\/ ∃j∈nw,k= .obj j:=fun d a7 k aa=>by
  rcases gH.1 aa with rfl|aa
  ·exact .inr (.inl ⟨d,a7,rfl⟩)
  ·exact h.o k aa
 cases i with
 |s i=>
  cases i with
  |v d i=>
   simp only[iZ,dY]at he;cases aS:gB st i with
   |none=>simp[aS]at he
   |some Wj=>
    obtain⟨c,p⟩:=Wj;simp only[aS]at he;obtain⟨I,J,av⟩:=he;refine⟨⟨some d,p,[],[],none⟩,_,⟨c,p,by rw[<-T7 aE];exact aS,J,fun ny=>?_,rfl⟩,av,JM aE d p,h.n,vE _ _ _ _,h.o⟩;cases i<;>simp only[fD.isLoad]at ny<;>try(cases ny;done)
    case mget=>exact .inr (.inl I)
    case ment=>exact .inr (.inl I)
    case mlen=>exact .inr (.inl I)
    case loadB=>exact .inl rfl
    case mgetB=>exact .inl rfl
    simp only[kv,fD.loadO,hG aE]at I;exact .inr (by simpa only[fD.ptrOf]using I)
  |box d key v=>
   cases key with
   |some m=>simp only[iZ,dY,kv,false_and]at he
   |none=>simp only[iZ,dY,kv,nq]at he;obtain⟨I,J,av⟩:=he;rw[hG aE]at J;refine⟨_,_,⟨xC d I,J,rfl⟩,av,?_,h.n,mL _ _ _ _ _,BN d (a7 d rfl)⟩;rw[hG aE];exact zF aE d _ _ _ _ _ _
  |alloc d key z=>
   cases key with
   |some m=>simp only[iZ,dY,kv,false_and]at he
   |none=>simp only[iZ,dY,kv,nq]at he;obtain⟨I,J,av⟩:=he;exact⟨_,_,⟨xC d I,rfl⟩,av,zF aE d _ _ _ _ _ _,h.n,mL _ _ _ _ _,BN d (a7 d rfl)⟩
  |store sz u v=>
   simp only[iZ,dY]at he;cases hu:bL st.t u with
   |ptr k off=>
    cases af:look k st.b with
    |none=>simp[hu,af]at he
    |some cs=>simp only[hu,af]at he;obtain⟨I,J,av⟩:=he;rw[hG aE]at J hu;refine⟨⟨none,.junk,[(k,oz cs off (cells (dc A.t v)))],[],none⟩,_,⟨k,off,cs,hu,by rw[<-aE.b];exact af,J,rfl⟩,av,?_,h.n,vE _ _ _ _,h.o⟩;rw[hG aE];exact Fx aE k _ _
   |_=>
    exfalso;simp only[hu]at he;split at he
    ·have:=he.1;simp[kv,hu]at this
    ·exact he
  |bsl d sz el xs=>simp only[iZ,dY,kv,nq]at he;obtain⟨I,J,av⟩:=he;rw[pK aE]at J;refine⟨_,_,⟨xC d I,J,rfl⟩,av,?_,h.n,mL _ _ _ _ _,BN d (a7 d rfl)⟩;rw[pK aE];exact o9 aE d _ _ _ _ _ _
  |app d sz el u v=>
   simp only[iZ,dY]at he;cases hu:bL st.t u with
   |slice dj tag xs=>
    cases aS:bL st.t v with
    |slice hR gG ys=>
     simp only[hu,aS]at he;by_cases eL:dj=sz/\hR=sz
     ·obtain⟨rfl,rfl⟩:=eL;rw[hG aE]at hu aS;cases tag with
      |no=>simp at he
      |tr k j=>simp at he
      |lo k=>simp at he
      |nil=>simp only[and_self,if_true,kv,hG aE,hu,nq]at he;obtain⟨I,J,av⟩:=he;exact⟨_,_,⟨.nil,xs,gG,ys,hu,aS,.inr ⟨rfl,J,xC d I,rfl⟩⟩,av,o9 aE d _ _ _ _ _ _,h.n,mL _ _ _ _ _,BN d (a7 d rfl)⟩
      |own k=>
       cases aa:look k st.e with
       |none=>simp[aa]at he
       |some o=>simp only[and_self,if_true,aa]at he;obtain⟨I,J,av⟩:=he;exact⟨_,_,⟨.own k,xs,gG,ys,hu,aS,.inl ⟨k,o,rfl,by rw[<-aE.e];exact aa,⟨by simpa[kv,hG aE,hu,aa]using I,J⟩,rfl⟩⟩,av,o9 aE d _ _ _ _ _ _,h.n,vE _ _ _ _,h.o⟩
     ·simp[eL]at he
    |_=>simp[hu,aS]at he
   |_=>simp[hu]at he
  |bslm d key sz el xs=>
   cases key with
   |none=>simp only[iZ,dY,kv,false_and]at he
   |some m=>
    simp only[iZ,dY,kv,nq]at he;obtain⟨⟨bD,I,J⟩,aV,av⟩:=he;rw[aE.b]at I;rw[aE.e]at J;rw[pK aE]at aV;refine⟨_,_,⟨⟨ja m bD I J,I,J⟩,aV,rfl⟩,av,?_,h.n,mL _ _ _ _ _,fun k aa=>?_⟩
    ·rw[pK aE];exact o9 aE d _ _ _ _ _ _
    rcases gH.1 aa with rfl|aa
    ·exact .inr (.inr ⟨m,bD,rfl⟩)
    ·exact h.o k aa
  |mks d key sz el z x=>simp only[iZ,dY,kv,false_and]at he;split at he<;>simp at he
  |apps d el x y=>simp only[iZ,dY,kv,false_and]at he;split at he<;>simp at he
  |appm d key sz el u v=>
   cases key with
   |some m=>
    simp only[iZ,dY]at he;cases hu:bL st.t u with
    |slice dj tag xs=>
     cases tag with
     |nil=>
      cases aS:bL st.t v with
      |slice hR gG ys=>
       simp only[hu,aS,l6]at he;by_cases eL:dj=sz/\hR=sz
       ·obtain⟨rfl,rfl⟩:=eL;simp only[and_self,if_true,kv,hu,nq]at he;rw[hG aE]at hu aS;obtain⟨⟨bD,I,J⟩,aV,av⟩:=he;rw[aE.b]at I;rw[aE.e]at J;refine⟨_,_,.inr ⟨xs,gG,ys,hu,aS,⟨ja m bD I J,I,J⟩,aV,rfl⟩,av,o9 aE d _ _ _ _ _ _,h.n,mL _ _ _ _ _,fun k aa=>?_⟩;rcases gH.1 aa with rfl|aa
        ·exact .inr (.inr ⟨m,bD,rfl⟩)
        ·exact h.o k aa
       ·simp[eL]at he
      |_=>simp[hu,aS,l6]at he
     |_=>simp[hu,l6]at he
    |row dj k n=>
     cases aS:bL st.t v with
     |slice hR gG ys=>
      simp only[hu,aS,l6]at he;by_cases eL:dj=sz/\hR=sz
      ·obtain⟨rfl,rfl⟩:=eL;rw[hG aE]at hu aS;simp only[and_self,if_true]at he;cases aa:look k st.e with
       |none=>simp[aa]at he
       |some o=>
        obtain⟨n',eJ,tv,CC⟩:=o;cases CC with
        |none=>simp[aa]at he
        |some xs=>
         simp only[aa]at he;by_cases jb:n'=n/\eJ=el/\tv=hR
         ·obtain⟨rfl,rfl,rfl⟩:=jb;simp only[and_self,if_true]at he;obtain⟨I,J,av⟩:=he;exact⟨_,_,.inl ⟨k,n',xs,gG,ys,hu,aS,by rw[<-aE.e];exact aa,J,rfl⟩,av,o9 aE d _ _ _ _ _ _,h.n,vE _ _ _ _,h.o⟩
         ·simp[jb]at he
      ·simp[eL]at he
     |_=>simp[hu,aS,l6]at he
    |_=>simp[hu,l6]at he
   |none=>
   simp only[iZ,dY]at he;cases hu:bL st.t u with
   |row dj k n=>
    cases aS:bL st.t v with
    |slice hR gG ys=>
     simp only[hu,aS,l6]at he;by_cases eL:dj=sz/\hR=sz
     ·obtain⟨rfl,rfl⟩:=eL;rw[hG aE]at hu aS;simp only[and_self,if_true]at he;cases aa:look k st.e with
      |none=>simp[aa]at he
      |some o=>
       obtain⟨n',eJ,tv,CC⟩:=o;cases CC with
       |none=>simp[aa]at he
       |some xs=>
        simp only[aa]at he;by_cases jb:n'=n/\eJ=el/\tv=hR
        ·obtain⟨rfl,rfl,rfl⟩:=jb;simp only[and_self,if_true]at he;obtain⟨I,J,av⟩:=he;exact⟨_,_,⟨k,n',xs,gG,ys,hu,aS,by rw[<-aE.e];exact aa,J,rfl⟩,av,o9 aE d _ _ _ _ _ _,h.n,vE _ _ _ _,h.o⟩
        ·simp[jb]at he
     ·simp[eL]at he
    |_=>simp[hu,aS,l6]at he
   |slice dj tag xs=>
    exfalso;simp only[hu]at he;split at he
    ·have:=he.1;simp[kv,hu]at this
    ·exact he
   |_=>simp[hu,l6]at he
  |storeE sz u v=>
   simp only[iZ,dY]at he;cases hu:bL st.t u with
   |rptr dj k n i f=>
    cases aa:look k st.e with
    |none=>simp[hu,q2,aa]at he
    |some o=>
     obtain⟨n',el,tv,CC⟩:=o;cases CC with
     |none=>simp[hu,q2,aa]at he
     |some xs=>
      simp only[hu,q2,aa]at he;by_cases jb:n'=n/\tv=dj
      ·obtain⟨rfl,rfl⟩:=jb;simp only[and_self,if_true]at he;cases bG:xs[i]? with
       |none=>simp[bG]at he
       |some q=>simp only[bG]at he;obtain⟨I,J,av⟩:=he;rw[hG aE]at J hu;refine⟨⟨none,.junk,[],[(k,⟨n',el,tv,some (xs.set i (qZ q f (cells (dc A.t v))))⟩)],none⟩,_,⟨k,n',i,f,el,tv,xs,q,hu,by rw[<-aE.e];exact aa,bG,J,rfl⟩,av,?_,h.n,vE _ _ _ _,h.o⟩;rw[hG aE];exact Rp aE k _ _
      ·simp[jb]at he
   |_=>simp[hu,q2]at he
  |mkmap d key=>
   cases key with
   |none=>simp only[iZ,dY,kv,false_and]at he
   |some m=>
    simp only[iZ,dY,kv,nq]at he;obtain⟨⟨bD,I,J⟩,_,av⟩:=he;rw[aE.b]at I;rw[aE.e]at J;refine⟨_,_,⟨⟨ja m bD I J,I,J⟩,rfl⟩,av,zF aE d _ _ _ _ _ _,h.n,mL _ _ _ _ _,fun k aa=>?_⟩;rcases gH.1 aa with rfl|aa
    ·exact .inr (.inr ⟨m,bD,rfl⟩)
    ·exact h.o k aa
  |mput b0 u k v=>
   simp only[iZ,dY,kv]at he;cases hu:bL st.t u with
   |gmap m=>
    cases af:look m st.b with
    |none=>simp[hu,af]at he
    |some cs=>
     cases hm:uD b0 (bL st.t k) (bL st.t v) cs with
     |none=>simp[hu,af,hm]at he
     |some cs'=>simp only[hu,af,hm]at he;rw[hG aE]at hu;rw[hG aE,hG aE]at hm;exact⟨⟨none,.junk,[(m,cs')],[],none⟩,_,⟨m,cs,cs',hu,by rw[<-aE.b];exact af,hm,rfl⟩,he.2.2,Fx aE m _ _,h.n,vE _ _ _ _,h.o⟩
   |_=>simp[hu]at he
  |range d key x=>simp only[iZ,kv,false_and]at he;split at he<;>exact he.elim
 |next d x=>simp only[iZ]at he
 |opn d f x=>simp only[iZ]at he
 |call d f xs=>
  simp only[iZ]at he;cases aM:bL st.t f with
  |func n dI=>
   simp only[aM]at he;rw[hG aE]at aM;rcases he with⟨fE,r,rfl,cJ,c2,c3,c4⟩|⟨s,aC,r,rm,cJ,c2,c3,c4,c5,iI,jo,Vk,c9⟩
   ·rw[pK aE]at c2 c3;have aK:=h.n;subst aK;refine⟨⟨some fE,r,[],[],some (.loc (st.n+fE))⟩,_,⟨n,dI,aM,.inr ⟨fE,r,rfl,xC fE cJ,c2,c3,rfl⟩⟩,c4,Rq aE fE r _ _,rfl,mL _ _ _ _ _,BN fE (a7 fE rfl)⟩
   rw[pK aE]at iI jo;obtain⟨dh,ed,hO,kS,qP⟩:=c5;refine⟨⟨d,r,aC.b,aC.e,rm⟩,_,⟨n,dI,aM,.inl ⟨⟨s,aC,r,rm,fun k cs aa=>⟨by rw[<-aE.b];exact(cJ k cs aa).1,(cJ k cs aa).2.2⟩,fun k o aa=>⟨by rw[<-aE.e];exact(c2 k o aa).1,(c2 k o aa).2.2⟩,c3,c4,⟨dh,ed,hO,kS,fun k aa=>?_⟩,iI,jo,rfl⟩,Vk⟩⟩,c9,⟨fun i=>?_,fun k=>?_,fun k=>?_⟩,h.n,fun k aa al=>⟨h.F k aa al,fun rA=>?_⟩,h.o⟩
   ·obtain⟨⟨j,al,rfl⟩,aU,bR,ds⟩:=qP k aa;rw[aE.b]at aU;rw[aE.e]at bR;exact⟨⟨j,rfl⟩,ja j al aU bR,aU,bR,ds⟩
   ·simp only[after,cU.do];cases d with
    |none=>simpa[e6]using aE.t i
    |some d=>simp only[e6,pM,dL,aE.t]
   ·simp only[after,cU.do,ic,x0,te];by_cases ao:(look k s.b).isSome
    ·have:=hO k ao;obtain⟨y,bC⟩:=fv.1 this;simp[ao,bC]
    ·cases aK:look k aC.b with
     |none=>simp only[ao,aE.b];cases A.b k<;>simp
     |some y=>
      rcases dh k (by simp[aK])with h|h
      ·exact absurd h ao
      ·have:=qP k h;simp[ao,this]
   ·simp only[after,cU.do,ic,x0,te];by_cases ao:(look k s.e).isSome
    ·have:=kS k ao;obtain⟨y,bC⟩:=fv.1 this;simp[ao,bC]
    ·cases aK:look k aC.e with
     |none=>simp only[ao,aE.e];cases A.e k<;>simp
     |some y=>
      rcases ed k (by simp[aK])with h|h
      ·exact absurd h ao
      ·have:=qP k h;simp[ao,this]
   ·obtain⟨⟨j,kO,rfl⟩,_⟩:=qP k rA;exact al j kO rfl
  |_=>simp[aM]at he
def y0(N:Nat):List cL->Bool
 |[]=>true
 |g::r=>hE N g.i.dst&&y0 N r
def yD:Nat->List cL->List (Nat×cL)
 |_,[]=>[]
 |k,g::r=>(k,g)::yD (k+1) r
theorem Mc{nw:List Nat}{n0 N:Nat}{mZ:List aJ}{st:bb}{A:cU}(h:sw nw n0 N mZ st A){s:Nat}{p:ag}(ao:get s st.t=p):sw nw n0 N mZ {st with t:=put s p st.t} A:=by
 refine⟨⟨fun i=>?_,h.like.b,h.like.e⟩,h.n,h.F,h.o⟩;simp only[pM];split
 ·rename_i e;subst e;rw[<-ao];exact h.like.t _
 ·exact h.like.t i
theorem Md{nw:List Nat}{n0 N:Nat}{mZ:List aJ}{st:bb}{A:cU}(h:sw nw n0 N mZ st A)(d:be Nat):sw nw n0 N mZ {st with t:=e6 d (.tuple []) st.t} (A.do (kY d)):=by
 refine⟨⟨fun i=>?_,fun k=>?_,fun k=>?_⟩,h.n,fun k aa al=>⟨h.F k aa al,by simp[kY]⟩,h.o⟩
 ·simp only[cU.do,kY];cases d with
  |none=>simpa[e6]using h.like.t i
  |some d=>simp only[e6,pM,dL,h.like.t]
 ·simpa[cU.do,ic,look,kY]using h.like.b k
 ·simpa[cU.do,ic,look,kY]using h.like.e k
theorem Be{P:bW}{q:Bool}{nw:List Nat}{n0 N:Nat}{mZ:List aJ}{K:bb->Prop}:∀(gs:List cL) (k:Nat),y0 N gs=true->∀(st:bb) (A:cU),sw nw n0 N mZ st A->AH nw A->hF P q nw n0 gs st K->vr P q n0 (fun A'=> ∃st',K st'/\sw nw n0 N mZ st' A') (yD k gs) A
 |[],k,_,st,A,h,_,he=>⟨st,he,h⟩
 |⟨Ib,i⟩::r,k,a7,st,A,h,ja,he=>by
  simp only[y0,bB]at a7;have fF:∀d,i.dst=some d->d<N:=fun d e=>by have:=a7.1;rw[e]at this;simpa[hE]using this
  simp only[yD,vr];cases Ib with
  |none=>simp only[hF]at he;obtain⟨x,st',I,J,av⟩:=Ou fF h ja he;have aO:kr P q n0 ⟨none,i⟩ A x:=I;exact⟨x,aO,Be r (k+1) a7.2 st' _ av (ja.do aO) J⟩
  |some yu=>
   obtain⟨s,want⟩:=yu;simp only[hF]at he;split at he
   ·rename_i b af;by_cases e:b=want
    ·subst e;obtain⟨x,st',I,J,av⟩:=Ou fF (Mc h af) ja (he.1 rfl);have aO:kr P q n0 ⟨some (s,b),i⟩ A x:=by unfold kr;simp only[<-h.like.t,af];exact .inl ⟨trivial,I⟩
     exact⟨x,aO,Be r (k+1) a7.2 st' _ av (ja.do aO) J⟩
    ·have hq:b= !want:=by cases b<;>cases want<;>simp at e⊢
     subst hq;have aO:kr P q n0 ⟨some (s,want),i⟩ A (kY i.dst):=by unfold kr;simp only[<-h.like.t,af];exact .inr ⟨trivial,trivial⟩
     exact⟨kY i.dst,aO,Be r (k+1) a7.2 _ _ (Md (Mc h af) i.dst) (ja.do aO) (he.2 rfl)⟩
   ·rename_i af;have aO:kr P q n0 ⟨some (s,want),i⟩ A (kY i.dst):=by unfold kr;simp only[<-h.like.t,af]
    exact⟨kY i.dst,aO,Be r (k+1) a7.2 _ _ (Md h i.dst) (ja.do aO) he⟩
   ·exact he.elim
theorem KQ:∀(gs:List cL) (l:Array Bool) (k:Nat),(∀j,l.getD j false=false)->rem l k gs=yD k gs
 |[],_,_,_=>rfl
 |g::r,l,k,h=>by simp only[rem,h k,yD,KQ r l (k+1) h];simp
def tF(n:Nat)(o:List aJ)(K:bb->Prop)(st:bb):Prop:=K {st with n:=n,o:=o}
theorem Good.like{pr:Nat->Prop}{w:World}{ν:aT}{b fy:List (aJ×List ag)}{e iX:List (aJ×dw)}(h:Good pr w ν b e)(af:∀k,look k fy=look k b)(he:∀k,look k iX=look k e):Good pr w ν fy iX:=
 ⟨h.alt,fun k cs aa=>h.box k cs (by rw[<-af];exact aa),fun k bz bl I J=>h.inj k bz bl (by rw[<-af];exact I) (by rw[<-af];exact J),fun g o aO=>h.own g o (by rw[<-he];exact aO),
  fun g eK n n' v v' bl I J=>h.oinj g eK n n' v v' bl (by rw[<-he];exact I) (by rw[<-he];exact J),fun g k n v bl I J=>h.obx g k n v bl (by rw[<-he];exact I) (by rw[<-af];exact J),h.one,
  fun bl aI=>h.otr bl (aI.imp (fun⟨k,bV,a2⟩=>⟨k,by rw[<-af];exact bV,a2⟩) (fun⟨g,n,v,bV,a2⟩=>⟨g,n,v,by rw[<-he];exact bV,a2⟩))⟩
theorem Ow{P:bW}(hm:P.follows .mixedOrders=true){bs:List (Nat×du)}(aI:fS P bs=true){C:eH}{q:Bool}{nw:List Nat}{id:Nat}{ops:Array Oper}{gs:List cL}(gu:j3 C.N bs ops.toList gs ops.toList=true)(Et:AV gs ops.toList=true)(hJ:y0 C.N gs=true)
  {K:bb->Prop} {Q:Exit->Act->World->Prop} (lH:∀st' cV w' ν',K st'->ct C st' cV w' ν'->Q .normal cV w') {st:bb} {a:Act} {w:World} {ν:aT} (aba:∀j∈nw,.obj j∉st.o) (he:hF P q nw st.n gs st (tF (st.n+C.N) (nw.map aJ.obj++st.o) K)) (hr:ct C st a w ν):(Code.region id ops true).wp P Q a w:=by
 refine wp_region_any hm ?_;have dv:ct C st a {w with drawn:=w.drawn+1} ν:=hr.drawn _;let A:cU:=⟨fun i=>get i st.t,fun k=>look k st.b,fun k=>look k st.e,fresh st.n st.o⟩
 have h2:sw nw st.n C.N st.o st A:=⟨⟨fun _=>rfl,fun _=>rfl,fun _=>rfl⟩,rfl,fun k aa _=>aa,fun k aa=>.inl aa⟩;have nu:=Be gs 0 hJ st A h2 (fun j al _ _=>⟨trivial,aba j al⟩) he;have od:∀j,(Array.replicate ops.size false).getD j false=false:=fun j=>by simp[Array.getD_eq_getD_getElem?,Array.getElem?_replicate];split<;>rfl
 refine U2 aI gu Et (q:=q) (n0:=st.n) (K:=fun A'=> ∃st',tF (st.n+C.N) (nw.map aJ.obj++st.o) K st'/\sw nw st.n C.N st.o st' A') ?_ ops.size _ A a _ Ψ ?_ ?_ (by rw[KQ gs _ 0 od];exact nu) ⟨st,ν,h2.like,fun k aa=>aa,dv⟩
 ·rintro A' cV w' ⟨st',aa,b4⟩ ⟨akS,ν',j9,ZG,nC⟩;refine lH _ cV w' ν' aa ⟨nC.good.like (fun k=>by rw[j9.b,<-b4.like.b]) (fun k=>by rw[j9.e,<-b4.like.e]),nC.fr,nC.defers,nC.size,fun i=>?_,fun k zt=>?_,nC.ext,fun m hm aM=>dv.obk m hm (xm (Nat.le_add_right _ _) (fun _ h=>List.mem_append_right _ h) aM)⟩
  ·have:=nC.slot i;rw[j9.t,<-b4.like.t]at this;exact this
  ·refine nC.new k (ZG k (b4.F k ?_ fun j al e=>zt.2 (by subst e;exact rf _ (List.mem_map_of_mem al))));simp only at zt;refine⟨(xm (Nat.le_add_right st.n C.N) (fun _ h=>h) zt).1,fun kB=>?_⟩;rcases b4.o k kB with h|⟨d,a7,rfl⟩|⟨j,al,rfl⟩;rotate_left 2
   ·exact zt.2 (rf _ (List.mem_map_of_mem al))
   ·exact zt.2 (List.mem_append_right _ h)
   ·have:=zt.1;simp at this;omega
 ·intro k o aa aE;rw[od]at aE;cases aE
 ·rw[KQ gs _ 0 od];have:∀(gs:List cL) k,(yD k gs).length=gs.length:=by
   intro gs;induction gs with
   |nil=>intro k;rfl
   |cons g r a8=>intro k;simp[yD,a8]
  rw[this];have:=Ie gu;simp at this;omega
mutual
def iP:ag->List (aJ×Nat)
 | .slice _ tag _=>match tag with| .tr k i=>[(k,i)]|_=>[]
 | .agg cs=>kj cs
 |_=>[]
def kj:List ag->List (aJ×Nat)
 |[]=>[]
 |x::xs=>iP x++kj xs
end
mutual
def kW:ag->Prop
 | .int _ _=>True
 | .bool _=>True
 | .str _=>True
 | .slice _ tag xs=>match tag with| .tr k _=>k≠tt|_=>xs=[]
 | .agg cs=>ti cs
 |_=>dK
def ti:List ag->Prop
 |[]=>True
 |x::xs=>kW x/\ti xs
end
def lr(ν:aT)(l:List (aJ×Nat))(b:Nat):Prop:= ∃k i,(k,i)∈l/\ν.tr k i b
theorem zM{ν:aT}{l cQ:List (aJ×Nat)}(h:∀x∈l,x∈cQ)(b:Nat)(af:lr ν l b):lr ν cQ b:=by obtain⟨k,i,I,J⟩:=af;exact⟨k,i,h _ I,J⟩
theorem J0{ν:aT}(fP:∀k j bz e4 b,ν.tr k j b->ν.tr bz e4 b->k=bz/\j=e4){l cQ:List (aJ×Nat)}(h:(l++cQ).Nodup)(b:Nat)(I:lr ν l b):¬lr ν cQ b:=by rintro⟨bz,kR,av,aV⟩;obtain⟨k,i,I,J⟩:=I;obtain⟨rfl,rfl⟩:=fP k i bz kR b J aV;rw[ss]at h;exact h.2.2 _ I _ av rfl
mutual
theorem Ke{w:World}{ν:aT}(fP:∀k j bz e4 b,ν.tr k j b->ν.tr bz e4 b->k=bz/\j=e4):∀(p:ag) (v:Value),aR w ν p v->kW p->(iP p).Nodup->dy true w ν.A (lr ν (iP p)) (dr p) v
 | .int k n,v,h,_,_=>by simpa only[aR,dr,dy]using h
 | .bool b,v,h,_,_=>by simpa only[aR,dr,dy]using h
 | .str s,v,h,_,_=>by simpa only[aR,dr,dy]using h
 | .slice sz tag xs,v,h,aj,_=>by
  simp only[aR]at h;obtain⟨⟨a,cap,I,J,av,aV⟩,_,_,fa,_⟩:=h;by_cases aI:∃k i,tag= .tr k i
  ·obtain⟨k,i,rfl⟩:=aI;refine Ec _ _ v (xo (fun _ _ h=>⟨h,rfl⟩) (fun _ _ _=>rfl) _ _ _ v (fun b af=>?_) (fa k i rfl));exact⟨k,i,by simp[iP],af⟩
  ·have ad:xs=[]:=by
    simp only[kW]at aj;split at aj
    ·exact absurd ⟨_,_,rfl⟩ aI
    ·exact aj
   subst ad;simp only[dr,cO,dy];exact⟨a,cap,I,J,av,.inl trivial⟩
 | .agg cs,v,h,aj,aK=>by simp only[aR,kW,iP,dr,dy]at h aj aK⊢;obtain⟨us,I,J⟩:=h;exact⟨us,I,R0 fP cs _ J aj aK⟩
 | .junk,_,_,aj,_=>by simp[kW]at aj
 | .ptr _ _,_,_,aj,_=>by simp[kW]at aj
 | .eptr _,_,_,aj,_=>by simp[kW]at aj
 | .iface _ _,_,_,aj,_=>by simp[kW]at aj
 | .nilp,_,_,aj,_=>by simp[kW]at aj
 | .tuple _,_,_,aj,_=>by simp[kW]at aj
 | .func _ _,_,_,aj,_=>by simp[kW]at aj
 | .gmap _,_,_,aj,_=>by simp[kW]at aj
 | .row _ _ _,_,_,aj,_=>by simp[kW]at aj
 | .rptr _ _ _ _ _,_,_,aj,_=>by simp[kW]at aj
 | .hdm _ _,_,_,aj,_=>by simp[kW]at aj
 | .hdi _ _ _,_,_,aj,_=>by simp[kW]at aj
 | .cst _,_,_,aj,_=>by simp[kW]at aj
theorem R0{w:World}{ν:aT}(fP:∀k j bz e4 b,ν.tr k j b->ν.tr bz e4 b->k=bz/\j=e4):∀(cs:List ag) (us:List Value),cG w ν cs us->ti cs->(kj cs).Nodup->n4 true w ν.A (lr ν (kj cs)) (cO cs) us
 |[],us,h,_,_=>by simpa only[cG,cO,n4]using h
 |c::cs,us,h,aj,aK=>by simp only[cG,ti,kj,cO,n4]at h aj aK⊢;obtain⟨u,bF,I,⟨J,av⟩,aV⟩:=h;have hb:=ss.1 aK;exact⟨u,bF,lr ν (iP c),lr ν (kj cs),I,⟨zM (fun x ad=>rf _ ad),zM (fun x ad=>List.mem_append_right _ ad),fun _ b af=>J0 fP aK b af⟩,⟨Ke fP c u J aj.1 hb.1,av⟩,R0 fP cs bF aV aj.2 hb.2.1⟩
end
theorem Kf{w:World}{ν:aT}(fP:∀k j bz e4 b,ν.tr k j b->ν.tr bz e4 b->k=bz/\j=e4){sz:Nat}:∀(cs:List ag) (us:List Value),cI w ν sz cs us->ti cs->(kj cs).Nodup->n3 true w ν.A (lr ν (kj cs)) sz (cO cs) us
 |[],us,h,_,_=>by simpa only[cI,cO,n3]using h
 |c::cs,us,h,aj,aK=>by simp only[cI,ti,kj,cO,n3]at h aj aK⊢;obtain⟨u,bF,I,⟨J,av⟩,aV⟩:=h;have hb:=ss.1 aK;exact⟨u,bF,lr ν (iP c),lr ν (kj cs),I,⟨zM (fun x ad=>rf _ ad),zM (fun x ad=>List.mem_append_right _ ad),fun _ b af=>J0 fP aK b af⟩,⟨Ke fP c u J aj.1 hb.1,av⟩,Kf fP cs bF aV aj.2 hb.2.1⟩
mutual
theorem H5{t:Bool}{w:World}{A:Nat->Nat->Prop}{ν:aT}(bg:∀b o,A b o->ν.A b o):∀(p:ag) (F:Nat->Prop) (v:Value),dy t w A F p v->aR w ν (dr p) v
 | .int k n,_,_,h=>by simpa only[aR,dr,dy]using h
 | .bool b,_,_,h=>by simpa only[aR,dr,dy]using h
 | .str s,_,_,h=>by simpa only[aR,dr,dy]using h
 | .slice sz tag xs,F,v,h=>by
  simp only[dy,dr,aR]at h⊢;obtain⟨a,cap,I,J,av,aV⟩:=h;refine⟨⟨a,cap,by rw[mA];exact I,by rw[mA];exact J,by rw[mA];exact av,?_⟩,fun e=>(by cases e),fun g e=>(by cases e),fun _ _ e=>(by cases e),fun _ e=>(by cases e)⟩;rcases aV with rfl|⟨b,off,us,G,aq,_,_,ds,_,gY⟩
  ·exact .inl rfl
  ·exact .inr ⟨b,off,us,aq,vZ (fun b o h=>⟨bg b o h,rfl⟩) _ _ ds,O8 bg xs G us gY⟩
 | .agg cs,F,v,h=>by simp only[dy,dr,aR]at h⊢;obtain⟨us,I,J⟩:=h;exact⟨us,I,Pa bg cs F _ J⟩
 | .junk,_,_,h=>by simp[dy]at h
 | .ptr _ _,_,_,h=>by simp[dy]at h
 | .eptr _,_,_,h=>by simp[dy]at h
 | .iface _ _,_,_,h=>by simp[dy]at h
 | .nilp,_,_,h=>by simp[dy]at h
 | .tuple _,_,_,h=>by simp[dy]at h
 | .func _ _,_,_,h=>by simp[dy]at h
 | .gmap _,_,_,h=>by simp[dy]at h
 | .row _ _ _,_,_,h=>by simp[dy]at h
 | .rptr _ _ _ _ _,_,_,h=>by simp[dy]at h
 | .hdm _ _,_,_,h=>by simp[dy]at h
 | .hdi _ _ _,_,_,h=>by simp[dy]at h
 | .cst _,_,_,h=>by simp[dy]at h
theorem Pa{t:Bool}{w:World}{A:Nat->Nat->Prop}{ν:aT}(bg:∀b o,A b o->ν.A b o):∀(cs:List ag) (F:Nat->Prop) (us:List Value),n4 t w A F cs us->cG w ν (cO cs) us
 |[],_,_,h=>by simpa only[n4,cO,cG]using h
 |c::cs,F,us,h=>by simp only[n4,cO,cG]at h⊢;obtain⟨u,bF,jx,jy,I,_,⟨bE,ch⟩,dD⟩:=h;exact⟨u,bF,I,⟨H5 bg c jx u bE,ch⟩,Pa bg cs jy bF dD⟩
theorem O8{t:Bool}{w:World}{A:Nat->Nat->Prop}{ν:aT}(bg:∀b o,A b o->ν.A b o){sz:Nat}:∀(cs:List ag) (F:Nat->Prop) (us:List Value),n3 t w A F sz cs us->cI w ν sz (cO cs) us
 |[],_,_,h=>by simpa only[n3,cO,cI]using h
 |c::cs,F,us,h=>by simp only[n3,cO,cI]at h⊢;obtain⟨u,bF,jx,jy,I,_,⟨bE,ch⟩,dD⟩:=h;exact⟨u,bF,I,⟨H5 bg c jx u bE,ch⟩,O8 bg cs jy bF dD⟩
end
mutual
theorem Lh:∀p:ag,dr (dr p)=dr p
 | .slice _ _ xs=>by simp[dr,wC xs]
 | .agg cs=>by simp[dr,wC cs]
 | .tuple vs=>by simp[dr,wC vs]
 | .eptr x=>by simp[dr,Lh x]
 | .iface t x=>by simp[dr,Lh x]
 | .func f dI=>by simp[dr,wC dI]
 | .junk=>rfl
 | .int _ _=>rfl
 | .bool _=>rfl
 | .str _=>rfl
 | .ptr _ _=>rfl
 | .nilp=>rfl
 | .gmap _=>rfl
 | .row _ _ _=>rfl
 | .rptr _ _ _ _ _=>rfl
 | .hdm _ _=>rfl
 | .hdi _ _ _=>rfl
 | .cst _=>rfl
theorem wC:∀xs:List ag,cO (cO xs)=cO xs
 |[]=>rfl
 |x::xs=>by simp[cO,Lh x,wC xs]
end
mutual
def fi:ag->List aJ
 | .slice _ tag _=>match tag with| .own k=>[k]|_=>[]
 | .row _ k _=>[k]
 | .agg cs=>nL cs
 | .tuple cs=>nL cs
 |_=>[]
def nL:List ag->List aJ
 |[]=>[]
 |x::xs=>fi x++nL xs
end
def uX(e:List (aJ×dw))(k:aJ):List ag:=((look k e).bind (·.xs)).getD []
mutual
def gm(e:List (aJ×dw)):ag->List (aJ×Nat)
 | .slice _ tag xs=>match tag with| .tr k i=>[(k,i)]| .own _=>kj xs|_=>[]
 | .row _ k _=>kj (uX e k)
 | .agg cs=>pb e cs
 | .tuple cs=>pb e cs
 |_=>[]
def pb(e:List (aJ×dw)):List ag->List (aJ×Nat)
 |[]=>[]
 |x::xs=>gm e x++pb e xs
end
mutual
def im(e:List (aJ×dw)):ag->Prop
 | .int _ _=>True
 | .bool _=>True
 | .str _=>True
 | .slice sz tag xs=>match tag with| .tr k _=>k≠tt| .own k=>True/\(∃el,look k e=some ⟨xs.length,el,sz,none⟩)/\ti xs/\0<sz|_=>xs=[]
 | .row sz k n=>True/\(∃xs el,look k e=some ⟨n,el,sz,some xs⟩/\ti xs)/\0<sz
 | .agg cs=>r7 e cs
 | .tuple cs=>r7 e cs
 |_=>dK
def r7(e:List (aJ×dw)):List ag->Prop
 |[]=>True
 |x::xs=>im e x/\r7 e xs
end
mutual
def tO:ag->Nat
 | .slice _ _ _=>1
 | .row _ _ _=>1
 | .agg cs=>A5 cs
 | .tuple cs=>A5 cs
 |_=>0
def A5:List ag->Nat
 |[]=>0
 |x::xs=>tO x+A5 xs
end
mutual
def fold(κ:Nat)(e:List (aJ×dw)):Nat->ag->ag
 |j,.slice sz _ xs=>.slice sz (.tr (.loc κ) j) (cO xs)
 |j,.row sz k _=>.slice sz (.tr (.loc κ) j) (cO (uX e k))
 |j,.agg cs=>.agg (tS κ e j cs)
 |j,.tuple cs=>.tuple (tS κ e j cs)
 |_,p=>p
def tS(κ:Nat)(e:List (aJ×dw)):Nat->List ag->List ag
 |_,[]=>[]
 |j,x::xs=>fold κ e j x::tS κ e (j+tO x) xs
end
def mz(ν:aT)(k:aJ)(b:Nat):Prop:= ∃n v,ν.ow k=some (n,v)/\v.ownBlock=some b
mutual
def eT(ν:aT)(R:Nat->Prop)(e:List (aJ×dw)):ag->List (Nat->Prop)
 | .slice _ tag xs=>match tag with| .tr k i=>[fun b=>ν.tr k i b/\¬R b]| .own k=>[fun b=>mz ν k b\/(lr ν (kj xs) b/\¬R b)]|_=>[fun _=>dK]
 | .row _ k _=>[fun b=>mz ν k b\/(lr ν (kj (uX e k)) b/\¬R b)]
 | .agg cs=>nM ν R e cs
 | .tuple cs=>nM ν R e cs
 |_=>[]
def nM(ν:aT)(R:Nat->Prop)(e:List (aJ×dw)):List ag->List (Nat->Prop)
 |[]=>[]
 |x::xs=>eT ν R e x++nM ν R e xs
end
mutual
theorem yr(ν:aT)(R:Nat->Prop)(e:List (aJ×dw)):∀p,(eT ν R e p).length=tO p
 | .slice _ tag _=>by cases tag<;>simp[eT,tO]
 | .row _ k _=>by simp[eT,tO]
 | .agg cs=>by simp[eT,tO,Le ν R e cs]
 | .tuple cs=>by simp[eT,tO,Le ν R e cs]
 | .int _ _=>rfl
 | .bool _=>rfl
 | .str _=>rfl
 | .junk=>rfl
 | .ptr _ _=>rfl
 | .eptr _=>rfl
 | .iface _ _=>rfl
 | .nilp=>rfl
 | .func _ _=>rfl
 | .gmap _=>rfl
 | .rptr _ _ _ _ _=>rfl
 | .hdm _ _=>rfl
 | .hdi _ _ _=>rfl
 | .cst _=>rfl
theorem Le(ν:aT)(R:Nat->Prop)(e:List (aJ×dw)):∀p,(nM ν R e p).length=A5 p
 |[]=>rfl
 |x::xs=>by simp[nM,A5,yr ν R e x,Le ν R e xs]
end
def Ea(ν:aT)(R:Nat->Prop)(ns:List (aJ×Nat))(rw:List aJ)(b:Nat):Prop:=(∃k∈rw,mz ν k b)\/(lr ν ns b/\¬R b)
mutual
theorem Gy{ν:aT}{R:Nat->Prop}{e:List (aJ×dw)}:∀(p:ag) (i:Nat) (S:Nat->Prop),(eT ν R e p)[i]? =some S->∀b,S b->Ea ν R (gm e p) (fi p) b
 | .slice _ tag _,i,S,h,b,af=>by
  cases tag<;>(simp only[eT]at h;cases i<;>simp at h;subst h);all_goals first|exact af.elim|skip
  ·rcases af with af|af
   ·exact .inl ⟨_,by simp[fi],af⟩
   ·exact .inr (by simpa only[gm]using af)
  ·exact .inr ⟨⟨_,_,by simp[gm],af.1⟩,af.2⟩
 | .row _ k _,i,S,h,b,af=>by
  simp only[eT]at h;cases i<;>simp at h;subst h;rcases af with af|af
  ·exact .inl ⟨k,by simp[fi],af⟩
  ·exact .inr (by simpa only[gm]using af)
 | .agg cs,i,S,h,b,af=>by simp only[eT,gm,fi]at h⊢;exact C3 cs i S h b af
 | .tuple cs,i,S,h,b,af=>by simp only[eT,gm,fi]at h⊢;exact C3 cs i S h b af
 | .int _ _,_,_,h,_,_=>by simp[eT]at h
 | .bool _,_,_,h,_,_=>by simp[eT]at h
 | .str _,_,_,h,_,_=>by simp[eT]at h
 | .junk,_,_,h,_,_=>by simp[eT]at h
 | .ptr _ _,_,_,h,_,_=>by simp[eT]at h
 | .eptr _,_,_,h,_,_=>by simp[eT]at h
 | .iface _ _,_,_,h,_,_=>by simp[eT]at h
 | .nilp,_,_,h,_,_=>by simp[eT]at h
 | .func _ _,_,_,h,_,_=>by simp[eT]at h
 | .gmap _,_,_,h,_,_=>by simp[eT]at h
 | .rptr _ _ _ _ _,_,_,h,_,_=>by simp[eT]at h
 | .hdm _ _,_,_,h,_,_=>by simp[eT]at h
 | .hdi _ _ _,_,_,h,_,_=>by simp[eT]at h
 | .cst _,_,_,h,_,_=>by simp[eT]at h
theorem C3{ν:aT}{R:Nat->Prop}{e:List (aJ×dw)}:∀(p:List ag) (i:Nat) (S:Nat->Prop),(nM ν R e p)[i]? =some S->∀b,S b->Ea ν R (pb e p) (nL p) b
 |[],i,S,h,b,af=>by simp[nM]at h
 |x::xs,i,S,h,b,af=>by
  simp only[nM]at h;simp only[pb,nL];by_cases aw:i<(eT ν R e x).length
  ·rw[mF aw]at h;rcases Gy x i S h b af with⟨k,I,J⟩|⟨I,J⟩
   ·exact .inl ⟨k,rf _ I,J⟩
   ·exact .inr ⟨zM (fun _ h=>rf _ h) b I,J⟩
  ·rw[rb Ω]at h;rcases C3 xs _ S h b af with⟨k,I,J⟩|⟨I,J⟩
   ·exact .inl ⟨k,List.mem_append_right _ I,J⟩
   ·exact .inr ⟨zM (fun _ h=>List.mem_append_right _ h) b I,J⟩
end
structure AF (ν:aT) (R:Nat->Prop) (rw:List aJ):Prop where
 trd:∀k j bz e4 b,ν.tr k j b->ν.tr bz e4 b->k=bz/\j=e4
 inj:∀k bz b,k∈rw->bz∈rw->mz ν k b->mz ν bz b->k=bz
 R:∀k b,k∈rw->mz ν k b->R b
theorem O7{ν:aT}{R:Nat->Prop}{rw:List aJ}(he:AF ν R rw){gV fH:List (aJ×Nat)}{fp fI:List aJ}(aK:(gV++fH).Nodup)(hr:(fp++fI).Nodup)(I:∀k∈fp,k∈rw)(J:∀k∈fI,k∈rw)(b:Nat)(af:Ea ν R gV fp b):¬Ea ν R fH fI b:=by
 rintro hq;rcases af with⟨k,dh,ed⟩|⟨dh,ed⟩<;>rcases hq with⟨bz,kf,pZ⟩|⟨kf,pZ⟩
 ·have:=he.inj k bz b (I k dh) (J bz kf) ed pZ;subst this;exact(ss.1 hr).2.2 _ dh _ kf rfl
 ·exact pZ (he.R k b (I k dh) ed)
 ·exact ed (he.R bz b (J bz kf) pZ)
 ·exact J0 he.trd aK b dh kf
mutual
theorem TL{ν:aT}{R:Nat->Prop}{rw:List aJ}(he:AF ν R rw){e:List (aJ×dw)}:∀(p:ag),(gm e p).Nodup->(fi p).Nodup->(∀k∈fi p,k∈rw)->∀(i kR:Nat) (S k4:Nat->Prop),(eT ν R e p)[i]? =some S->(eT ν R e p)[kR]? =some k4->∀b,S b->k4 b->i=kR
 | .slice sz tag xs,_,_,_,i,kR,S,k4,h,cr,b,_,_=>by have aE:(eT ν R e (.slice sz tag xs)).length=1:=yr ν R e _;have:=(cX.1 h).1;have:=(cX.1 cr).1;omega
 | .row sz k n,_,_,_,i,kR,S,k4,h,cr,b,_,_=>by have aE:(eT ν R e (.row sz k n)).length=1:=yr ν R e _;have:=(cX.1 h).1;have:=(cX.1 cr).1;omega
 | .agg cs,aK,hr,aa,i,kR,S,k4,h,cr,b,af,hq=>by simp only[eT,gm,fi]at h cr aK hr aa;exact Ld he cs aK hr aa i kR S k4 h cr b af hq
 | .tuple cs,aK,hr,aa,i,kR,S,k4,h,cr,b,af,hq=>by simp only[eT,gm,fi]at h cr aK hr aa;exact Ld he cs aK hr aa i kR S k4 h cr b af hq
 | .int _ _,_,_,_,_,_,_,_,h,_,_,_,_=>by simp[eT]at h
 | .bool _,_,_,_,_,_,_,_,h,_,_,_,_=>by simp[eT]at h
 | .str _,_,_,_,_,_,_,_,h,_,_,_,_=>by simp[eT]at h
 | .junk,_,_,_,_,_,_,_,h,_,_,_,_=>by simp[eT]at h
 | .ptr _ _,_,_,_,_,_,_,_,h,_,_,_,_=>by simp[eT]at h
 | .eptr _,_,_,_,_,_,_,_,h,_,_,_,_=>by simp[eT]at h
 | .iface _ _,_,_,_,_,_,_,_,h,_,_,_,_=>by simp[eT]at h
 | .nilp,_,_,_,_,_,_,_,h,_,_,_,_=>by simp[eT]at h
 | .func _ _,_,_,_,_,_,_,_,h,_,_,_,_=>by simp[eT]at h
 | .gmap _,_,_,_,_,_,_,_,h,_,_,_,_=>by simp[eT]at h
 | .rptr _ _ _ _ _,_,_,_,_,_,_,_,h,_,_,_,_=>by simp[eT]at h
 | .hdm _ _,_,_,_,_,_,_,_,h,_,_,_,_=>by simp[eT]at h
 | .hdi _ _ _,_,_,_,_,_,_,_,h,_,_,_,_=>by simp[eT]at h
 | .cst _,_,_,_,_,_,_,_,h,_,_,_,_=>by simp[eT]at h
theorem Ld{ν:aT}{R:Nat->Prop}{rw:List aJ}(he:AF ν R rw){e:List (aJ×dw)}:∀(p:List ag),(pb e p).Nodup->(nL p).Nodup->(∀k∈nL p,k∈rw)->∀(i kR:Nat) (S k4:Nat->Prop),(nM ν R e p)[i]? =some S->(nM ν R e p)[kR]? =some k4->∀b,S b->k4 b->i=kR
 |[],_,_,_,i,kR,S,k4,h,_,_,_,_=>by simp[nM]at h
 |x::xs,aK,hr,aa,i,kR,S,k4,h,cr,b,af,hq=>by
  simp only[nM]at h cr;simp only[pb]at aK;simp only[nL]at hr aa;have dh:∀k∈fi x,k∈rw:=fun k bK=>aa k (rf _ bK);have ed:∀k∈nL xs,k∈rw:=fun k bK=>aa k (List.mem_append_right _ bK);by_cases aw:i<(eT ν R e x).length<;>by_cases BD:kR<(eT ν R e x).length
  ·rw[mF aw]at h;rw[mF BD]at cr;exact TL he x (ss.1 aK).1 (ss.1 hr).1 dh i kR S k4 h cr b af hq
  ·rw[mF aw]at h;rw[rb Ω]at cr;exact absurd (C3 xs _ k4 cr b hq) (O7 he aK hr dh ed b (Gy x i S h b af))
  ·rw[rb Ω]at h;rw[mF BD]at cr;exact absurd (C3 xs _ S h b af) (O7 he aK hr dh ed b (Gy x kR k4 cr b hq))
  ·rw[rb Ω]at h cr;have:=Ld he xs (ss.1 aK).2.1 (ss.1 hr).2.1 ed _ _ S k4 h cr b af hq;omega
end
end
section
open Go Go.RowKit
theorem Lt{w:World}{μ:aT}{k:aJ}{j sz:Nat}{tag:yN}{ys:List ag}{v:Value}(h:dy true w μ.A (μ.tr k j) (.slice sz tag ys) v)(bC:cO ys=ys):aR w μ (.slice sz (.tr k j) ys) v:=by have I:=H5 (ν:=μ) (fun _ _ h=>h) _ _ _ h;simp only[dr,bC]at I;simp only[aR]at I⊢;refine⟨I.1,fun e=>(by cases e),fun _ e=>(by cases e),fun bz e4 e=>?_,fun _ e=>(by cases e)⟩;cases e;simp only[dy]at h⊢;exact h
section
variable {pr:Nat->Prop} {w:World} {ν μ:aT} {B:List (aJ×List ag)} {e:List (aJ×dw)} {R:Nat->Prop} {rw:List aJ} {κ:Nat}
 (aO:Good pr w ν B e) (he:AF ν R rw) (bh:∀b,R b->∀k j,¬ν.tr k j b) (Bq:∀b o,ν.A b o->μ.A b o) (PA:∀k∈rw,∀own,look k e=some own->∀b,mz ν k b->∀o,o<own.n*own.sz->μ.A b o)
include aO he bh Bq PA
mutual
theorem H4:∀(p:ag) (v:Value) (j:Nat),aR w ν p v->im e p->(gm e p).Nodup->(∀k∈fi p,k∈rw)->(∀i S,(eT ν R e p)[i]? =some S->∀b,S b->μ.tr (.loc κ) (j+i) b)->aR w μ (fold κ e j p) v
 | .int k n,v,_,h,_,_,_,_=>by simpa only[aR,fold]using h
 | .bool b,v,_,h,_,_,_,_=>by simpa only[aR,fold]using h
 | .str s,v,_,h,_,_,_,_=>by simpa only[aR,fold]using h
 | .slice sz tag xs,v,j,h,aj,aK,aa,ao=>by
  simp only[aR]at h;obtain⟨⟨a,cap,I,J,av,aV⟩,_,dD,fa,_⟩:=h;simp only[fold];refine Lt (tag:= .no) ?_ (wC xs);by_cases aI:∃k i,tag= .tr k i
  ·obtain⟨k,i,rfl⟩:=aI;have aM:=H6 .no v (fa k i rfl);refine xo (fun b o h=>⟨Bq b o h,rfl⟩) (fun _ _ _=>rfl) _ _ _ v (fun b af=>?_) aM;simpa using ao 0 (fun b=>ν.tr k i b/\¬R b) (by simp[eT]) b ⟨af,fun hr=>bh b hr _ _ af⟩
  by_cases B3:∃k,tag= .own k
  ·obtain⟨k,rfl⟩:=B3;simp only[im]at aj;obtain⟨_,⟨el,aE⟩,nA,ev⟩:=aj;obtain⟨n',u,g1,g2,g3⟩:=dD k rfl;obtain⟨v0,eN,b9,cx,dp,c6⟩:=aO.own k _ aE;simp only at b9 cx dp;rw[g1]at b9;simp only[dL,gp]at b9;obtain⟨rfl,rfl⟩:=b9;have Jl:=g3 rfl;subst Jl;have EP:k∈rw:=aa k (by simp[fi]);simp only[dy];refine⟨a,cap,by rw[mA];exact I,by rw[mA];exact J,by rw[mA];exact av,?_⟩;rcases aV with rfl|⟨b,off,us,aq,ds,gY⟩
   ·exact .inl rfl
   by_cases qO:xs=[]
   ·left;rw[qO];rfl
   right;subst aq;rcases cx.2 with⟨aq,_⟩|⟨g,w8,cur,f1,f2,f3,f4,f5,f6,f7⟩
   ·rw[aq]at I;cases I
   have jf:v.ownBlock=some g:=by rw[f1];rfl
   have zx:mz ν k g:=⟨_,_,g1,jf⟩;have zk:∀b,(mz ν k b\/(lr ν (kj xs) b/\¬R b))->μ.tr (.loc κ) j b:=fun b af=>by simpa using ao 0 (fun b=>mz ν k b\/(lr ν (kj xs) b/\¬R b)) (by simp[eT]) b af
   rw[f1]at I;simp only[alg,dL,Addr.mk.injEq]at I;obtain⟨⟨rfl,rfl,_⟩,_,rfl⟩:=I;have hlen:=qW gY;refine⟨g,0,us,fun c=>lr ν (kj xs) c/\¬R c,rfl,zk g (.inl zx),fun c aD=>⟨zk c (.inr aD),fun _ HJ=>aD.2 (by rw[HJ];exact he.R k g EP zx)⟩,vZ (fun b o h=>⟨Bq b o h,rfl⟩) _ _ ds,fun _=>⟨rfl,?_,el,?_⟩,?_⟩
   ·rw[hlen];exact Nat.mul_pos (re.2 qO) ev
   ·simp only[shape,f3,f6]
   ·have I:=Kf he.trd xs us gY nA (by simpa only[gm]using aK);exact Eb (fun b o h=>⟨Bq b o h,rfl⟩) (fun _ _ _=>rfl) _ _ _ us (fun b af=>⟨af,fun hr=>by obtain⟨bz,kR,_,aI⟩:=af;exact bh b hr _ _ aI⟩) I
  ·have ad:xs=[]:=by
    simp only[im]at aj;split at aj
    ·exact absurd ⟨_,_,rfl⟩ aI
    ·exact absurd ⟨_,rfl⟩ B3
    ·exact aj
   subst ad;simp only[cO,dy];exact⟨a,cap,I,J,av,.inl trivial⟩
 | .row sz k n,v,j,h,aj,aK,aa,ao=>by
  simp only[im]at aj;obtain⟨⟨m,hm⟩,⟨xs,el,aE,nA⟩,ev⟩:=aj;have ey:uX e k=xs:=by simp[uX,aE]
  simp only[aR]at h;obtain⟨⟨qu,c0,Qx⟩,fW,n',u,g1,g2,g3⟩:=h;obtain⟨v0,us,b9,cx,dp,c6⟩:=aO.own k _ aE;simp only at b9 cx dp;rw[g1]at b9;simp only[dL,gp]at b9;obtain⟨rfl,rfl⟩:=b9;have Jl:=g3 rfl;subst Jl;obtain⟨cH,iD,p6⟩:=c6 xs rfl;simp only at cH iD;have EP:k∈rw:=aa k (by simp[fi]);rcases cx.2 with⟨aq,_⟩|⟨g,cap,cur,f1,f2,f3,f4,f5,f6,f7⟩
  ·rw[aq]at Qx;cases Qx
  have jf:v.ownBlock=some g:=by rw[f1];rfl
  have zx:mz ν k g:=⟨_,_,g1,jf⟩;have zk:∀b,(mz ν k b\/(lr ν (kj (uX e k)) b/\¬R b))->μ.tr (.loc κ) j b:=fun b af=>by simpa using ao 0 (fun b=>mz ν k b\/(lr ν (kj (uX e k)) b/\¬R b)) (by simp[eT]) b af
  rw[ey]at zk;simp only[fold,ey];refine Lt (tag:= .no) ?_ (wC xs);simp only[dy];refine⟨some ⟨g,0,none⟩,cap,by rw[mA,cH];exact f1,by rw[mA,cH];exact f4,⟨f5,by rw[mA,cH];exact fW⟩,?_⟩;by_cases qO:xs=[]
  ·left;rw[qO];rfl
  ·right;have hlen:=qW iD;refine⟨g,0,us,fun c=>lr ν (kj xs) c/\¬R c,rfl,zk g (.inl zx),fun c aD=>⟨zk c (.inr aD),fun _ HJ=>aD.2 (by rw[HJ];exact he.R k g EP zx)⟩,xY us 0 fun i u aw=>?_,fun _=>⟨rfl,?_,el,?_⟩,?_⟩
   ·have ie:i<us.length:=(cX.1 aw).1;refine⟨PA k EP _ aE g zx _ (by simp only;rw[cx.1]at ie;omega),?_⟩;have:=cx.cells jf i u aw;rwa[nU]at this
   ·rw[hlen];exact Nat.mul_pos (re.2 qO) ev
   ·simp only[shape,f3,f6]
   ·have I:=Kf he.trd xs us iD nA (by simpa only[gm,ey]using aK);exact Eb (fun b o h=>⟨Bq b o h,rfl⟩) (fun _ _ _=>rfl) _ _ _ us (fun b af=>⟨af,fun hr=>by obtain⟨bz,kR,_,aI⟩:=af;exact bh b hr _ _ aI⟩) I
 | .agg cs,v,j,h,aj,aK,aa,ao=>by simp only[aR,im,gm,fi,eT,fold]at h aj aK aa ao⊢;obtain⟨us,I,J⟩:=h;exact⟨us,I,O4 cs _ j J aj aK aa ao⟩
 | .tuple cs,v,j,h,aj,aK,aa,ao=>by simp only[aR,im,gm,fi,eT,fold]at h aj aK aa ao⊢;obtain⟨us,I,J⟩:=h;exact⟨us,I,O5 cs _ j J aj aK aa ao⟩
 | .junk,_,_,_,aj,_,_,_=>by simp[im]at aj
 | .ptr _ _,_,_,_,aj,_,_,_=>by simp[im]at aj
 | .eptr _,_,_,_,aj,_,_,_=>by simp[im]at aj
 | .iface _ _,_,_,_,aj,_,_,_=>by simp[im]at aj
 | .nilp,_,_,_,aj,_,_,_=>by simp[im]at aj
 | .func _ _,_,_,_,aj,_,_,_=>by simp[im]at aj
 | .gmap _,_,_,_,aj,_,_,_=>by simp[im]at aj
 | .rptr _ _ _ _ _,_,_,_,aj,_,_,_=>by simp[im]at aj
 | .hdm _ _,_,_,_,aj,_,_,_=>by simp[im]at aj
 | .hdi _ _ _,_,_,_,aj,_,_,_=>by simp[im]at aj
 | .cst _,_,_,_,aj,_,_,_=>by simp[im]at aj
theorem O4:∀(cs:List ag) (us:List Value) (j:Nat),cG w ν cs us->r7 e cs->(pb e cs).Nodup->(∀k∈nL cs,k∈rw)->(∀i S,(nM ν R e cs)[i]? =some S->∀b,S b->μ.tr (.loc κ) (j+i) b)->cG w μ (tS κ e j cs) us
 |[],us,j,h,_,_,_,_=>by simpa only[cG,tS]using h
 |c::cs,us,j,h,aj,aK,aa,ao=>by
  simp only[cG,r7,pb,nL,nM,tS]at h aj aK aa ao⊢;obtain⟨u,bF,I,⟨J,av⟩,aV⟩:=h;have hb:=ss.1 aK;refine⟨u,bF,I,⟨H4 c u j J aj.1 hb.1 (fun k bK=>aa k (rf _ bK)) (fun i S aw b af=>ao i S (by rw[mF (cX.1 aw).1];exact aw) b af),av⟩,
   O4 cs bF _ aV aj.2 hb.2.1 (fun k bK=>aa k (List.mem_append_right _ bK)) (fun i S aw b af=>?_)⟩
  have:=ao (tO c+i) S (by rw[rb (by rw[yr];omega),yr];simpa using aw) b af;rwa[<-Nat.add_assoc]at this
theorem O5:∀(cs:List ag) (us:List Value) (j:Nat),cD w ν cs us->r7 e cs->(pb e cs).Nodup->(∀k∈nL cs,k∈rw)->(∀i S,(nM ν R e cs)[i]? =some S->∀b,S b->μ.tr (.loc κ) (j+i) b)->cD w μ (tS κ e j cs) us
 |[],us,j,h,_,_,_,_=>by simpa only[cD,tS]using h
 |c::cs,us,j,h,aj,aK,aa,ao=>by
  simp only[cD,r7,pb,nL,nM,tS]at h aj aK aa ao⊢;obtain⟨u,bF,I,J,aV⟩:=h;have hb:=ss.1 aK;refine⟨u,bF,I,H4 c u j J aj.1 hb.1 (fun k bK=>aa k (rf _ bK)) (fun i S aw b af=>ao i S (by rw[mF (cX.1 aw).1];exact aw) b af),
   O5 cs bF _ aV aj.2 hb.2.1 (fun k bK=>aa k (List.mem_append_right _ bK)) (fun i S aw b af=>?_)⟩
  have:=ao (tO c+i) S (by rw[rb (by rw[yr];omega),yr];simpa using aw) b af;rwa[<-Nat.add_assoc]at this
end
end
end
section
open Go Go.RowKit
mutual
theorem adi:∀p:ag,kW p->∀x∈iP p,x.1≠tt
 | .slice _ tag xs,aj,x,ad=>by cases tag<;>simp only[iP,kW]at aj ad<;>simp at ad;subst ad;exact aj
 | .agg cs,aj,x,ad=>by simp only[iP,kW]at aj ad;exact FT cs aj x ad
 | .int _ _,_,_,ad=>by simp[iP]at ad
 | .bool _,_,_,ad=>by simp[iP]at ad
 | .str _,_,_,ad=>by simp[iP]at ad
 | .junk,_,_,ad=>by simp[iP]at ad
 | .ptr _ _,_,_,ad=>by simp[iP]at ad
 | .eptr _,_,_,ad=>by simp[iP]at ad
 | .iface _ _,_,_,ad=>by simp[iP]at ad
 | .nilp,_,_,ad=>by simp[iP]at ad
 | .tuple _,_,_,ad=>by simp[iP]at ad
 | .func _ _,_,_,ad=>by simp[iP]at ad
 | .gmap _,_,_,ad=>by simp[iP]at ad
 | .row _ _ _,_,_,ad=>by simp[iP]at ad
 | .rptr _ _ _ _ _,_,_,ad=>by simp[iP]at ad
 | .hdm _ _,_,_,ad=>by simp[iP]at ad
 | .hdi _ _ _,_,_,ad=>by simp[iP]at ad
 | .cst _,_,_,ad=>by simp[iP]at ad
theorem FT:∀p:List ag,ti p->∀x∈kj p,x.1≠tt
 |[],_,x,ad=>by simp[kj]at ad
 |c::cs,aj,x,ad=>by
  simp only[kj,ti,iG]at aj ad;rcases ad with ad|ad
  ·exact adi c aj.1 x ad
  ·exact FT cs aj.2 x ad
end
mutual
theorem RY{e:List (aJ×dw)}:∀p:ag,im e p->∀x∈gm e p,x.1≠tt
 | .slice _ tag xs,aj,x,ad=>by
  cases tag with
  |own k=>simp only[gm,im]at aj ad;exact FT xs aj.2.2.1 x ad
  |tr k i=>simp only[gm,im]at aj ad;simp at ad;subst ad;exact aj
  |no=>simp[gm]at ad
  |nil=>simp[gm]at ad
  |lo k=>simp[gm]at ad
 | .row _ k _,aj,x,ad=>by simp only[gm,im]at aj ad;obtain⟨_,⟨xs,el,aE,nA⟩,_⟩:=aj;rw[show uX e k=xs from by simp[uX,aE]]at ad;exact FT xs nA x ad
 | .agg cs,aj,x,ad=>by simp only[gm,im]at aj ad;exact Kc cs aj x ad
 | .tuple cs,aj,x,ad=>by simp only[gm,im]at aj ad;exact Kc cs aj x ad
 | .int _ _,_,_,ad=>by simp[gm]at ad
 | .bool _,_,_,ad=>by simp[gm]at ad
 | .str _,_,_,ad=>by simp[gm]at ad
 | .junk,_,_,ad=>by simp[gm]at ad
 | .ptr _ _,_,_,ad=>by simp[gm]at ad
 | .eptr _,_,_,ad=>by simp[gm]at ad
 | .iface _ _,_,_,ad=>by simp[gm]at ad
 | .nilp,_,_,ad=>by simp[gm]at ad
 | .func _ _,_,_,ad=>by simp[gm]at ad
 | .gmap _,_,_,ad=>by simp[gm]at ad
 | .rptr _ _ _ _ _,_,_,ad=>by simp[gm]at ad
 | .hdm _ _,_,_,ad=>by simp[gm]at ad
 | .hdi _ _ _,_,_,ad=>by simp[gm]at ad
 | .cst _,_,_,ad=>by simp[gm]at ad
theorem Kc{e:List (aJ×dw)}:∀p:List ag,r7 e p->∀x∈pb e p,x.1≠tt
 |[],_,x,ad=>by simp[pb]at ad
 |c::cs,aj,x,ad=>by
  simp only[pb,r7,iG]at aj ad;rcases ad with ad|ad
  ·exact RY c aj.1 x ad
  ·exact Kc cs aj.2 x ad
end
mutual
theorem RZ{e:List (aJ×dw)}:∀p:ag,im e p->∀k∈fi p,∃own,look k e=some own
 | .row sz k n,aj,bz,aa=>by simp only[fi,im]at aj aa;obtain⟨_,⟨xs,el,aE,nA⟩,_⟩:=aj;simp at aa;subst aa;exact⟨_,aE⟩
 | .agg cs,aj,x,ad=>by simp only[fi,im]at aj ad;exact Kd cs aj x ad
 | .tuple cs,aj,x,ad=>by simp only[fi,im]at aj ad;exact Kd cs aj x ad
 | .slice sz tag xs,aj,bz,aa=>by
  cases tag with
  |own k=>simp only[fi,im]at aj aa;obtain⟨_,⟨el,aE⟩,_⟩:=aj;simp at aa;subst aa;exact⟨_,aE⟩
  |tr k i=>simp[fi]at aa
  |no=>simp[fi]at aa
  |nil=>simp[fi]at aa
  |lo k=>simp[fi]at aa
 | .int _ _,_,_,ad=>by simp[fi]at ad
 | .bool _,_,_,ad=>by simp[fi]at ad
 | .str _,_,_,ad=>by simp[fi]at ad
 | .junk,_,_,ad=>by simp[fi]at ad
 | .ptr _ _,_,_,ad=>by simp[fi]at ad
 | .eptr _,_,_,ad=>by simp[fi]at ad
 | .iface _ _,_,_,ad=>by simp[fi]at ad
 | .nilp,_,_,ad=>by simp[fi]at ad
 | .func _ _,_,_,ad=>by simp[fi]at ad
 | .gmap _,_,_,ad=>by simp[fi]at ad
 | .rptr _ _ _ _ _,_,_,ad=>by simp[fi]at ad
 | .hdm _ _,_,_,ad=>by simp[fi]at ad
 | .hdi _ _ _,_,_,ad=>by simp[fi]at ad
 | .cst _,_,_,ad=>by simp[fi]at ad
theorem Kd{e:List (aJ×dw)}:∀p:List ag,r7 e p->∀k∈nL p,∃own,look k e=some own
 |[],_,x,ad=>by simp[nL]at ad
 |c::cs,aj,x,ad=>by
  simp only[nL,r7,iG]at aj ad;rcases ad with ad|ad
  ·exact RZ c aj.1 x ad
  ·exact Kd cs aj.2 x ad
end
end
end Go.Pv
