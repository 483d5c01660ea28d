/- Contracts of functions that hand back memory of their own, II. -/
import Derived.Test.YtfeencekjcjalaaGreatDoorQ2
set_option linter.all false
set_option maxHeartbeats 4000000
set_option maxRecDepth 4000
open Array renaming getElem?_toList->tN
open Bool renaming and_eq_true->cD,false_eq_true->hz,or_eq_true->nL
open Go renaming Operand->jb,Program->cz,TypeId->fF
open Go.Region renaming wanted->p3
open Go.Result renaming andThen_ok->fx
open Go.Sem renaming run_bind->fq,run_pure->gn
open Go.Value.slice renaming injEq->awn
open List renaming all_eq_true->jL,cons_append->bX,eq_nil_of_length_eq_zero->u6,getElem?_append_left->rB,getElem?_eq_none->rC,getElem?_eq_some_iff->fy,length_cons->jc,length_nil->qM,map_cons->fA,mem_append->kr,mem_append_left->sr,mem_cons->gp,mem_cons_of_mem->p4,mem_filter->nN,mem_map->iL,nil_append->b3,nodup_append->ss,pairwise_cons->nO
open Nat renaming le_refl->eR,le_trans->jM
open Ne renaming symm->k8
open Option renaming bind_some->k9,getD_some->mi,isSome_iff_exists->gd,map_some->ni
open Option.some renaming inj->fK,injEq->dv
open Prod.mk renaming injEq->hN
open _root_ renaming False->et,Option->aW,beq_iff_eq->dS,decide_eq_false_iff_not->iq,decide_eq_true_eq->e8
namespace Go.Pv
section
open Go Go.RowKit
inductive ed where
 |s (i:eb)
 |call (d:aW Nat) (f:ds) (xs:List ds)
 |next (d:Nat) (x:ds)
 |opn (d:aW Nat) (f:ds) (xs:List ds)
 |callb (d:aW Nat) (f:ds)
structure dm where
 g:aW (Nat×Bool)
 i:ed
def eb.dst:eb->aW Nat
 | .v d _| .box d _ _| .alloc d _ _| .bsl d _ _ _| .app d _ _ _ _| .bslm d _ _ _ _| .appm d _ _ _ _ _| .mkmap d _| .range d _ _| .mks d _ _ _ _ _| .apps d _ _ _=>some d
 | .store _ _ _| .mput _ _ _ _| .storeE _ _ _=>none
def ed.dst:ed->aW Nat
 | .s i=>i.dst
 | .call d _ _=>d
 | .next d _=>some d
 | .opn d _ _=>d
 | .callb d _=>d
def cC(P:cz)(n:Nat)(args:List ah)(st:bh)(d:aW Nat)(K:bh->Prop):Prop:=
 (∃s Q,hf (inObs s) s.b st.b/\pX (inObs s) s.e st.e/\jm s/\aA (inObs s) args/\bK P n args s Q/\
  ∀r a,Q r a->((∀m,(look (.obj m) a.b).isSome->(look (.obj m) s.b).isSome\/ .obj m∉st.o)/\(∀m,(look (.obj m) a.e).isSome->(look (.obj m) s.e).isSome\/ .obj m∉st.o))/\K (after st s a d r))\/
 (∃s Q,hf (inObs s) s.b st.b/\pX (inObs s) s.e st.e/\jm s/\aA (inObs s) args/\ .loc st.n∉st.o/\JW P n st.n args s Q/\
  ∀r a,Q r a->((∀m,(look (.obj m) a.b).isSome->(look (.obj m) s.b).isSome\/ .obj m∉st.o)/\(∀m,(look (.obj m) a.e).isSome->(look (.obj m) s.e).isSome\/ .obj m∉st.o))/\K {after st s a d r with n:=st.n+1})
def NK(st:bh)(d:Nat)(fS mk:aB)(since:Nat)(seen:List Nat)(last clock:Nat)(borns:List Nat)(kvs:List ah)(K:bh->Prop):Prop:=
 (since=clock/\last=clock)/\((∀b∈borns,b∈seen)->K {st with t:=put d (.tuple [.bool false]) st.t})/\
 (∀b k v,nD b borns kvs=some (.tuple [k,v])->b∉seen->K {st with t:=put d (.tuple [.bool true,k,v]) st.t,b:=cB fS [.hdi since (seen++[b]) last,.gmap mk] st.b})
def tZ(st:bh)(d:Nat)(v:ah)(K:bh->Prop):Prop:=
 match v with
 | .ptr fS 0=>match look fS st.b with
  |some [.hdi since seen last,.gmap mk]=>match look mk st.b with
   |some (.hdm clock borns::kvs)=>NK st d fS mk since seen last clock borns kvs K
   |_=>et
  |_=>et
 |_=>et
def CV(P:cz)(ob:List aB)(n:Nat)(args:List ah)(st:bh)(d:aW Nat)(K:bh->Prop):Prop:=
 ∀(C:e0) (a:Act) (w:World) (Z:aZ) (ba:Array Value),C.ob=ob->cS C st a w Z->cH w Z args ba.toList->h1 C.N d=true->
  wN P n ba w fun e w'=> ∃v st' Z',e= .returned v/\K st'/\cS C st' (a.put d v) w' Z'
def qT(P:cz)(ob:List aB)(st:bh)(K:bh->Prop):ed->Prop
 | .next d x=>tZ st d (cc st.t x) K
 | .s i=>match mF st i with
  |some (c,st')=>c/\K st'
  |none=>et
 | .call d f xs=>match cc st.t f with
  | .func n cZ=>cC P n (cK (xs.map (cc st.t)++cZ)) st d K
  |_=>et
 | .opn d f xs=>match cc st.t f with
  | .func n cZ=>CV P ob n (xs.map (cc st.t)++cZ) st d K
  |_=>et
 | .callb d f=>match cc st.t f with
  | .func n cZ=> ¬n<1000000/\cC P (wL n) (cK cZ) st d K
  |_=>et
def hP(P:cz)(ob:List aB):List dm->bh->(bh->Prop)->Prop
 |[],st,K=>K st
 |⟨none,i⟩::r,st,K=>qT P ob st (fun st'=>hP P ob r st' K) i
 |⟨some (s,want),i⟩::r,st,K=>match get s st.t with
  | .bool b=>(b=want->qT P ob {st with t:=put s (.bool want) st.t} (fun st'=>hP P ob r st' K) i)/\(b= !want->hP P ob r {st with t:=eP i.dst (.tuple []) (put s (.bool !want) st.t)} K)
  | .tuple []=>hP P ob r {st with t:=eP i.dst (.tuple []) st.t} K
  |_=>et
def tB(N:Nat)(bu:List (Nat×dE))(i:ed)(o:Oper):Bool:=
 match i with
 | .s i=>sc N bu i o
 | .next d x=>match o.op with
  | .next it false=>o.dst==some d&&decide (d<N)&&ep x it
  |_=>false
 | .call d f xs=>match o.op with
  | .call ⟨.value a,args,_⟩=>o.dst==d&&h1 N d&&ep f a&&wg xs args.toList
  |_=>false
 | .opn d f xs=>match o.op with
  | .call ⟨.value a,args,_⟩=>o.dst==d&&h1 N d&&ep f a&&wg xs args.toList
  |_=>false
 | .callb d f=>match o.op with
  | .call ⟨.value a,⟨[]⟩,_⟩=>o.dst==d&&h1 N d&&ep f a
  |_=>false
def DD(N:Nat)(bu:List (Nat×dE))(ops:List Oper)(g:dm)(o:Oper):Bool:=
 (match g.g,o.guard with
  |none,none=>true
  |some (s,b),some (j,cb)=>b==cb&&((ops[j]?).bind (·.dst))==some s&&decide (s<N)&&o.dst==g.i.dst&&h1 N g.i.dst
  |_,_=>false)&&tB N bu g.i o
def lf(N:Nat)(bu:List (Nat×dE))(ops:List Oper):List dm->List Oper->Bool
 |[],[]=>true
 |g::gs,o::os=>DD N bu ops g o&&lf N bu ops gs os
 |_,_=>false
theorem Zw{w:World}{Z:aZ}:∀{a b7:List ah} {ba us:List Value},cH w Z a ba->cH w Z b7 us->cH w Z (a++b7) (ba++us)
 |[],b7,ba,us,h,b=>by simp only[cH]at h;subst h;simpa using b
 |p::a,b7,ba,us,h,b=>by simp only[cH]at h;obtain⟨u,c,rfl,J,U⟩:=h;simp only[bX,cH];exact⟨u,_,rfl,J,Zw U b⟩
theorem wN.mono{P:cz}{f:FuncId}{ba:Array Value}{w:World}{R a:Ending->World->Prop}(h:wN P f ba w R)(bq:∀e w',R e w'->a e w'):wN P f ba w a:=by
 rcases h with⟨J,U⟩|⟨v,w',J,U⟩
 ·exact .inl ⟨J,U.mono bq⟩
 ·exact .inr ⟨v,w',J,bq _ _ U⟩
theorem aoN{P:cz}{a:Act}{w:World}{o:Oper}{b:jb}{args:Array jb}{d:Array fF}(c:o.op= .call ⟨.value b,args,d⟩){n:Nat}{us:Array Value}(e:a.eval b= .func (.func n) #[] us)(r:Result Next)(f:(callFunc n (args.map a.eval++us)).run P w=r):(execOp a.eval o).run P w=r:=by obtain⟨dst,op,ty,pos,Kg,g⟩:=o;simp only at c;subst c;simp only[execOp,resolve,e,Deferred.ofValue,fq,gn,fx,invoke];simpa using f
theorem aoO{P:cz}{a:Act}{w:World}{o:Oper}{b:jb}{d:Array fF}(c:o.op= .call ⟨.value b,#[],d⟩){n:Nat}{us:Array Value}(e:a.eval b= .func (.func n) us #[])(r:Result Next)(f:(callFunc n us).run P w=r):(execOp a.eval o).run P w=r:=by obtain⟨dst,op,ty,pos,Kg,g⟩:=o;simp only at c;subst c;simp only[execOp,resolve,e,Deferred.ofValue,fq,gn,fx,invoke];simpa using f
theorem OY{P:cz}(k:P.funcs.size<=1000000){a:Act}{w:World}{Z:aZ}{o:Oper}{c:jb}{args:Array jb}{g:Array fF}(h:o.op= .call ⟨.value c,args,g⟩){n:Nat}{cZ:List ah}(f:aS w Z (.func n cZ) (a.eval c)){d:List ah}(i:cH w Z d (args.toList.map a.eval)):
  ∃ba:Array Value,(∀x w',(callFunc n ba).run P w= .ok x w'->(execOp a.eval o).run P w= .ok x w')/\cH w Z (d++cZ) ba.toList:=by
 rw[aS]at f;obtain⟨us,l,hu⟩:=f;refine⟨args.map a.eval++us,fun x w' b=>?_,by simpa using Zw i hu⟩;by_cases e:n<1000000
 ·exact aoN h (l.trans (yN e us)) _ b
 ·have j:P.funcs[n]? =none:=Array.getElem?_eq_none (jM k (Nat.le_of_not_lt e));simp only[callFunc,fq,fx,run_program,j]at b;cases b
theorem aoP{P:cz}{a:Act}{w:World}{Z:aZ}{o:Oper}{b:jb}{d:Array fF}(e:o.op= .call ⟨.value b,#[],d⟩){n:Nat}{cZ:List ah}(c:aS w Z (.func n cZ) (a.eval b))(f:¬n<1000000):
  ∃ba:Array Value,(∀x w',(callFunc (wL n) ba).run P w= .ok x w'->(execOp a.eval o).run P w= .ok x w')/\cH w Z cZ ba.toList:=by
 rw[aS]at c;obtain⟨us,g,hu⟩:=c;exact⟨us,fun x w' h=>aoO e (g.trans (agK f us)) _ h,hu⟩
theorem S9{P:cz}{C:e0}{st:bh}{a:Act}{w:World}{Z:aZ}(g:cS C st a w Z){o:Oper}{d:aW Nat}(X:o.dst=d)(R:h1 C.N d=true)
  {n:Nat} {z:List ah} {q:Array Value} (V:∀x w',(callFunc n q).run P w= .ok x w'->(execOp a.eval o).run P w= .ok x w') (j1:cH w Z z q.toList) {K:bh->Prop}
  (ax:∃(s:cM) (y:ah->cM->Prop) (κ:aW Nat) (n':Nat) (o':cM->List aB),hf (inObs s) s.b st.b/\pX (inObs s) s.e st.e/\jm s/\aA (inObs s) (cK z)/\(∀(w:World) (Z:aZ) (ba:Array Value) (gl:nQ w Z),Good (fZ Z s) w Z s.b s.e->ql Z s->cH w Z (cK z) ba.toList->
   wN P n ba w fun e w'=> ∃v r c Z',e= .returned v/\y r c/\aS w' Z' r v/\Good (fun bl=>fZ Z s bl\/w.heap.size<=bl) w' Z' c.b c.e/\GZ κ Z' c/\jm c/\qa ⟨w,Z,fZ Z s,0,dh s,gl,[]⟩ w' Z')/\
   (∀m,κ=some m->fresh st.n st.o (.loc m))/\(∀k r c,y r c->fresh n' (o' c) k->fresh st.n (st.o++dh c) k/\∀m,κ=some m->k≠ .loc m)/\
   ∀r c,y r c->((∀m,(look (.obj m) c.b).isSome->(look (.obj m) s.b).isSome\/ .obj m∉st.o)/\(∀m,(look (.obj m) c.e).isSome->(look (.obj m) s.e).isSome\/ .obj m∉st.o))/\K {after st s c d r with n:=n',o:=o' c})
  {U:Act->World->Prop} {Q:Exit->Act->World->Prop} (W:∀st' bo w' Z',K st'->cS C st' bo w' Z'->U bo w'):o.wp P a w U Q:=by
 obtain⟨s,y,κ,n',o',u,c2,c3,c4,c5,Y,Tl,S⟩:=ax;have kW:cH w (Z.cut (inObs s)) (cK z) q.toList:=zX (pn.cut _ w Z) _ _ c4 (Jg _ _ j1);have sX:Good (fZ (Z.cut (inObs s)) s) w (Z.cut (inObs s)) s.b s.e:=g.good.cut u c2 (fun bl _ h=>h);have hex:ql (Z.cut (inObs s)) s:=by
  intro k;refine⟨?_,?_,?_⟩;rotate_left 2
  ·rintro j b ⟨f,ae⟩;obtain⟨t1,t2⟩:=g.fr.trn k j b ae;rcases f with f|f<;>obtain⟨x,p⟩:=gd.1 f
   ·obtain⟨bl,G,el,i,_⟩:=g.good.box k x (u k x p).1;rw[t1]at i;cases i
   ·obtain⟨v',G,i,_⟩:=g.good.own k x (c2 k x p).1;rw[t2]at i;cases i
  ·intro N;by_cases f:inObs s k
   ·rw[aZ.cut_bx f];rcases f with f|f
    ·rw[N]at f;cases f
    ·obtain⟨x,p⟩:=gd.1 f;obtain⟨v',G,i,_⟩:=g.good.own k x (c2 k x p).1;rcases g.good.one k with J|J
     ·exact J
     ·rw[J]at i;cases i
   ·exact(aZ.cut_no f).1
  ·intro N;by_cases f:inObs s k
   ·rw[aZ.cut_ow f];rcases f with f|f
    ·obtain⟨x,p⟩:=gd.1 f;obtain⟨bl,G,el,i,_⟩:=g.good.box k x (u k x p).1;rcases g.good.one k with J|J
     ·rw[J]at i;cases i
     ·exact J
    ·rw[N]at f;cases f
   ·exact(aZ.cut_no f).2.1
 rcases c5 w (Z.cut (inObs s)) q (g.fr.gl.cut _) sX hex kW with⟨⟨fn,g1,g2,g3⟩,c5⟩|⟨v,w',c5,L⟩
 ·obtain⟨code,LS⟩:=gd.1 g2;have A:(execOp a.eval o).run P w= .ok (.enter n q) w:=by refine V _ _ ?_;simp only[callFunc,fq,gn,fx,run_program,g1,g3,LS];simp
  unfold Oper.wp;rw[A];simp only[Oper.upon];refine c5.mono fun e w' L=>?_;obtain⟨v,r,c,Z',rfl,t,O,M,H,F,E⟩:=L;obtain⟨⟨B,D⟩,l⟩:=S r c t;rw[X];exact W _ _ _ _ l (g.callK u c2 c3 M H (fun m hm=>g.new _ (Y m hm)) (n':=n') (o':=o' c) (fun k l=>Tl k r c t l) F E B D d R O)
 ·have A:(execOp a.eval o).run P w= .ok (.value v) w':=by exact V _ _ c5
  obtain⟨v2,r,c,Z',zp,t,O,M,H,F,E⟩:=L;cases zp;obtain⟨⟨B,D⟩,l⟩:=S r c t;refine lE A ?_;rw[X];exact W _ _ _ _ l (g.callK u c2 c3 M H (fun m hm=>g.new _ (Y m hm)) (n':=n') (o':=o' c) (fun k l=>Tl k r c t l) F E B D d R O)
theorem ank{P:cz}(y:P.funcs.size<=1000000){C:e0}{st:bh}{a:Act}{w:World}{Z:aZ}(A:cS C st a w Z){o:Oper}{j:jb}{args:Array jb}{s:Array fF}(u:o.op= .call ⟨.value j,args,s⟩){d:aW Nat}(m:o.dst=d)(q:h1 C.N d=true)
  {n:Nat} {cZ:List ah} (z:aS w Z (.func n cZ) (a.eval j)) {k:List ah} (x:cH w Z k (args.toList.map a.eval)) {K:bh->Prop} (ax:CV P C.ob n (k++cZ) st d K)
  {h:Act->World->Prop} {Q:Exit->Act->World->Prop} (l:∀st' bo w' Z',K st'->cS C st' bo w' Z'->h bo w'):o.wp P a w h Q:=by
 obtain⟨r,i,t⟩:=OY y u z x;rcases ax C a w Z _ rfl A t q with⟨⟨fn,g1,g2,g3⟩,c5⟩|⟨v,w',c5,f⟩
 ·obtain⟨code,B⟩:=gd.1 g2;have b:(execOp a.eval o).run P w= .ok (.enter n r) w:=by refine i _ _ ?_;simp only[callFunc,fq,gn,fx,run_program,g1,g3,B];simp
  unfold Oper.wp;rw[b];simp only[Oper.upon];refine c5.mono fun e w' f=>?_;obtain⟨v,st',Z',rfl,g,c⟩:=f;rw[m];exact l _ _ _ _ g c
 ·have b:(execOp a.eval o).run P w= .ok (.value v) w':=by exact i _ _ c5
  obtain⟨v2,st',Z',p,g,c⟩:=f;cases p;refine lE b ?_;rw[m];exact l _ _ _ _ g c
theorem Ta{P:cz}{C:e0}{st:bh}{a:Act}{w:World}{Z:aZ}(D:cS C st a w Z){o:Oper}{d:aW Nat}(B:o.dst=d)(q:h1 C.N d=true)
  {n:Nat} {p:List ah} {j:Array Value} (t:∀x w',(callFunc n j).run P w= .ok x w'->(execOp a.eval o).run P w= .ok x w') (u:cH w Z p j.toList) {K:bh->Prop} (ax:cC P n (cK p) st d K)
  {l:Act->World->Prop} {Q:Exit->Act->World->Prop} (y:∀st' bo w' Z',K st'->cS C st' bo w' Z'->l bo w'):o.wp P a w l Q:=by
 refine S9 D B q t u (K:=K) ?_ y;rcases ax with⟨s,f,i,c2,c3,c4,c5,g⟩|⟨s,f,i,c2,c3,c4,c0,c5,g⟩
 ·refine⟨s,f,none,st.n,fun b=>st.o++dh b,i,c2,c3,c4,fun w Z ba gl J U A=>(c5 w Z ba gl J U A).mono fun e w' z=>?_,fun m hm=>(by cases hm),fun k _ b _ c=>⟨c,fun m hm=>by cases hm⟩,g⟩;obtain⟨v,r,b,Z',g1,g2,g3,g4,g5,g6⟩:=z;exact⟨v,r,b,Z',g1,g2,g3,g4,g5.k,g6⟩
 ·refine⟨s,f,some st.n,st.n+1,fun b=>st.o++dh b,i,c2,c3,c4,c5,fun m hm=>(by cases hm;exact⟨eR _,c0⟩),fun k _ b _ c=>⟨yP (Nat.le_succ _) (fun _ h=>h) c,fun m hm=>?_⟩,g⟩;cases hm;rintro rfl;have:=c.1;simp only at this;omega
theorem S8{P:cz}(l:P.funcs.size<=1000000){C:e0}{st:bh}{a:Act}{w:World}{Z:aZ}(r:cS C st a w Z){o:Oper}{c:jb}{args:Array jb}{g:Array fF}(j:o.op= .call ⟨.value c,args,g⟩){d:aW Nat}(p:o.dst=d)(f:h1 C.N d=true)
  {n:Nat} {cZ:List ah} (q:aS w Z (.func n cZ) (a.eval c)) {e:List ah} (k:cH w Z e (args.toList.map a.eval)) {K:bh->Prop} (ax:cC P n (cK (e++cZ)) st d K)
  {b:Act->World->Prop} {Q:Exit->Act->World->Prop} (m:∀st' bo w' Z',K st'->cS C st' bo w' Z'->b bo w'):o.wp P a w b Q:=by
 obtain⟨s,h,i⟩:=OY l j q k;exact Ta r p f h i ax m
theorem cS.drawn{C:e0}{st:bh}{a:Act}{w:World}{Z:aZ}(b:cS C st a w Z)(n:Nat):cS C st a {w with drawn:=n} Z:=by
 have c:lU w Z {w with drawn:=n} Z:=⟨fun _ _ h=>⟨h,rfl⟩,fun _ _ _ h=>h,fun _ n u _ h=>⟨n,u,h,.inl ⟨rfl,rfl⟩⟩,fun _ _ _=>rfl,fun _ _ _ _ h=>h⟩;refine b.over c rfl ⟨b.good.alt,fun k cs i=>?_,b.good.inj,fun g o aY=>?_,b.good.oinj,b.good.obx,b.good.one,b.good.otr⟩ ⟨b.fr.os,b.fr.tape,b.fr.output,b.fr.size,b.fr.block,b.fr.keep,b.fr.fresh,b.fr.obj,b.fr.obn,b.fr.row,b.fr.obr,b.fr.trd,b.fr.trb,b.fr.trn,b.fr.sh,b.fr.nrow⟩ b.new
 ·obtain⟨bl,us,el,J,U,d,e,f⟩:=b.good.box k cs i;exact⟨bl,us,el,J,U,d,e,qE c f⟩
 ·obtain⟨v,us,J,U,d,e⟩:=b.good.own g o aY;exact⟨v,us,J,U,d,sb c (fun _ _ _ h=>h) e⟩
theorem agF{α:Type}{l:List α}{p:α->Bool}(h:∀x∈l,p x=false):l.filter p=[]:=by rw[List.filter_eq_nil_iff];intro x a;simp[h x a]
theorem agE{α:Type}{l:List α}{p:α->Bool}(h:∀x∈l,p x=true):l.filter p=l:=List.filter_eq_self.2 h
def Iv(r m since clock:Nat)(seen:Array Nat)(Tb:Array (aW MapEntry)):Sem Value:=do
 match Tb[<-choose (.mapNext Tb.size)]? with
 |some (some e)=>
  setObj r (.mapIter (some m) since (seen.push e.born) clock)
  pure (.tuple #[.bool true,e.key,e.val])
 |some none=>pure (.tuple #[.bool false])
 |none=>stuck "Next: no such candidate"
theorem ZI{P:cz}{w:World}(r m since clock:Nat)(seen:Array Nat)(l:List (aW MapEntry))(aq:l≠[]):∃n x,x∈l/\(Iv r m since clock seen l.toArray).run P w=
  (match x with|some e=>(do setObj r (.mapIter (some m) since (seen.push e.born) clock);pure (.tuple #[.bool true,e.key,e.val]):Sem Value)|none=>pure (.tuple #[.bool false])).run P {w with drawn:=n}:=by
 have fN:0<l.length:=List.length_pos_iff.2 aq;unfold Iv;have key:∀i,i<l.length->∀w',((do match(l.toArray[i]?:aW (aW MapEntry))with
   |some (some e)=>setObj r (.mapIter (some m) since (seen.push e.born) clock);pure (.tuple #[.bool true,e.key,e.val])
   |some none=>pure (.tuple #[.bool false])
   |none=>stuck "Next: no such candidate" :Sem Value)).run P w'=((match l[i]! with|some e=>(do setObj r (.mapIter (some m) since (seen.push e.born) clock);pure (.tuple #[.bool true,e.key,e.val]):Sem Value)|none=>pure (.tuple #[.bool false]))).run P w':=by
  intro i hi w';have J:l.toArray[i]? =some l[i]!:=by simp[hi]
  rw[J];cases l[i]!<;>rfl
 by_cases aG:(Question.mapNext l.length).forced=true
 ·refine⟨w.drawn,l[0]!,by simp[fN],?_⟩;rw[<-key 0 fN];have ax:(choose (.mapNext l.length):Sem Nat).run P w= .ok 0 w:=by simp[aG]
  simp only[List.size_toArray,fq,ax,fx]
 ·refine⟨w.drawn+1,l[(w.tape w.drawn (.mapNext l.length))%l.length]!,by simp[Nat.mod_lt _ fN],?_⟩;rw[<-key _ (Nat.mod_lt _ fN)];have ax:(choose (.mapNext l.length):Sem Nat).run P w= .ok ((w.tape w.drawn (.mapNext l.length))%l.length) {w with drawn:=w.drawn+1}:=by simp[aG,Question.cut]
  simp only[List.size_toArray,fq,ax,fx]
theorem aoZ{P:cz}{w:World}{bl mb:Nat}{seen:List Nat}{es:List MapEntry}{clock:Nat}{ty:fF}(J:w.heap[bl]? =some (.mapIter (some mb) clock seen.toArray clock))(U:w.heap[mb]? =some (.map es.toArray clock))(d:∀e∈es,e.born<clock):
  ∃n,((∀e∈es,e.born∈seen)/\(Instr.next (.pointer (some ⟨bl,0,none⟩)) false ty).run P w= .ok (.tuple #[.bool false]) {w with drawn:=n})\/
   ∃e∈es,e.born∉seen/\(Instr.next (.pointer (some ⟨bl,0,none⟩)) false ty).run P w= .ok (.tuple #[.bool true,e.key,e.val]) {w with drawn:=n,heap:=w.heap.setIfInBounds bl (.mapIter (some mb) clock (seen++[e.born]).toArray clock)}:=by
 have j:(!seen.toArray.isEmpty&& !es.toArray.isEmpty&&es.toArray.all (fun e=>decide (e.born≥clock)))=false:=by
  cases es with
  |nil=>simp
  |cons e r=>have:=d e Ψ;simp;intro _ h;omega
 generalize c:(es.filter fun e=> !seen.contains e.born)=left;have f:(es.toArray.filter fun e=> !seen.toArray.contains e.born)=left.toArray:=by rw[<-c];simp
 have a:∀e∈left,e∈es/\e.born∉seen:=fun e he=>by rw[<-c]at he;have:=nN.1 he;exact⟨this.1,by simpa using this.2⟩
 have hold:(left.toArray.filter fun e=>decide (e.born<clock))=left.toArray:=by rw[List.filter_toArray,agE];intro e he;have:=d e (a e he).1;simp[this]
 have g:(left.toArray.filter fun e=>decide (e.born≥clock))= #[]:=by rw[List.filter_toArray,agF];intro e he;have:=d e (a e he).1;simp;omega
 have i:(Instr.next (.pointer (some ⟨bl,0,none⟩)) false ty).run P w=(Iv bl mb clock clock seen.toArray ((if left.toArray.isEmpty then #[none]else #[])++(left.toArray++ #[]).map some)).run P w:=by unfold Instr.next Iv;simp only[fq,wC J,wC U,fx,j,f,hold,g,hz,if_false];rfl
 rw[i];by_cases b:left=[]
 ·subst b;obtain⟨n,x,g1,g2⟩:=ZI (P:=P) (w:=w) bl mb clock clock seen.toArray [none] Ψ;refine⟨n,.inl ⟨fun e he=>?_,?_⟩⟩
  ·have:=List.filter_eq_nil_iff.1 c e he;simpa using this
  ·simp only[List.mem_singleton]at g1;subst g1;have ax:((if(([]:List MapEntry).toArray).isEmpty then #[none]else #[])++(([]:List MapEntry).toArray++ #[]).map some)=[none].toArray:=Ψ
   rw[ax,g2];rfl
 ·have ax:((if left.toArray.isEmpty then #[none]else #[])++(left.toArray++ #[]).map some)=(left.map some).toArray:=by simp[b]
  obtain⟨n,x,g1,g2⟩:=ZI (P:=P) (w:=w) bl mb clock clock seen.toArray (left.map some) (by simpa using b);simp only[iL]at g1;obtain⟨e,he,rfl⟩:=g1;refine⟨n,.inr ⟨e,(a e he).1,(a e he).2,?_⟩⟩;rw[ax,g2];simp only[fq];rw[FB (w:={w with drawn:=n}) (o:= .mapIter (some mb) clock seen.toArray clock) J];simp
theorem K5:∀{borns:List Nat} {us:List Value} {e:MapEntry},e∈ga borns us->e.born∈borns
 |[],us,e,h=>by simp[ga]at h
 |b::a,[],e,h=>by simp[ga]at h
 |b::a,[_],e,h=>by simp[ga]at h
 |b::a,k::v::us,e,h=>by
  simp only[ga,gp]at h;rcases h with rfl|h
  ·simp
  ·exact p4 _ (K5 h)
theorem TH:∀{borns:List Nat} {kvs:List ah} {us:List Value},kvs.length=2*borns.length->us.length=kvs.length->∀{b:Nat},b∈borns->∃e∈ga borns us,e.born=b
 |[],_,_,_,_,b,ae=>by simp at ae
 |cb::a,kvs,[],J,U,b,ae=>by rw[J]at U;simp at U
 |cb::a,kvs,[_],J,U,b,ae=>by rw[J]at U;simp at U;omega
 |cb::a,kvs,k::v::us,J,U,b,ae=>by
  rcases gp.1 ae with rfl|ae
  ·exact⟨⟨k,v,b⟩,by simp[ga],rfl⟩
  ·obtain⟨e,g1,g2⟩:=TH (kvs:=kvs.drop 2) (us:=us) (borns:=a) (by simp at J⊢;omega) (by simp at J U⊢;omega) ae;exact⟨e,by simp[ga,g1],g2⟩
theorem Xq{w:World}{Z:aZ}:∀{borns:List Nat} {kvs:List ah} {us:List Value},kvs.length=2*borns.length->borns.Pairwise (· < ·)->cH w Z kvs us->∀{e:MapEntry},e∈ga borns us->∃k v,nD e.born borns kvs=some (.tuple [k,v])/\aS w Z k e.key/\aS w Z v e.val
 |[],_,_,_,_,_,e,h=>by simp[ga]at h
 |b::a,[],us,J,_,_,e,_=>by simp at J
 |b::a,[_],us,J,_,_,e,_=>by simp at J;omega
 |b::a,k::v::kvs,us,J,U,c,e,h=>by
  simp only[cH]at c;obtain⟨n,o,rfl,g,m,l,rfl,f,d⟩:=c;simp only[ga,gp]at h;rw[nO]at U;rcases h with rfl|h
  ·exact⟨k,v,by simp[nD],g,f⟩
  ·obtain⟨j,v',g1,g2,g3⟩:=Xq (by simp at J;omega) U.2 d h;have i:b≠e.born:=Nat.ne_of_lt (U.1 _ (K5 h));exact⟨j,v',by simp[nD,i,g1],g2,g3⟩
theorem alc{P:cz}{C:e0}{st:bh}{a:Act}{w:World}{Z:aZ}(c:cS C st a w Z){o:Oper}{it:jb}(s:o.op= .next it false){d:Nat}(B:o.dst=some d)(l:h1 C.N (some d)=true){v:ah}(D:aS w Z v (a.eval it)){K:bh->Prop}(he:tZ st d v K)
  {m:Act->World->Prop} {Q:Exit->Act->World->Prop} (A:∀st' bo w' Z',K st'->cS C st' bo w' Z'->m bo w'):o.wp P a w m Q:=by
 unfold tZ at he;split at he
 ·rename_i fS;split at he
  ·rename_i since seen last mk i;split at he
   ·rename_i clock borns kvs F;obtain⟨⟨rfl,rfl⟩,S,G⟩:=he;simp only[aS]at D;obtain⟨bl,z,L⟩:=D;obtain⟨W,us,el,E,bA,Y,g,x⟩:=c.good.box fS _ i;rw[z]at E;cases E;obtain⟨mb,ms,M,m1,m2,m3,m4,m5⟩:=c.good.box mk _ F;simp only[iz,cH]at x;obtain⟨u,X,hu,⟨N,y,rfl⟩,rfl⟩:=x;rw[m1]at y;cases y;simp only[jI,hu]at g;simp only[jI]at m4;simp only[iz]at m5;obtain⟨n,H⟩:=aoZ (P:=P) (ty:=o.type) g m4 (fun e he=>m5.2.lt _ (K5 he));have r:∀v' w',(Instr.next (.pointer (some ⟨bl,0,none⟩)) false o.type).run P w= .ok v' w'->(execOp a.eval o).run P w= .ok (.value v') w':=by intro v' w' t;obtain⟨dst,op,ty,pos,Kg,V⟩:=o;simp only at s t;subst s;simp only[execOp,L];exact FV t
    rcases H with⟨J,U⟩|⟨e,J,U,O⟩
    ·refine lE (r _ _ U) ?_;rw[B];refine A _ _ _ _ (S fun b ae=>?_) ((c.drawn n).put l (p:= .tuple [.bool false]) (by simp[aS,cH]));obtain⟨e,f1,f2⟩:=TH m5.2.len (Je m5.1) ae;rw[<-f2];exact J e f1
    ·obtain⟨k,v,f1,f2,f3⟩:=Xq m5.2.len m5.2.inc m5.1 J;refine lE (r _ _ O) ?_;rw[B];have f:=((c.drawn n).setBox (w':={w with drawn:=n,heap:=w.heap.setIfInBounds bl (.mapIter (some mb) last (seen++[e.born]).toArray last)}) i z (cs':=[.hdi last (seen++[e.born]) last,.gmap mk]) (us:=us) (el:=el) rfl rfl rfl
      (fun j R=>Array.getElem?_setIfInBounds_ne (k8 R)) Ψ (by simp[jI,hu,(Array.getElem?_eq_some_iff.1 g).1]) (by simp only[iz,cH];exact⟨_,_,hu,by simp only[aS];exact⟨mb,m1,rfl⟩,rfl⟩))
     refine A _ _ _ _ (G e.born k v f1 U) (f.1.put l (p:= .tuple [.bool true,k,v]) ?_);simp only[aS];refine⟨_,rfl,?_⟩;simp only[cH];have q:lU w Z {w with drawn:=n} Z:=⟨fun _ _ h=>⟨h,rfl⟩,fun _ _ _ h=>h,fun _ n u _ h=>⟨n,u,h,.inl ⟨rfl,rfl⟩⟩,fun _ _ _=>rfl,fun _ _ _ _ h=>h⟩;exact⟨_,_,rfl,by simp[aS],_,_,rfl,wx f.2 (wx q f2),_,_,rfl,wx f.2 (wx q f3),rfl⟩
   ·exact he.elim
  ·exact he.elim
 ·exact he.elim
theorem TL{P:cz}{bu:List (Nat×dE)}(aM:e6 P bu=true){C:e0}{st:bh}{a:Act}{w:World}{Z:aZ}(b:cS C st a w Z){i:ed}{o:Oper}(ak:tB C.N bu i o=true){K:bh->Prop}(he:qT P C.ob st K i)
  {p:Act->World->Prop} {Q:Exit->Act->World->Prop} (j:∀st' bo w' Z',K st'->cS C st' bo w' Z'->p bo w'):o.wp P a w p Q:=by
 cases i with
 |s i=>
  simp only[qT]at he;split at he
  ·rename_i c st' u;exact ao4 aM b (by simpa only[tB]using ak) u he.1 fun bo w' Z' h=>j _ _ _ _ he.2 h
  ·exact he.elim
 |next d x=>
  simp only[qT]at he;simp only[tB]at ak;split at ak
  ·rename_i it e;simp only[cD,dS,e8]at ak;obtain⟨⟨J,U⟩,g⟩:=ak;exact alc b e J (by simpa[h1]using U) (er b g) he j
  ·cases ak
 |call d f xs=>
  simp only[qT]at he;simp only[tB]at ak;split at ak
  ·rename_i q args m e;simp only[cD,dS]at ak;obtain⟨⟨⟨J,U⟩,g⟩,l⟩:=ak;split at he
   ·rename_i n cZ k;have:=er b g;rw[k]at this;exact S8 (e6.sz aM) b e J U this (zW b l) he j
   ·exact he.elim
  ·cases ak
 |opn d f xs=>
  simp only[qT]at he;simp only[tB]at ak;split at ak
  ·rename_i q args m e;simp only[cD,dS]at ak;obtain⟨⟨⟨J,U⟩,g⟩,l⟩:=ak;split at he
   ·rename_i n cZ k;have:=er b g;rw[k]at this;exact ank (e6.sz aM) b e J U this (zW b l) he j
   ·exact he.elim
  ·cases ak
 |callb d f=>
  simp only[qT]at he;simp only[tB]at ak;split at ak
  ·rename_i q m e;simp only[cD,dS]at ak;obtain⟨⟨J,U⟩,g⟩:=ak;split at he
   ·rename_i n cZ k;have:=er b g;rw[k]at this;obtain⟨v,r,t⟩:=aoP (P:=P) e this he.1;exact Ta b J U r t he.2 j
   ·exact he.elim
  ·cases ak
theorem OM{C:e0}{st:bh}{a:Act}{w:World}{Z:aZ}(h:cS C st a w Z){s:Nat}{b:Bool}(c:get s st.t= .bool b):cS C {st with t:=put s (.bool b) st.t} a w Z:=by
 refine⟨h.good,h.fr,h.defers,h.size,fun i=>?_,h.new,h.ext,h.obk⟩;have:=h.slot i;simp only[pE];split
 ·rename_i e;subst e;rw[<-c];exact this
 ·exact this
theorem aba{C:e0}{st:bh}{a:Act}{w:World}{Z:aZ}(h:cS C st a w Z){ops:Array Oper}{j s:Nat}(e:(ops.toList[j]?).bind (·.dst)=some s)(k:s<C.N):
  (∀b,get s st.t= .bool b->yielded ops a.tmps j=some b)/\(get s st.t= .tuple []->yielded ops a.tmps j=none):=by
 have d:s<a.tmps.size:=by rw[h.size];exact k
 have c:=h.slot s;have g:a.tmps.getD s undef=a.tmps[s]:=by simp[Array.getD,d]
 rw[g]at c;have f:yielded ops a.tmps j=match a.tmps[s]with| .bool b=>some b|_=>none:=by unfold yielded;rw[tN]at e;rw[e];simp only[k9,Array.getElem?_eq_getElem d];cases a.tmps[s]<;>rfl
 constructor
 ·intro b ae;rw[ae]at c;simp only[aS]at c;rw[f,c]
 ·intro ae;rw[ae]at c;simp only[aS,cH]at c;obtain⟨us,i,l⟩:=c;rw[f,i]
theorem TP{P:cz}{bu:List (Nat×dE)}(aM:e6 P bu=true){C:e0}{ops:Array Oper}{K:bh->Prop}{Q:Exit->Act->World->Prop}(p:∀st' bo w' Z',K st'->cS C st' bo w' Z'->Q .normal bo w'):
  ∀(gs:List dm) (os:List Oper) (k:Nat),(∀j,os[j]? =ops[k+j]?)->lf C.N bu ops.toList gs os=true->∀(st:bh) (a:Act) (w:World) (Z:aZ),hP P C.ob gs st K->cS C st a w Z->wpOps P ops Q (List.range' k gs.length) a w
 |[],[],k,_,_,st,a,w,Z,he,f=>by simp only[qM,List.range'_zero,wpOps];exact p _ _ _ _ he f
 |[],_::_,_,_,d,_,_,_,_,_,_=>by simp[lf]at d
 |_::_,[],_,_,d,_,_,_,_,_,_=>by simp[lf]at d
 |g::gs,o::os,k,m,d,st,a,w,Z,he,f=>by
  simp only[lf,cD]at d;have B:ops[k]? =some o:=by simpa using(m 0).symm
  have E:∀j,os[j]? =ops[k+1+j]?:=fun j=>by have:=m (j+1);simpa[Nat.add_assoc,Nat.add_comm 1 j]using this
  simp only[jc,List.range'_succ,wpOps,B];have i:∀st' bo w' Z',hP P C.ob gs st' K->cS C st' bo w' Z'->wpOps P ops Q (List.range' (k+1) gs.length) bo w':=fun st' bo w' Z' J U=>TP aM p gs os (k+1) E d.2 st' bo w' Z' J U;obtain⟨y,G⟩:=g;have aY:=d.1;simp only[DD,cD]at aY;obtain⟨h,n⟩:=aY;cases y with
  |none=>
   cases c:o.guard with
   |some x=>simp[c]at h
   |none=>
    have hw:p3 o (yielded ops a.tmps)=true:=by simp[p3,c]
    rw[if_pos hw];simp only[hP]at he;exact .inl (TL aM f n he i)
  |some F=>
   obtain⟨s,want⟩:=F;cases c:o.guard with
   |none=>simp[c]at h
   |some x=>
    obtain⟨j,cb⟩:=x;simp only[c,cD,dS,e8]at h;obtain⟨⟨⟨⟨rfl,U⟩,D⟩,u⟩,r⟩:=h;obtain⟨A,v⟩:=aba f U D;simp only[hP]at he;split at he
    ·rename_i b ae;have l:=A b ae;by_cases e:b=want
     ·subst e;have hw:p3 o (yielded ops a.tmps)=true:=by simp[p3,c,l]
      rw[if_pos hw];exact .inl (TL aM (OM f ae) n (he.1 rfl) i)
     ·have hw:¬(p3 o (yielded ops a.tmps)=true):=by simp[p3,c,l,e]
      rw[if_neg hw];have q:b= !want:=by cases b<;>cases want<;>simp at e⊢
      have z:cS C {st with t:=put s (.bool !want) st.t} a w Z:=OM f (by rw[ae,q]);rw[u];exact i _ _ _ _ (he.2 q) (z.put r (by simp[aS,cH,undef]))
    ·rename_i ae;have l:=v ae;have hw:¬(p3 o (yielded ops a.tmps)=true):=by simp[p3,c,l]
     rw[if_neg hw,u];exact i _ _ _ _ he (f.put r (by simp[aS,cH,undef]))
    ·exact he.elim
structure dw where
 t:Nat->ah
 b:aB->aW (List ah)
 e:aB->aW ec
 F:aB->Prop
structure lH where
 d:aW Nat
 p:ah
 bw:List (aB×List ah)
 ew:List (aB×ec)
 rm:aW aB
def jh{α:Type}(l:List (aB×α))(f:aB->aW α):aB->aW α:=fun k=>match look k l with|some x=>some x|none=>f k
def dw.do(A:dw)(x:lH):dw:={t:=fun i=>if x.d=some i then x.p else A.t i,b:=jh x.bw A.b,e:=jh x.ew A.e,F:=fun k=>A.F k/\x.rm≠some k}
structure lH.apart (x y:lH):Prop where
 d:∀i,x.d=some i->y.d≠some i
 b:∀k,(look k x.bw).isSome->look k y.bw=none
 e:∀k,(look k x.ew).isSome->look k y.ew=none
theorem dw.do_comm(A:dw){x y:lH}(h:x.apart y):(A.do x).do y=(A.do y).do x:=by
 simp only[dw.do,dw.mk.injEq];refine⟨?_,?_,?_,?_⟩
 ·funext i;by_cases J:x.d=some i
  ·have:=h.d i J;simp[J,this]
  ·simp[J]
 ·funext k;simp only[jh];cases a:look k x.bw with
  |none=>cases look k y.bw<;>rfl
  |some u=>rw[h.b k (by simp[a])]
 ·funext k;simp only[jh];cases a:look k x.ew with
  |none=>cases look k y.ew<;>rfl
  |some u=>rw[h.e k (by simp[a])]
 ·funext k;exact propext ⟨fun h=>⟨⟨h.1.1,h.2⟩,h.1.2⟩,fun h=>⟨⟨h.1.1,h.2⟩,h.1.2⟩⟩
def dB(t:Nat->ah):ds->ah
 | .t i=>t i
 | .c p=>p
def tn(b:aB->aW (List ah))(e:aB->aW ec)(agg:Bool)(sz:Nat):ah->aW (Prop×ah)
 | .rptr a k n i f=>zZ agg sz a n i f (e k)
 | .ptr k off=>
  match b k with
  |some cs=>if agg then some (ik cs=true/\off+sz<=cs.length,.agg ((cs.drop off).take sz))else(cs[off]?).map fun p=>(ik cs=true,p)
  |none=>none
 | .eptr p=>if agg then some (isAgg sz p,p)else some (e5 p=true/\cells p=[p],p)
 |_=>none
def yy(t:Nat->ah):List ah->List (Nat×Nat×ds)->aW (Prop×List ah)
 |cs,[]=>some (True,cs)
 |cs,(off,sz,x)::r=>
  match yy t (o6 cs off (cells (dB t x))) r with
  |some (c,cs')=>some ((e5 (dB t x)=true/\(cells (dB t x)).length=sz/\off+sz<=cs.length)/\c,cs')
  |none=>none
def qK(t:Nat->ah)(b:aB->aW (List ah))(e:aB->aW ec):gq->aW (Prop×ah)
 | .mov x=>some (True,dB t x)
 | .pick c x y=>IJ (dB t c) (dB t x) (dB t y)
 | .load agg sz x=>tn b e agg sz (dB t x)
 | .faddr off agg sz x=>sG off agg sz (dB t x)
 | .fld off agg sz x=>vu off agg sz (dB t x)
 | .iaddr sz x i=>BE sz (dB t x) (dB t i)
 | .sidx x i=>Jo (dB t x) (dB t i)
 | .ssl x lo hi=>Jt (dB t x) (lo.map (dB t)) (hi.map (dB t))
 | .lsl sz x lo hi=>Ii sz (dB t x) (lo.map (dB t)) (hi.map (dB t))
 | .bin op wr x y=>C9 op wr (dB t x) (dB t y)
 | .notB x=>Ix (dB t x)
 | .neg x=>Is (dB t x)
 | .conv k x=>GM k (dB t x)
 | .ext i x=>AT i (dB t x)
 | .len x=>BQ (dB t x)
 | .slen x=>FF (dB t x)
 | .build zero parts=>(yy t zero parts).map fun(c,cs)=>(c,.agg cs)
 | .nck x=>B1 (dB t x)
 | .min2 x y=>Ir (dB t x) (dB t y)
 | .mkf n xs=>some (True,.func n (xs.map (dB t)))
 | .mget a zero ok x k=>o2 b a zero ok (dB t x) (dB t k)
 | .ment x=>qz b (dB t x)
 | .mlen x=>B0 b (dB t x)
 | .beq neg d x y=>je neg d (dB t x) (dB t y)
 | .max2 x y=>Il (dB t x) (dB t y)
 | .mkif n x=>some (True,.iface n (dB t x))
 | .loadB agg sz x=>tn b (fun _=>none) agg sz (dB t x)
 | .mgetB a zero ok x k=>o2 b a zero ok (dB t x) (dB t k)
 | .loadZ agg sz x=>DC agg sz (dB t x)
 | .b2s x=>Gm (dB t x)
 | .isn neg x=>HW neg (dB t x)
structure mj (st:bh) (A:dw):Prop where
 t:∀i,get i st.t=A.t i
 b:∀k,look k st.b=A.b k
 e:∀k,look k st.e=A.e k
theorem iv{st:bh}{A:dw}(h:mj st A)(x:ds):cc st.t x=dB A.t x:=by
 cases x
 ·exact h.t _
 ·rfl
theorem qW{st:bh}{A:dw}(h:mj st A):cc st.t=dB A.t:=funext (iv h)
theorem ako{st:bh}{A:dw}(h:mj st A)(agg:Bool)(sz:Nat)(p:ah):nC st.b st.e agg sz p=tn A.b A.e agg sz p:=by
 cases p<;>simp only[nC,tn]
 ·rw[h.b];try rfl
 ·rw[h.e]
theorem akp{st:bh}{A:dw}(h:mj st A)(agg:Bool)(sz:Nat)(p:ah):nC st.b [] agg sz p=tn A.b (fun _=>none) agg sz p:=by
 cases p<;>simp only[nC,tn]
 ·rw[h.b];try rfl
 ·rfl
theorem QV{st:bh}{A:dw}(h:mj st A):∀(parts:List (Nat×Nat×ds)) (cs:List ah),vm st.t cs parts=yy A.t cs parts
 |[],cs=>rfl
 |(off,sz,x)::r,cs=>by simp only[vm,yy,iv h,QV h r];try rfl
theorem aaq{st:bh}{A:dw}(h:mj st A)(i:gq):hh st i=qK A.t A.b A.e i:=by have ae:(fun k=>look k st.b)=A.b:=funext h.b;cases i<;>simp only[hh,qK,qW h,ako h,akp h,QV h,ae]
def gQ:ds->List Nat
 | .t i=>[i]
 | .c _=>[]
def N9:aW ds->List Nat
 |some x=>gQ x
 |none=>[]
def gq.looks:gq->List Nat
 | .mov x| .load _ _ x| .loadB _ _ x| .loadZ _ _ x| .faddr _ _ _ x| .fld _ _ _ x| .notB x| .neg x| .conv _ x| .ext _ x| .len x| .slen x| .nck x| .ment x| .mlen x| .mkif _ x| .b2s x| .isn _ x=>gQ x
 | .pick c x y=>gQ c++gQ x++gQ y
 | .iaddr _ x i| .sidx x i=>gQ x++gQ i
 | .ssl x lo hi| .lsl _ x lo hi=>gQ x++N9 lo++N9 hi
 | .bin _ _ x y| .min2 x y| .max2 x y| .beq _ _ x y=>gQ x++gQ y
 | .build _ a=>a.flatMap fun p=>gQ p.2.2
 | .mkf _ xs=>xs.flatMap gQ
 | .mget _ _ _ x k| .mgetB _ _ _ x k=>gQ x++gQ k
def eb.looks:eb->List Nat
 | .v _ i=>i.looks
 | .box _ _ x=>gQ x
 | .alloc _ _ _=>[]
 | .store _ x y=>gQ x++gQ y
 | .storeE _ x y=>gQ x++gQ y
 | .bsl _ _ _ xs=>xs.flatMap gQ
 | .app _ _ _ x y=>gQ x++gQ y
 | .bslm _ _ _ _ xs=>xs.flatMap gQ
 | .mks _ _ _ _ _ x=>gQ x
 | .apps _ _ x y=>gQ x++gQ y
 | .appm _ _ _ _ x y=>gQ x++gQ y
 | .mkmap _ _=>[]
 | .mput _ x k y=>gQ x++gQ k++gQ y
 | .range _ _ x=>gQ x
def ed.looks:ed->List Nat
 | .s i=>i.looks
 | .call _ f xs=>gQ f++xs.flatMap gQ
 | .next _ x=>gQ x
 | .opn _ f xs=>gQ f++xs.flatMap gQ
 | .callb _ f=>gQ f
def dm.looks(g:dm):List Nat:=(match g.g with|some (s,_)=>[s]|none=>[])++g.i.looks
def rI(l:List Nat)(t a:Nat->ah):Prop:= ∀i∈l,t i=a i
theorem gz{t a:Nat->ah}{x:ds}(h:rI (gQ x) t a):dB t x=dB a x:=by
 cases x
 ·exact h _ (by simp[gQ])
 ·rfl
theorem kP{l b:List Nat}{t a:Nat->ah}(h:rI (l++b) t a):rI l t a/\rI b t a:=⟨fun i hi=>h i (by simp[hi]),fun i hi=>h i (by simp[hi])⟩
theorem GY{t a:Nat->ah}{x:aW ds}(h:rI (N9 x) t a):x.map (dB t)=x.map (dB a):=by
 cases x
 ·rfl
 ·simp[gz h]
theorem QU{t a:Nat->ah}:∀{parts:List (Nat×Nat×ds)} {cs:List ah},rI (parts.flatMap fun p=>gQ p.2.2) t a->yy t cs parts=yy a cs parts
 |[],cs,_=>rfl
 |(off,sz,x)::r,cs,h=>by simp only[List.flatMap_cons]at h;obtain⟨J,U⟩:=kP h;simp only[yy,gz J,QU U]
theorem ER{t a:Nat->ah}:∀{xs:List ds},rI (xs.flatMap gQ) t a->xs.map (dB t)=xs.map (dB a)
 |[],_=>rfl
 |x::xs,h=>by simp only[List.flatMap_cons]at h;obtain⟨J,U⟩:=kP h;simp[gz J,ER U]
def gq.isLoad:gq->Bool
 | .load _ _ _=>true
 | .loadB _ _ _=>true
 | .mgetB _ _ _ _ _=>true
 | .mget _ _ _ _ _=>true
 | .ment _=>true
 | .mlen _=>true
 |_=>false
theorem ap7{t d:Nat->ah}{b cb:aB->aW (List ah)}{e f:aB->aW ec}{i:gq}(h:rI i.looks t d)(ae:i.isLoad=false):qK t b e i=qK d cb f i:=by
 cases i<;>simp only[gq.looks]at h<;>simp only[qK];case load agg sz x=>simp[gq.isLoad]at ae
 case loadB agg sz x=>simp[gq.isLoad]at ae
 case pick c x y=>obtain⟨J,a⟩:=kP h;obtain⟨J,U⟩:=kP J;rw[gz J,gz U,gz a]
 case iaddr=>obtain⟨J,U⟩:=kP h;rw[gz J,gz U]
 case sidx=>obtain⟨J,U⟩:=kP h;rw[gz J,gz U]
 case ssl=>obtain⟨J,a⟩:=kP h;obtain⟨J,U⟩:=kP J;rw[gz J,GY U,GY a]
 case lsl=>obtain⟨J,a⟩:=kP h;obtain⟨J,U⟩:=kP J;rw[gz J,GY U,GY a]
 case bin=>obtain⟨J,U⟩:=kP h;rw[gz J,gz U]
 case min2=>obtain⟨J,U⟩:=kP h;rw[gz J,gz U]
 case build=>rw[QU h]
 case mkf=>rw[ER h]
 case mget=>simp[gq.isLoad]at ae
 case mgetB=>simp[gq.isLoad]at ae
 case ment=>simp[gq.isLoad]at ae
 case mlen=>simp[gq.isLoad]at ae
 case max2=>obtain⟨J,U⟩:=kP h;rw[gz J,gz U]
 case beq=>obtain⟨J,U⟩:=kP h;rw[gz J,gz U]
 all_goals rw[gz h]
def ak7(A:dw)(s a:cM)(rm:aW aB):Prop:=(∀k,(look k a.b).isSome->(look k s.b).isSome\/rm=some k)/\(∀k,(look k a.e).isSome->(look k s.e).isSome\/rm=some k)/\(∀k,(look k s.b).isSome->(look k a.b).isSome)/\(∀k,(look k s.e).isSome->(look k a.e).isSome)/\
 (∀k,rm=some k->(∃j,k= .obj j)/\A.F k/\A.b k=none/\A.e k=none/\((look k a.b).isSome\/(look k a.e).isSome))
def abn(P:cz)(n:Nat)(args:List ah)(A:dw)(d:aW Nat)(x:lH):Prop:=
 ∃s a r rm,(∀k cs,look k s.b=some cs->A.b k=some cs/\aA (inObs s) cs)/\(∀k o,look k s.e=some o->A.e k=some o/\dH (inObs s) o)/\jm s/\jm a/\ak7 A s a rm/\aA (inObs s) args/\
  bK P n args s (fun b c=>b=r/\c=a)/\x=⟨d,r,a.b,a.e,rm⟩
def abo(P:cz)(n0 n:Nat)(args:List ah)(A:dw)(d:aW Nat)(x:lH):Prop:=
 ∃cQ r,d=some cQ/\(A.F (.loc (n0+cQ))/\A.b (.loc (n0+cQ))=none/\A.e (.loc (n0+cQ))=none)/\aA (fun _=>et) args/\
  JW P n (n0+cQ) args ⟨[],[]⟩ (fun a b=>a=r/\b=⟨[],[]⟩)/\x=⟨d,r,[],[],some (.loc (n0+cQ))⟩
def zu:ah->Bool
 | .ptr (.loc _) _=>true
 | .eptr _=>true
 |_=>false
def gq.isB:gq->Bool
 | .loadB _ _ _=>true
 | .mgetB _ _ _ _ _=>true
 |_=>false
def gq.ptrOf(t:Nat->ah):gq->ah
 | .load _ _ x=>dB t x
 | .loadB _ _ x=>dB t x
 |_=>.junk
def dT(P:cz)(q:Bool)(n0:Nat):ed->dw->lH->Prop
 | .s (.v d i),A,x=> ∃c p,qK A.t A.b A.e i=some (c,p)/\c/\(i.isLoad=true->i.isB=true\/q=true\/zu (i.ptrOf A.t)=true)/\x=⟨some d,p,[],[],none⟩
 | .s (.box d none v),A,x=>(A.F (.loc (n0+d))/\A.b (.loc (n0+d))=none/\A.e (.loc (n0+d))=none)/\e5 (dB A.t v)=true/\x=⟨some d,.ptr (.loc (n0+d)) 0,[(.loc (n0+d),cells (dB A.t v))],[],some (.loc (n0+d))⟩
 | .s (.alloc d none z),A,x=>(A.F (.loc (n0+d))/\A.b (.loc (n0+d))=none/\A.e (.loc (n0+d))=none)/\x=⟨some d,.ptr (.loc (n0+d)) 0,[(.loc (n0+d),cells z)],[],some (.loc (n0+d))⟩
 | .s (.store sz u v),A,x=> ∃k off cs,dB A.t u= .ptr k off/\A.b k=some cs/\(ik cs=true/\e5 (dB A.t v)=true/\(cells (dB A.t v)).length=sz/\off+sz<=cs.length)/\x=⟨none,.junk,[(k,o6 cs off (cells (dB A.t v)))],[],none⟩
 | .s (.bsl d sz el xs),A,x=>(A.F (.loc (n0+d))/\A.b (.loc (n0+d))=none/\A.e (.loc (n0+d))=none)/\sA sz (xs.map (dB A.t))/\x=⟨some d,.slice sz (.own (.loc (n0+d))) (xs.map (dB A.t)),[],[(.loc (n0+d),⟨xs.length,el,sz,none⟩)],some (.loc (n0+d))⟩
 | .s (.app d sz el u v),A,x=> ∃tag xs a ys,dB A.t u= .slice sz tag xs/\dB A.t v= .slice sz a ys/\
   ((∃k o,tag= .own k/\A.e k=some o/\(o.xs=none/\o.n=xs.length/\o.el=el/\o.sz=sz/\xs.length+ys.length<=lim)/\x=⟨some d,.slice sz (.own k) (xs++ys),[],[(k,⟨xs.length+ys.length,el,sz,none⟩)],none⟩)\/
    (tag= .nil/\ys.length<=lim/\(A.F (.loc (n0+d))/\A.b (.loc (n0+d))=none/\A.e (.loc (n0+d))=none)/\x=⟨some d,.slice sz (.own (.loc (n0+d))) ys,[],[(.loc (n0+d),⟨ys.length,el,sz,none⟩)],some (.loc (n0+d))⟩))
 | .s (.bslm d (some m) sz el xs),A,x=>(A.F (.obj m)/\A.b (.obj m)=none/\A.e (.obj m)=none)/\sA sz (xs.map (dB A.t))/\x=⟨some d,.row sz (.obj m) xs.length,[],[(.obj m,⟨xs.length,el,sz,some (xs.map (dB A.t))⟩)],some (.obj m)⟩
 | .s (.appm d none sz el u v),A,x=> ∃k n xs a ys,dB A.t u= .row sz k n/\dB A.t v= .slice sz a ys/\A.e k=some ⟨n,el,sz,some xs⟩/\xs.length+ys.length<=lim/\x=⟨some d,.row sz k (xs.length+ys.length),[],[(k,⟨xs.length+ys.length,el,sz,some (xs++ys)⟩)],none⟩
 | .s (.appm d (some m) sz el u v),A,x=>(∃k n xs a ys,dB A.t u= .row sz k n/\dB A.t v= .slice sz a ys/\A.e k=some ⟨n,el,sz,some xs⟩/\xs.length+ys.length<=lim/\x=⟨some d,.row sz k (xs.length+ys.length),[],[(k,⟨xs.length+ys.length,el,sz,some (xs++ys)⟩)],none⟩)\/ ∃xs a ys,dB A.t u= .slice sz .nil xs/\dB A.t v= .slice sz a ys/\(A.F (.obj m)/\A.b (.obj m)=none/\A.e (.obj m)=none)/\(ys.length<=lim/\ys≠[])/\x=⟨some d,.row sz (.obj m) ys.length,[],[(.obj m,⟨ys.length,el,sz,some ys⟩)],some (.obj m)⟩
 | .s (.storeE sz u v),A,x=> ∃k n i f el b xs q,dB A.t u= .rptr b k n i f/\A.e k=some ⟨n,el,b,some xs⟩/\xs[i]? =some q/\(e5 q=true/\e5 (dB A.t v)=true/\(cells (dB A.t v)).length=sz/\f+sz<=(cells q).length/\0<sz)/\x=⟨none,.junk,[],[(k,⟨n,el,b,some (xs.set i (nG q f (cells (dB A.t v))))⟩)],none⟩
 | .s (.mkmap d (some m)),A,x=>(A.F (.obj m)/\A.b (.obj m)=none/\A.e (.obj m)=none)/\x=⟨some d,.gmap (.obj m),[(.obj m,[.hdm 0 []])],[],some (.obj m)⟩
 | .s (.mput e u k v),A,x=> ∃m cs cs',dB A.t u= .gmap m/\A.b m=some cs/\pR e (dB A.t k) (dB A.t v) cs=some cs'/\x=⟨none,.junk,[(m,cs')],[],none⟩
 | .call d f xs,A,x=> ∃n cZ,dB A.t f= .func n cZ/\((abn P n (cK (xs.map (dB A.t)++cZ)) A d x/\(q=true->x.bw=[]/\x.ew=[]))\/abo P n0 n (cK (xs.map (dB A.t)++cZ)) A d x)
 |_,_,_=>et
inductive CT where
 |v|l|n|s|w|a|c|m|r|k|z
 deriving DecidableEq
def ed.mode:ed->CT
 | .s (.v _ (.loadB _ _ _))=>.m
 | .s (.v _ (.mgetB _ _ _ _ _))=>.m
 | .s (.v _ i)=>if i.isLoad then .l else .v
 | .s (.storeE _ _ _)=>.r
 | .s (.box _ _ _)=>.n
 | .s (.alloc _ _ _)=>.n
 | .s (.store _ _ _)=>.w
 | .s (.bsl _ _ _ _)=>.s
 | .s (.app _ _ _ _ _)=>.a
 | .s (.bslm _ none _ _ _)=>.w
 | .s (.bslm _ (some _) _ _ _)=>.z
 | .s (.mks _ _ _ _ _ _)=>.w
 | .s (.apps _ _ _ _)=>.w
 | .s (.appm _ none _ _ _ _)=>.r
 | .s (.appm _ (some _) _ _ _ _)=>.z
 | .s (.mkmap _ _)=>.k
 | .s (.mput _ _ _ _)=>.w
 | .s (.range _ _ _)=>.w
 | .call _ _ _=>.c
 | .next _ _=>.w
 | .opn _ _ _=>.w
 | .callb _ _=>.w
structure J7 (q:Bool) (n0:Nat) (m:CT) (dst:aW Nat) (A:dw) (x:lH):Prop where
 d:x.d=dst
 b:∀k,(look k x.bw).isSome->(m= .n/\∃d,dst=some d/\k= .loc (n0+d)/\A.b k=none/\A.e k=none)\/m= .w\/(m= .c/\(∃j,k= .obj j)/\q=false)\/(m= .k/\(∃j,k= .obj j)/\A.b k=none/\A.e k=none)
 e:∀k,(look k x.ew).isSome->(m= .s/\∃d,dst=some d/\k= .loc (n0+d)/\A.b k=none/\A.e k=none)\/(m= .a/\(A.e k≠none\/ ∃d,dst=some d/\k= .loc (n0+d)/\A.b k=none/\A.e k=none))\/(m= .c/\(∃j,k= .obj j)/\q=false)\/(m= .r/\∃o,A.e k=some o/\o.xs≠none)\/m= .z
 r:∀k,x.rm=some k->(∃d,dst=some d/\k= .loc (n0+d))\/((m= .c\/m= .k\/m= .z)/\(∃j,k= .obj j)/\((look k x.bw).isSome\/(look k x.ew).isSome))
 ex:m= .a->∀k o,(look k x.ew).isSome->A.e k=some o->o.xs=none
 xn:m= .a\/m= .s->∀k o,look k x.ew=some o->o.xs=none
theorem uG{α:Type}{k a:aB}{x:α}(h:(look k [(a,x)]).isSome):k=a:=by
 simp only[look]at h;split at h
 ·rename_i e;exact e.symm
 ·cases h
theorem Ni{k a:aB}{n el sz:Nat}{o:ec}(h:look k [(a,(⟨n,el,sz,none⟩:ec))]=some o):o.xs=none:=by
 simp only[look]at h;split at h
 ·cases h;rfl
 ·cases h
theorem aag{P:cz}{q:Bool}{n0:Nat}{i:ed}{A:dw}{x:lH}(h:dT P q n0 i A x):J7 q n0 i.mode i.dst A x:=by
 cases i with
 |s i=>
  cases i with
  |v d i=>simp only[dT]at h;obtain⟨c,p,_,_,_,rfl⟩:=h;exact⟨rfl,fun k a=>by simp[look]at a,fun k a=>by simp[look]at a,fun k a=>by simp at a,fun _ k o a=>by simp[look]at a,fun _ k o a=>by simp[look]at a⟩
  |box d key v=>
   cases key with
   |some m=>simp only[dT]at h
   |none=>simp only[dT]at h;obtain⟨⟨_,U,b⟩,_,rfl⟩:=h;exact⟨rfl,fun k a=>by obtain rfl:=uG a;exact .inl ⟨rfl,d,rfl,rfl,U,b⟩,fun k a=>by simp[look]at a,fun k a=>by simp at a;exact .inl ⟨d,rfl,a.symm⟩,fun _ k o a=>by simp[look]at a,fun _ k o a=>by simp[look]at a⟩
  |alloc d key z=>
   cases key with
   |some m=>simp only[dT]at h
   |none=>simp only[dT]at h;obtain⟨⟨_,U,b⟩,rfl⟩:=h;exact⟨rfl,fun k a=>by obtain rfl:=uG a;exact .inl ⟨rfl,d,rfl,rfl,U,b⟩,fun k a=>by simp[look]at a,fun k a=>by simp at a;exact .inl ⟨d,rfl,a.symm⟩,fun _ k o a=>by simp[look]at a,fun _ k o a=>by simp[look]at a⟩
  |store sz u v=>simp only[dT]at h;obtain⟨k,off,cs,_,_,_,rfl⟩:=h;exact⟨rfl,fun k a=>.inr (.inl rfl),fun k a=>by simp[look]at a,fun k a=>by simp at a,fun _ k o a=>by simp[look]at a,fun _ k o a=>by simp[look]at a⟩
  |bsl d sz el xs=>simp only[dT]at h;obtain⟨⟨_,U,b⟩,_,rfl⟩:=h;exact⟨rfl,fun k a=>by simp[look]at a,fun k a=>by obtain rfl:=uG a;exact .inl ⟨rfl,d,rfl,rfl,U,b⟩,fun k a=>by simp at a;exact .inl ⟨d,rfl,a.symm⟩,fun e=>by simp[ed.mode]at e,fun _ k o a=>Ni a⟩
  |app d sz el u v=>
   simp only[dT]at h;obtain⟨tag,xs,g,ys,_,_,h⟩:=h;rcases h with⟨k,o,_,J,⟨t,_⟩,rfl⟩|⟨_,_,⟨_,U,b⟩,rfl⟩
   ·exact⟨rfl,fun k a=>by simp[look]at a,fun k a=>by obtain rfl:=uG a;exact .inr (.inl ⟨rfl,.inl (by rw[J];simp)⟩),fun k a=>by simp at a,fun _ w o' a ak=>by obtain rfl:=uG a;rw[J]at ak;cases ak;exact t,fun _ k o a=>Ni a⟩
   ·exact⟨rfl,fun k a=>by simp[look]at a,fun k a=>by obtain rfl:=uG a;exact .inr (.inl ⟨rfl,.inr ⟨d,rfl,rfl,U,b⟩⟩),fun k a=>by simp at a;exact .inl ⟨d,rfl,a.symm⟩,fun _ w o' a ak=>(by obtain rfl:=uG a;rw[b]at ak;cases ak),fun _ k o a=>Ni a⟩
  |bslm d key sz el xs=>
   cases key with
   |none=>simp only[dT]at h
   |some m=>simp only[dT]at h;obtain⟨⟨_,U,b⟩,_,rfl⟩:=h;exact⟨rfl,fun k a=>by simp[look]at a,fun k a=>.inr (.inr (.inr (.inr rfl))),fun k a=>by simp at a;subst a;exact .inr ⟨.inr (.inr rfl),⟨m,rfl⟩,.inr (by simp[look])⟩,fun e=>by simp[ed.mode]at e,fun e=>by simp[ed.mode]at e⟩
  |mks d key sz el z x=>simp only[dT]at h
  |apps d el x y=>simp only[dT]at h
  |appm d key sz el u v=>
   cases key with
   |none=>simp only[dT]at h;obtain⟨k,n,xs,g,ys,_,_,J,_,rfl⟩:=h;exact⟨rfl,fun k a=>by simp[look]at a,fun k a=>by obtain rfl:=uG a;exact .inr (.inr (.inr (.inl ⟨rfl,_,J,Ψ⟩))),fun k a=>by simp at a,fun e=>by simp[ed.mode]at e,fun e=>by simp[ed.mode]at e⟩
   |some m=>
    simp only[dT]at h;rcases h with⟨k,n,xs,g,ys,_,_,J,_,rfl⟩|⟨xs,g,ys,_,_,⟨_,U,b⟩,_,rfl⟩
    ·exact⟨rfl,fun k a=>by simp[look]at a,fun k a=>.inr (.inr (.inr (.inr rfl))),fun k a=>by simp at a,fun e=>by simp[ed.mode]at e,fun e=>by simp[ed.mode]at e⟩
    exact⟨rfl,fun k a=>by simp[look]at a,fun k a=>.inr (.inr (.inr (.inr rfl))),fun k a=>by simp at a;subst a;exact .inr ⟨.inr (.inr rfl),⟨m,rfl⟩,.inr (by simp[look])⟩,fun e=>by simp[ed.mode]at e,fun e=>by simp[ed.mode]at e⟩
  |storeE sz u v=>simp only[dT]at h;obtain⟨k,n,i,f,el,B,xs,q,_,J,_,_,rfl⟩:=h;exact⟨rfl,fun k a=>by simp[look]at a,fun k a=>by obtain rfl:=uG a;exact .inr (.inr (.inr (.inl ⟨rfl,_,J,Ψ⟩))),fun k a=>by simp at a,fun e=>by simp[ed.mode]at e,fun e=>by simp[ed.mode]at e⟩
  |mkmap d key=>
   cases key with
   |none=>simp only[dT]at h
   |some m=>simp only[dT]at h;obtain⟨⟨_,U,b⟩,rfl⟩:=h;exact⟨rfl,fun k a=>by obtain rfl:=uG a;exact .inr (.inr (.inr ⟨rfl,⟨m,rfl⟩,U,b⟩)),fun k a=>by simp[look]at a,fun k a=>by simp at a;subst a;exact .inr ⟨.inr (.inl rfl),⟨m,rfl⟩,.inl (by simp[look])⟩,fun e=>by simp[ed.mode]at e,fun e=>by simp[ed.mode]at e⟩
  |mput D x k v=>simp only[dT]at h;obtain⟨m,cs,cs',_,_,_,rfl⟩:=h;exact⟨rfl,fun k a=>.inr (.inl rfl),fun k a=>by simp[look]at a,fun k a=>by simp at a,fun e=>by simp[ed.mode]at e,fun e=>by simp[ed.mode]at e⟩
  |range d key x=>simp only[dT]at h
 |next d x=>simp only[dT]at h
 |opn d f x=>simp only[dT]at h
 |callb d f=>simp only[dT]at h
 |call d f xs=>
  simp only[dT]at h;obtain⟨n,cZ,_,h⟩:=h;rcases h with⟨⟨s,E,r,rm,_,_,_,ak,l,_,_,rfl⟩,j⟩|⟨cQ,r,rfl,_,_,_,rfl⟩;rotate_left
  ·exact⟨rfl,fun k a=>by simp[look]at a,fun k a=>by simp[look]at a,fun k a=>by simp at a;exact .inl ⟨cQ,rfl,a.symm⟩,fun _ k o a=>by simp[look]at a,fun _ k o a=>by simp[look]at a⟩
  refine⟨rfl,fun k a=>.inr (.inr (.inl ⟨rfl,?_,?_⟩)),fun k a=>.inr (.inr (.inl ⟨rfl,?_,?_⟩)),fun k a=>.inr ⟨.inl rfl,(l.2.2.2.2 k a).1,(l.2.2.2.2 k a).2.2.2.2⟩,fun e=>by simp[ed.mode]at e,fun e=>by simp[ed.mode]at e⟩
  ·cases k with
   |loc m=>rw[ak.1 m]at a;cases a
   |obj m=>exact⟨m,rfl⟩
  ·cases q with
   |false=>rfl
   |true=>rw[(j rfl).1]at a;simp[look]at a
  ·cases k with
   |loc m=>rw[ak.2 m]at a;cases a
   |obj m=>exact⟨m,rfl⟩
  ·cases q with
   |false=>rfl
   |true=>rw[(j rfl).2]at a;simp[look]at a
theorem Qi{P:cz}{q:Bool}{n0:Nat}{i:ed}{A A':dw}{x:lH}(h:dT P q n0 i A x)(aM:rI i.looks A.t A'.t)
  (X:i.mode= .l->∀k,(q=true\/ ∃m,k= .loc m)->A.b k≠none->A'.b k=A.b k) (V:i.mode= .m->∀k,A.b k≠none->A'.b k=A.b k)
  (l2:i.mode= .l->q=true->∀k o,A.e k=some o->o.xs≠none->A'.e k=some o)
  (D:∀d,i.dst=some d->(i.mode= .n\/i.mode= .s\/i.mode= .a\/i.mode= .c)->(A.F (.loc (n0+d))/\A.b (.loc (n0+d))=none/\A.e (.loc (n0+d))=none)->(A'.F (.loc (n0+d))/\A'.b (.loc (n0+d))=none/\A'.e (.loc (n0+d))=none))
  (bC:i.mode= .a->∀k o,A.e k=some o->A'.e k=some o) (hw:i.mode= .w->∀k,A'.b k=A.b k) (S:i.mode= .z->(∀m,(A.F (.obj m)/\A.b (.obj m)=none/\A.e (.obj m)=none)->(A'.F (.obj m)/\A'.b (.obj m)=none/\A'.e (.obj m)=none))/\∀k,A'.e k=A.e k) (M:i.mode= .k->∀m,(A.F (.obj m)/\A.b (.obj m)=none/\A.e (.obj m)=none)->(A'.F (.obj m)/\A'.b (.obj m)=none/\A'.e (.obj m)=none)) (Y:i.mode= .r->∀k o,A.e k=some o->o.xs≠none->A'.e k=some o)
  (ax:i.mode= .c->∀m,A'.b (.obj m)=A.b (.obj m)/\A'.e (.obj m)=A.e (.obj m)/\(A.F (.obj m)->A'.F (.obj m))):dT P q n0 i A' x:=by
 cases i with
 |s i=>
  cases i with
  |v d i=>
   simp only[dT]at h⊢;obtain⟨c,p,J,U,g,w⟩:=h;by_cases hB:∃agg sz y,i= .loadB agg sz y
   ·obtain⟨agg,sz,y,rfl⟩:=hB;simp only[ed.looks,eb.looks,gq.looks]at aM;have E:=gz aM;refine⟨c,p,?_,U,fun _=>.inl rfl,w⟩;rw[<-J];simp only[qK,<-E];have hm:=V (by simp[ed.mode]);simp only[qK]at J;cases t:dB A.t y<;>simp only[tn];rename_i key off;rw[t]at J;simp only[tn]at J;cases ae:A.b key with
    |none=>simp[ae]at J
    |some cs=>have:A'.b key=A.b key:=hm key (by rw[ae];simp);rw[this,ae]
   by_cases G:∃F zero ok y z,i= .mgetB F zero ok y z
   ·obtain⟨F,zero,ok,y,z,rfl⟩:=G;simp only[ed.looks,eb.looks,gq.looks]at aM;obtain⟨t1,t2⟩:=kP aM;refine⟨c,p,?_,U,fun _=>.inl rfl,w⟩;simp only[qK]at J⊢;rw[<-gz t1,<-gz t2];exact Xy (V (by simp[ed.mode])) J
   replace g:i.isLoad=true->q=true\/zu (i.ptrOf A.t)=true:=fun a=>(g a).resolve_left (fun ae=>by cases i<;>simp[gq.isB]at ae;exact hB ⟨_,_,_,rfl⟩;exact G ⟨_,_,_,_,_,rfl⟩);have O:i.isLoad=true->(ed.s (.v d i)).mode= .l:=by intro a;cases i<;>simp only[gq.isLoad]at a<;>first|(cases a;done)|(simp[ed.mode,gq.isLoad];done)|exact absurd ⟨_,_,_,rfl⟩ hB|exact absurd ⟨_,_,_,_,_,rfl⟩ G
   by_cases a:i.isLoad=true
   ·have H:∀(t:zu (i.ptrOf A.t)=false),∀k,A.b k≠none->A'.b k=A.b k:=fun t k b=>X (O a) k (.inl ((g a).resolve_right (by rw[t];simp))) b;cases i<;>simp only[gq.isLoad]at a<;>try(cases a;done)
    case mget F zero ok y z=>simp only[ed.looks,eb.looks,gq.looks]at aM;obtain⟨t1,t2⟩:=kP aM;refine⟨c,p,?_,U,fun _=>.inr (g rfl),w⟩;simp only[qK]at J⊢;rw[<-gz t1,<-gz t2];exact Xy (H rfl) J
    case ment y=>simp only[ed.looks,eb.looks,gq.looks]at aM;refine⟨c,p,?_,U,fun _=>.inr (g rfl),w⟩;simp only[qK]at J⊢;rw[<-gz aM];exact akD (H rfl) J
    case mlen y=>simp only[ed.looks,eb.looks,gq.looks]at aM;refine⟨c,p,?_,U,fun _=>.inr (g rfl),w⟩;simp only[qK]at J⊢;rw[<-gz aM];exact akY (H rfl) J
    case loadB agg sz y=>exact absurd ⟨_,_,_,rfl⟩ hB
    case mgetB=>exact absurd ⟨_,_,_,_,_,rfl⟩ G
    rename_i agg sz y;simp only[ed.looks,eb.looks,gq.looks]at aM;have E:=gz aM;refine⟨c,p,?_,U,fun _=>.inr (by have:=g rfl;simpa only[gq.ptrOf,<-E]using this),w⟩;rw[<-J];simp only[qK,<-E];have hm:=X (by simp[ed.mode,gq.isLoad]);simp only[qK]at J;have B:=g rfl;simp only[gq.ptrOf]at B;cases t:dB A.t y<;>simp only[tn]
    ·rename_i key off;rw[t]at J B;simp only[tn]at J;cases ae:A.b key with
     |none=>simp[ae]at J
     |some cs=>have:A'.b key=A.b key:=hm key (by rcases B with h|h;exact .inl h;cases key;exact .inr ⟨_,rfl⟩;simp[zu]at h) (by rw[ae];simp);rw[this,ae]
    ·rename_i W key n i f;rw[t]at J B;simp only[tn]at J;have N:q=true:=B.resolve_right (by simp[zu]);unfold zZ at J;split at J
     ·rename_i n' el iB xs he;rw[he,l2 (by simp[ed.mode,gq.isLoad]) N key _ he Ψ]
     ·cases J
   ·have a:i.isLoad=false:=by simpa using a
    refine⟨c,p,?_,U,(fun e=>by rw[a]at e;cases e),w⟩;rw[<-J];exact(ap7 (by simpa only[ed.looks,eb.looks]using aM) a).symm
  |box d key v=>
   cases key with
   |some m=>simp only[dT]at h
   |none=>simp only[dT,ed.looks,eb.looks]at h aM⊢;obtain⟨J,U,g⟩:=h;rw[<-gz aM];exact⟨D d rfl (.inl rfl) J,U,g⟩
  |alloc d key z=>
   cases key with
   |some m=>simp only[dT]at h
   |none=>simp only[dT]at h⊢;exact⟨D d rfl (.inl rfl) h.1,h.2⟩
  |store sz u v=>simp only[dT,ed.looks,eb.looks]at h aM⊢;obtain⟨J,U⟩:=kP aM;rw[<-gz J,<-gz U];obtain⟨k,off,cs,g1,g2,g3,g4⟩:=h;exact⟨k,off,cs,g1,by rw[hw rfl];exact g2,g3,g4⟩
  |bsl d sz el xs=>simp only[dT,ed.looks,eb.looks]at h aM⊢;rw[<-ER aM];exact⟨D d rfl (.inr (.inl rfl)) h.1,h.2⟩
  |app d sz el u v=>
   simp only[dT,ed.looks,eb.looks]at h aM⊢;obtain⟨J,U⟩:=kP aM;rw[<-gz J,<-gz U];obtain⟨tag,xs,l,ys,g1,g2,h⟩:=h;refine⟨tag,xs,l,ys,g1,g2,?_⟩;rcases h with⟨k,o,Q,R,K⟩|⟨Q,R,K,cR⟩
   ·exact .inl ⟨k,o,Q,bC rfl k o R,K⟩
   ·exact .inr ⟨Q,R,D d rfl (.inr (.inr (.inl rfl))) K,cR⟩
  |bslm d key sz el xs=>
   cases key with
   |none=>simp only[dT]at h
   |some m=>simp only[dT,ed.looks,eb.looks]at h aM⊢;rw[<-ER aM];exact⟨(S rfl).1 m h.1,h.2⟩
  |mks d key sz el z x=>simp only[dT]at h
  |apps d el x y=>simp only[dT]at h
  |appm d key sz el u v=>
   cases key with
   |none=>simp only[dT,ed.looks,eb.looks]at h aM⊢;obtain⟨J,U⟩:=kP aM;rw[<-gz J,<-gz U];obtain⟨k,n,xs,l,ys,g1,g2,g3,g4,g5⟩:=h;exact⟨k,n,xs,l,ys,g1,g2,Y rfl k _ g3 Ψ,g4,g5⟩
   |some m=>
    simp only[dT,ed.looks,eb.looks]at h aM⊢;obtain⟨J,U⟩:=kP aM;rw[<-gz J,<-gz U];rcases h with⟨k,n,xs,l,ys,g1,g2,g3,g4,g5⟩|⟨xs,l,ys,g1,g2,g3,g4⟩
    ·exact .inl ⟨k,n,xs,l,ys,g1,g2,by rw[(S rfl).2];exact g3,g4,g5⟩
    ·exact .inr ⟨xs,l,ys,g1,g2,(S rfl).1 m g3,g4⟩
  |storeE sz u v=>simp only[dT,ed.looks,eb.looks]at h aM⊢;obtain⟨J,U⟩:=kP aM;rw[<-gz J,<-gz U];obtain⟨k,n,i,f,el,W,xs,q,g1,g2,g3⟩:=h;exact⟨k,n,i,f,el,W,xs,q,g1,Y rfl k _ g2 Ψ,g3⟩
  |mkmap d key=>
   cases key with
   |none=>simp only[dT]at h
   |some m=>simp only[dT]at h⊢;exact⟨M rfl m h.1,h.2⟩
  |mput F u k v=>simp only[dT,ed.looks,eb.looks]at h aM⊢;obtain⟨t1,t3⟩:=kP aM;obtain⟨t1,t2⟩:=kP t1;obtain⟨m,cs,cs',g1,g2,g3,g4⟩:=h;rw[<-gz t1,<-gz t2,<-gz t3];exact⟨m,cs,cs',g1,by rw[hw rfl];exact g2,g3,g4⟩
  |range d key x=>simp only[dT]at h
 |next d x=>simp only[dT]at h
 |opn d f x=>simp only[dT]at h
 |callb d f=>simp only[dT]at h
 |call d f xs=>
  simp only[dT,ed.looks]at h aM⊢;obtain⟨J,U⟩:=kP aM;rw[<-gz J,<-ER U];obtain⟨n,cZ,g1,h⟩:=h;rcases h with⟨⟨s,aj,r,rm,L,c2,c3,c4,c5,Z⟩,g3⟩|⟨cQ,r,rfl,L,c2⟩;rotate_left
  ·exact⟨n,cZ,g1,.inr ⟨cQ,r,rfl,D cQ rfl (.inr (.inr (.inr rfl))) L,c2⟩⟩
  refine⟨n,cZ,g1,.inl ⟨⟨s,aj,r,rm,fun k cs b=>?_,fun k o b=>?_,c3,c4,⟨c5.1,c5.2.1,c5.2.2.1,c5.2.2.2.1,fun k b=>?_⟩,Z⟩,g3⟩⟩
  ·cases k with
   |loc m=>rw[c3.1 m]at b;cases b
   |obj m=>rw[(ax rfl m).1];exact L _ _ b
  ·cases k with
   |loc m=>rw[c3.2 m]at b;cases b
   |obj m=>rw[(ax rfl m).2.1];exact c2 _ _ b
  ·obtain⟨⟨j,rfl⟩,d2,d3,d4,d5⟩:=c5.2.2.2.2 k b;exact⟨⟨j,rfl⟩,(ax rfl j).2.2 d2,by rw[(ax rfl j).1];exact d3,by rw[(ax rfl j).2.1];exact d4,d5⟩
def me(d:aW Nat):lH:=⟨d,.tuple [],[],[],none⟩
def lI(P:cz)(q:Bool)(n0:Nat)(g:dm)(A:dw)(x:lH):Prop:=
 match g.g with
 |none=>dT P q n0 g.i A x
 |some (s,w)=>match A.t s with
  | .bool b=>(b=w/\dT P q n0 g.i A x)\/(b= !w/\x=me g.i.dst)
  | .tuple []=>x=me g.i.dst
  |_=>et
def eT:CT->CT->Bool
 | .v,_=>true
 |_,.v=>true
 | .l,.l| .l,.n| .l,.s| .l,.a| .l,.c=>true
 | .n,.n| .n,.s| .n,.a| .n,.c=>true
 | .s,.l| .s,.n| .s,.s| .s,.c=>true
 | .a,.l| .a,.n| .a,.s=>true
 | .c,.l| .c,.n| .c,.s=>true
 | .l,.m| .m,.l| .m,.m| .m,.n| .m,.s| .m,.a| .s,.m| .a,.m=>true
 | .l,.k| .m,.k| .n,.k| .s,.k=>true
 | .m,.r| .r,.m| .r,.n| .r,.s| .n,.r| .s,.r| .r,.w| .w,.r=>true
 | .m,.z| .z,.m| .z,.n=>true
 |_,_=>false
def A5(g h:dm):Bool:=(match g.i.dst with|some d=> !(h.looks.contains d)&&h.i.dst !=some d|none=>true)&&(match h.i.dst with|some d=> !(g.looks.contains d)|none=>true)&&eT g.i.mode h.i.mode
theorem aah(q:Bool)(n0:Nat)(m:CT)(d:aW Nat)(A:dw):J7 q n0 m d A (me d):=⟨rfl,fun k a=>by simp[me,look]at a,fun k a=>by simp[me,look]at a,fun k a=>by simp[me]at a,fun _ k o a=>by simp[me,look]at a,fun _ k o a=>by simp[me,look]at a⟩
theorem PD{P:cz}{q:Bool}{n0:Nat}{g:dm}{A:dw}{x:lH}(h:lI P q n0 g A x):J7 q n0 g.i.mode g.i.dst A x:=by
 unfold lI at h;split at h
 ·exact aag h
 ·split at h
  ·rcases h with⟨_,h⟩|⟨_,rfl⟩
   ·exact aag h
   ·exact aah _ _ _ _ _
  ·subst h;exact aah _ _ _ _ _
  ·exact h.elim
theorem sC{A:dw}{x:lH}{k:aB}(h:look k x.bw=none):(A.do x).b k=A.b k:=by simp[dw.do,jh,h]
theorem qQ{A:dw}{x:lH}{k:aB}(h:look k x.ew=none):(A.do x).e k=A.e k:=by simp[dw.do,jh,h]
theorem GQ{A:dw}{x:lH}{k:aB}(h:(A.do x).b k=none):A.b k=none:=by
 simp only[dw.do,jh]at h;split at h
 ·cases h
 ·exact h
theorem GR{A:dw}{x:lH}{k:aB}(h:(A.do x).e k=none):A.e k=none:=by
 simp only[dw.do,jh]at h;split at h
 ·cases h
 ·exact h
theorem k2{α:Type}{o:aW α}(h:¬o.isSome):o=none:=by cases o<;>simp at h⊢
theorem Qk{P:cz}{q:Bool}{n0:Nat}{g:dm}{A A':dw}{x:lH}(h:lI P q n0 g A x)(aM:rI g.looks A.t A'.t)(hm:dT P q n0 g.i A x->dT P q n0 g.i A' x):lI P q n0 g A' x:=by
 unfold lI at h⊢;cases aY:g.g with
 |none=>simp only[aY]at h⊢;exact hm h
 |some a=>
  obtain⟨s,w⟩:=a;have:A.t s=A'.t s:=aM s (by simp[dm.looks,aY]);simp only[aY,this]at h⊢;split at h
  ·rcases h with⟨J,U⟩|h
   ·exact .inl ⟨J,hm U⟩
   ·exact .inr h
  ·exact h
  ·exact h
theorem swap{P:cz}{q:Bool}{n0:Nat}{g h:dm}(U:A5 g h=true){A:dw}{x y:lH}(R:lI P q n0 g A x)(X:lI P q n0 h (A.do x) y):
  lI P q n0 h A y/\lI P q n0 g (A.do y) x/\x.apart y:=by
 simp only[A5,cD]at U;obtain⟨⟨G,O⟩,hm⟩:=U;have B:=PD R;have w:∀d l,g.i.dst=some d->h.i.dst=some l->d≠l:=by intro d l a b e;simp only[a,cD,bne_iff_ne]at G;exact G.2 (by rw[b,e])
 have W:rI h.looks (A.do x).t A.t:=by intro i hi;simp only[dw.do];rw[if_neg];intro e;rw[B.d]at e;simp only[e,cD,Bool.not_eq_true',List.contains_eq_mem,iq]at G;exact G.1 hi
 have E:∀k,(look k x.bw).isSome->_:=B.b;have hle:∀k,(look k x.ew).isSome->_:=B.e;have S:lI P q n0 h A y:=by
  refine Qk X W fun H=>Qi H (fun i hi=>W i (by simp[dm.looks,hi])) (fun e k r ae=>?_) (fun e k ae=>?_) (fun e K k o ak D=>?_) (fun d F M f=>?_) (fun e k o ak=>?_) (fun e k=>?_) (fun e=>⟨fun m f=>⟨f.1.1,GQ f.2.1,GR f.2.2⟩,fun k=>?_⟩) (fun e m f=>⟨f.1.1,GQ f.2.1,GR f.2.2⟩) (fun e k o ak D=>?_) (fun e m=>?_)
  ·rw[sC (k2 fun c=>?_)];rcases E k c with⟨a,_⟩|a|⟨a,⟨j,b⟩,n⟩|⟨a,_⟩;rotate_left 3
   ·rw[e,a]at hm;simp[eT]at hm
   ·rw[e,a]at hm;simp[eT]at hm
   ·rw[e,a]at hm;simp[eT]at hm
   ·rcases r with r|⟨m,r⟩
    ·rw[r]at n;cases n
    ·rw[r]at b;cases b
  ·rw[sC (k2 fun c=>?_)];rcases E k c with⟨a,_⟩|a|⟨a,_⟩|⟨a,_⟩<;>(rw[e,a]at hm;simp[eT]at hm)
  ·rw[e]at hm;cases t:look k x.ew with
   |none=>rw[qQ t]at ak;exact ak
   |some o'=>
    exfalso;have L:(A.do x).e k=some o':=by simp[dw.do,jh,t]
    rw[L]at ak;cases ak;rcases hle k (by simp[t])with⟨a,_⟩|⟨a,_⟩|⟨a,_,n⟩|⟨a,_⟩|a
    ·exact D (B.xn (.inr a) k _ t)
    ·exact D (B.xn (.inl a) k _ t)
    ·rw[K]at n;cases n
    ·rw[a]at hm;simp[eT]at hm
    ·rw[a]at hm;simp[eT]at hm
  ·exact⟨f.1.1,GQ f.2.1,GR f.2.2⟩
  ·rw[qQ (k2 fun c=>?_)]at ak
   ·exact ak
   ·rw[e]at hm;rcases hle k c with⟨a,_⟩|⟨a,_⟩|⟨a,_⟩|⟨a,_⟩|a<;>(rw[a]at hm;simp[eT]at hm)
  ·rw[sC (k2 fun c=>?_)];rw[e]at hm;rcases E k c with⟨a,_⟩|a|⟨a,_⟩|⟨a,_⟩<;>(rw[a]at hm;simp[eT]at hm)
  ·rw[qQ (k2 fun c=>?_)];rw[e]at hm;rcases hle k c with⟨a,_⟩|⟨a,_⟩|⟨a,_⟩|⟨a,_⟩|a<;>(rw[a]at hm;simp[eT]at hm)
  ·rw[e]at hm;cases t:look k x.ew with
   |none=>rw[qQ t]at ak;exact ak
   |some o'=>
    exfalso;have L:(A.do x).e k=some o':=by simp[dw.do,jh,t]
    rw[L]at ak;cases ak;rcases hle k (by simp[t])with⟨a,_⟩|⟨a,_⟩|⟨a,_⟩|⟨a,_⟩|a
    ·exact D (B.xn (.inr a) k _ t)
    ·rw[a]at hm;simp[eT]at hm
    ·rw[a]at hm;simp[eT]at hm
    ·rw[a]at hm;simp[eT]at hm
    ·rw[a]at hm;simp[eT]at hm
  ·rw[e]at hm;refine⟨?_,?_,fun J=>J.1⟩
   ·rw[sC (k2 fun c=>?_)];rcases E _ c with⟨a,d,_,b,_⟩|a|⟨a,_⟩|⟨a,_⟩;rotate_left 3
    ·rw[a]at hm;simp[eT]at hm
    ·cases b
    ·rw[a]at hm;simp[eT]at hm
    ·rw[a]at hm;simp[eT]at hm
   ·rw[qQ (k2 fun c=>?_)];rcases hle _ c with⟨a,d,_,b,_⟩|⟨a,_⟩|⟨a,_⟩|⟨a,_⟩|a
    ·cases b
    ·rw[a]at hm;simp[eT]at hm
    ·rw[a]at hm;simp[eT]at hm
    ·rw[a]at hm;simp[eT]at hm
    ·rw[a]at hm;simp[eT]at hm
 have ty:=PD S;have V:rI g.looks A.t (A.do y).t:=by intro i hi;simp only[dw.do];rw[if_neg];intro e;rw[ty.d]at e;simp only[e,Bool.not_eq_true',List.contains_eq_mem,iq]at O;exact O hi
 refine⟨S,?_,?_⟩
 ·refine Qk R V fun H=>Qi H (fun i hi=>V i (by simp[dm.looks,hi])) (fun e k r ae=>?_) (fun e k ae=>?_) (fun e K k o ak D=>?_) (fun d F M f=>?_) (fun e k o ak=>?_) (fun e k=>?_) (fun e=>⟨fun m f=>?_,fun k=>?_⟩) (fun e m f=>?_) (fun e k o ak D=>?_) (fun e m=>?_)
  ·refine sC (k2 fun c=>?_);rcases ty.b k c with⟨a,d,_,_,b,_⟩|a|⟨a,⟨j,b⟩,n⟩|⟨_,_,b,_⟩;rotate_left 3
   ·exact ae b
   ·exact ae b
   ·rw[e,a]at hm;simp[eT]at hm
   ·rcases r with r|⟨m,r⟩
    ·rw[r]at n;cases n
    ·rw[r]at b;cases b
  ·refine sC (k2 fun c=>?_);rcases ty.b k c with⟨a,d,_,_,b,_⟩|a|⟨a,_⟩|⟨_,_,b,_⟩;rotate_left 3
   ·exact ae b
   ·exact ae b
   ·rw[e,a]at hm;simp[eT]at hm
   ·rw[e,a]at hm;simp[eT]at hm
  ·rw[qQ (k2 fun c=>?_)]
   ·exact ak
   ·rcases ty.e k c with⟨a,d,_,_,_,b⟩|⟨a,b⟩|⟨a,_,n⟩|⟨a,_⟩|a
    ·rw[b]at ak;cases ak
    ·exact D (ty.ex a k o c ak)
    ·rw[K]at n;cases n
    ·rw[e,a]at hm;simp[eT]at hm
    ·rw[e,a]at hm;simp[eT]at hm
  ·refine⟨⟨f.1,fun z=>?_⟩,?_,?_⟩
   ·rcases ty.r _ z with⟨l,a,b⟩|⟨_,⟨j,b⟩,_⟩
    ·simp only[aB.loc.injEq]at b;exact w d l F a Ω
    ·cases b
   ·rw[sC (k2 fun c=>?_)]
    ·exact f.2.1
    ·rcases ty.b _ c with⟨a,l,b,n,_⟩|a|⟨a,⟨j,b⟩,_⟩|⟨a,⟨j,b⟩,_⟩;rotate_left 3
     ·cases b
     ·simp only[aB.loc.injEq]at n;exact w d l F b Ω
     ·rcases M with b|b|b|b<;>(rw[a,b]at hm;simp[eT]at hm)
     ·cases b
   ·rw[qQ (k2 fun c=>?_)]
    ·exact f.2.2
    ·rcases ty.e _ c with⟨a,l,b,n,_⟩|⟨a,b⟩|⟨a,⟨j,b⟩,_⟩|⟨a,o,b,_⟩|a;rotate_left 4
     ·rcases M with b|b|b|b<;>(rw[a,b]at hm;simp[eT]at hm)
     ·simp only[aB.loc.injEq]at n;exact w d l F b Ω
     ·rcases b with b|⟨l,b,n,_⟩
      ·exact b f.2.2
      ·simp only[aB.loc.injEq]at n;exact w d l F b Ω
     ·cases b
     ·rw[f.2.2]at b;cases b
  ·rw[qQ (k2 fun c=>?_)]
   ·exact ak
   ·rw[e]at hm;rcases ty.e k c with⟨a,d,_,_,_,b⟩|⟨a,_⟩|⟨a,_⟩|⟨a,_⟩|a
    ·rw[b]at ak;cases ak
    ·rw[a]at hm;simp[eT]at hm
    ·rw[a]at hm;simp[eT]at hm
    ·rw[a]at hm;simp[eT]at hm
    ·rw[a]at hm;simp[eT]at hm
  ·refine sC (k2 fun c=>?_);rw[e]at hm;rcases ty.b k c with⟨a,_⟩|a|⟨a,_⟩|⟨a,_⟩<;>(rw[a]at hm;simp[eT]at hm)
  ·rw[e]at hm;refine⟨⟨f.1,fun z=>?_⟩,?_,?_⟩
   ·rcases ty.r _ z with⟨l,a,b⟩|⟨a|a|a,_⟩
    ·cases b
    ·rw[a]at hm;simp[eT]at hm
    ·rw[a]at hm;simp[eT]at hm
    ·rw[a]at hm;simp[eT]at hm
   ·rw[sC (k2 fun c=>?_)]
    ·exact f.2.1
    ·rcases ty.b _ c with⟨a,d,_,b,_⟩|a|⟨a,_⟩|⟨a,_⟩
     ·cases b
     all_goals(rw[a]at hm;simp[eT]at hm)
   ·rw[qQ (k2 fun c=>?_)]
    ·exact f.2.2
    ·rcases ty.e _ c with⟨a,_⟩|⟨a,_⟩|⟨a,_⟩|⟨a,_⟩|a<;>(rw[a]at hm;simp[eT]at hm)
  ·rw[qQ (k2 fun c=>?_)];rw[e]at hm;rcases ty.e _ c with⟨a,_⟩|⟨a,_⟩|⟨a,_⟩|⟨a,_⟩|a<;>(rw[a]at hm;simp[eT]at hm)
  ·rw[e]at hm;refine⟨⟨f.1,fun z=>?_⟩,?_,?_⟩
   ·rcases ty.r _ z with⟨l,a,b⟩|⟨a|a|a,_⟩
    ·cases b
    ·rw[a]at hm;simp[eT]at hm
    ·rw[a]at hm;simp[eT]at hm
    ·rw[a]at hm;simp[eT]at hm
   ·rw[sC (k2 fun c=>?_)]
    ·exact f.2.1
    ·rcases ty.b _ c with⟨a,_⟩|a|⟨a,_⟩|⟨a,_⟩<;>(rw[a]at hm;simp[eT]at hm)
   ·rw[qQ (k2 fun c=>?_)]
    ·exact f.2.2
    ·rcases ty.e _ c with⟨a,_⟩|⟨a,_⟩|⟨a,_⟩|⟨a,o,b,_⟩|a
     ·rw[a]at hm;simp[eT]at hm
     ·rw[a]at hm;simp[eT]at hm
     ·rw[a]at hm;simp[eT]at hm
     ·rw[f.2.2]at b;cases b
     ·rw[a]at hm;simp[eT]at hm
  ·rw[qQ (k2 fun c=>?_)]
   ·exact ak
   ·rw[e]at hm;rcases ty.e k c with⟨a,d,_,_,_,b⟩|⟨a,_⟩|⟨a,_⟩|⟨a,_⟩|a
    ·rw[b]at ak;cases ak
    ·rw[a]at hm;simp[eT]at hm
    ·rw[a]at hm;simp[eT]at hm
    ·rw[a]at hm;simp[eT]at hm
    ·rw[a]at hm;simp[eT]at hm
  ·rw[e]at hm;refine⟨?_,?_,fun J=>⟨J,fun z=>?_⟩⟩;rotate_left 2
   ·rcases ty.r _ z with⟨l,_,b⟩|⟨b|b|b,_⟩
    ·cases b
    ·rw[b]at hm;simp[eT]at hm
    ·rw[b]at hm;simp[eT]at hm
    ·rw[b]at hm;simp[eT]at hm
   ·refine sC (k2 fun c=>?_);rcases ty.b _ c with⟨a,d,_,b,_⟩|a|⟨a,_⟩|⟨a,_⟩;rotate_left 3
    ·rw[a]at hm;simp[eT]at hm
    ·cases b
    ·rw[a]at hm;simp[eT]at hm
    ·rw[a]at hm;simp[eT]at hm
   ·refine qQ (k2 fun c=>?_);rcases ty.e _ c with⟨a,d,_,b,_⟩|⟨a,_⟩|⟨a,_⟩|⟨a,_⟩|a
    ·cases b
    ·rw[a]at hm;simp[eT]at hm
    ·rw[a]at hm;simp[eT]at hm
    ·rw[a]at hm;simp[eT]at hm
    ·rw[a]at hm;simp[eT]at hm
 ·refine⟨fun i hi e=>?_,fun k r=>k2 fun c=>?_,fun k r=>k2 fun c=>?_⟩
  ·rw[B.d]at hi;rw[ty.d]at e;exact w i i hi e rfl
  ·rcases E k r with⟨v,d,a2,a3,_⟩|v|⟨v,⟨j,a2⟩,_⟩|⟨v,_⟩<;>rcases ty.b k c with⟨u,l,p,s,_⟩|u|⟨u,⟨Q,p⟩,_⟩|⟨u,⟨Q,p⟩,_⟩;all_goals first|(rw[v,u]at hm;simp[eT]at hm;done)|skip
   ·rw[a3]at s;simp only[aB.loc.injEq]at s;exact w d l a2 p Ω
   ·rw[a3]at p;cases p
   ·rw[a3]at p;cases p
   ·rw[a2]at s;cases s
  ·rcases hle k r with⟨v,d,a2,a3,_,a4⟩|⟨v,a2⟩|⟨v,⟨j,a2⟩,_⟩|⟨v,Z,a2,_⟩|v<;>rcases ty.e k c with⟨u,l,p,s,_,N⟩|⟨u,p⟩|⟨u,⟨Q,p⟩,_⟩|⟨u,Y,p,_⟩|u;all_goals first|(rw[v,u]at hm;simp[eT]at hm;done)|skip
   ·rw[a3]at s;simp only[aB.loc.injEq]at s;exact w d l a2 p Ω
   ·rw[a3]at p;cases p
   ·rw[a4]at p;cases p
   ·rcases a2 with a2|⟨d,a2,a3,_⟩
    ·exact a2 N
    ·rw[a3]at s;simp only[aB.loc.injEq]at s;exact w d l a2 p Ω
   ·rw[a2]at s;cases s
   ·rw[N]at a2;cases a2
def yn(C:e0)(A:dw)(a:Act)(w:World):Prop:= ∃st Z,mj st A/\(∀k,A.F k->fresh st.n st.o k)/\cS C st a w Z
theorem Nc{st:bh}{A:dw}(h:mj st A)(d:Nat)(p:ah):mj {st with t:=put d p st.t} (A.do ⟨some d,p,[],[],none⟩):=by
 refine⟨fun i=>?_,fun k=>?_,fun k=>?_⟩
 ·simp only[dw.do,pE,dv,h.t]
 ·simpa[dw.do,jh,look]using h.b k
 ·simpa[dw.do,jh,look]using h.e k
theorem Xg{st:bh}{A:dw}(h:mj st A)(d:Nat)(p:ah)(o':List aB)(rm:aW aB):mj {st with t:=put d p st.t,o:=o'} (A.do ⟨some d,p,[],[],rm⟩):=by have:=Nc h d p;exact⟨this.t,this.b,this.e⟩
theorem aa6{α:Type}{β:Type}:∀l:List (aB×α),bZ ([]:List (aB×β)) l=l
 |[]=>rfl
 |(k,x)::r=>by simp[bZ,look,aa6 r]
theorem BR{st:bh}{A:dw}(h:mj st A)(d:Nat)(p:ah)(κ:aB)(cs:List ah)(n':Nat)(o':List aB)(rm:aW aB):mj ⟨put d p st.t,cB κ cs st.b,st.e,n',o'⟩ (A.do ⟨some d,p,[(κ,cs)],[],rm⟩):=by
 refine⟨fun i=>?_,fun k=>?_,fun k=>?_⟩
 ·simp only[dw.do,pE,dv,h.t]
 ·simp only[dw.do,jh,look,jG,h.b];by_cases e:κ=k<;>simp[e]
 ·simpa[dw.do,jh,look]using h.e k
theorem Ig{st:bh}{A:dw}(h:mj st A)(κ:aB)(cs:List ah)(p:ah):mj {st with b:=cB κ cs st.b} (A.do ⟨none,p,[(κ,cs)],[],none⟩):=by
 refine⟨fun i=>?_,fun k=>?_,fun k=>?_⟩
 ·simpa[dw.do]using h.t i
 ·simp only[dw.do,jh,look,jG,h.b];by_cases e:κ=k<;>simp[e]
 ·simpa[dw.do,jh,look]using h.e k
theorem qy{st:bh}{A:dw}(h:mj st A)(d:Nat)(p:ah)(κ:aB)(o:ec)(n':Nat)(o':List aB)(rm:aW aB):mj ⟨put d p st.t,st.b,cB κ o st.e,n',o'⟩ (A.do ⟨some d,p,[],[(κ,o)],rm⟩):=by
 refine⟨fun i=>?_,fun k=>?_,fun k=>?_⟩
 ·simp only[dw.do,pE,dv,h.t]
 ·simpa[dw.do,jh,look]using h.b k
 ·simp only[dw.do,jh,look,jG,h.e];by_cases e:κ=k<;>simp[e]
theorem Xf{st:bh}{A:dw}(h:mj st A)(κ:aB)(o:ec)(p:ah):mj {st with e:=cB κ o st.e} (A.do ⟨none,p,[],[(κ,o)],none⟩):=by
 refine⟨fun i=>?_,fun k=>?_,fun k=>?_⟩
 ·simpa[dw.do]using h.t i
 ·simpa[dw.do,jh,look]using h.b k
 ·simp only[dw.do,jh,look,jG];by_cases e:κ=k<;>simp[e,h.e]
theorem Nx{α:Type}{k:aB}:∀{l:List (aB×α)},k∈l.map (·.1)->(look k l).isSome
 |[],h=>by simp at h
 |(i,x)::r,h=>by
  simp only[look];split
  ·rfl
  ·rename_i e;simp only[fA,gp]at h;rcases h with h|h
   ·exact absurd h.symm e
   ·exact Nx h
theorem ud{n:Nat}{o:List aB}{κ:aB}:∀j,fresh n (κ::o) j->fresh n o j/\j≠κ:=by intro j a;simp only[fresh,gp,not_or]at a⊢;exact⟨⟨a.1,a.2.2⟩,a.2.1⟩
theorem agP{n:Nat}{o:List aB}{κ j:aB}(h:fresh n o j)(a:some κ≠some j):fresh n (κ::o) j:=by simp only[fresh,gp,not_or]at h⊢;exact⟨h.1,fun e=>a (by rw[e]),h.2⟩
theorem Qj{P:cz}{bu:List (Nat×dE)}(aM:e6 P bu=true){C:e0}{q:Bool}{n0:Nat}{i:ed}{o:Oper}(ak:tB C.N bu i o=true){A:dw}{x:lH}(j:dT P q n0 i A x){a:Act}{w:World}(D:yn C A a w)
  {K:Act->World->Prop} {Q:Exit->Act->World->Prop} (G:∀bo w',yn C (A.do x) bo w'->K bo w'):o.wp P a w K Q:=by
 obtain⟨st,Z,g,E,D⟩:=D;have xe:∀(t:List (Nat×ah)) (b:List (aB×List ah)) (e:List (aB×ec)) (d:aW Nat) (p:ah) (bw:List (aB×List ah)) (ew:List (aB×ec)),∀k,(A.do ⟨d,p,bw,ew,none⟩).F k->fresh st.n st.o k:=fun t b e d p bw ew k l=>E k l.1;have O:∀(d:aW Nat) (p:ah) (bw:List (aB×List ah)) (ew:List (aB×ec)) (κ:aB),∀k,(A.do ⟨d,p,bw,ew,some κ⟩).F k->fresh st.n (κ::st.o) k:=fun d p bw ew κ k l=>agP (E k l.1) l.2;cases i with
 |s i=>
  have H:sc C.N bu i o=true:=by simpa only[tB]using ak
  cases i with
  |v d i=>simp only[dT]at j;obtain⟨c,p,J,U,_,rfl⟩:=j;rw[<-aaq g]at J;refine jJ (κ:= .loc 0) (n':=0) (o₁:=[]) aM D H (fun h=>by simp[eb.makes]at h) (fun h=>by simp[eb.makes]at h) (st':={st with t:=put d p st.t}) (by simp only[eA,J]) U fun bo w' Z' B=>G _ _ ⟨_,Z',Nc g d p,fun k l=>E k l.1,B⟩
  |box d key v=>
   cases key with
   |some m=>simp only[dT]at j
   |none=>simp only[dT]at j;obtain⟨⟨J,_⟩,U,rfl⟩:=j;rw[<-iv g]at U;refine jJ (κ:= .loc (n0+d)) (n':=st.n) (o₁:= .loc (n0+d)::st.o) aM D H (fun _=>E _ J) (fun _=>ud) (st':=⟨put d (.ptr (.loc (n0+d)) 0) st.t,cB (.loc (n0+d)) (cells (cc st.t v)) st.b,st.e,st.n,.loc (n0+d)::st.o⟩) ou U fun bo w' Z' B=>G _ _ ⟨_,Z',?_,O _ _ _ _ _,B⟩;rw[iv g];exact BR g d _ _ _ _ _ _
  |alloc d key z=>
   cases key with
   |some m=>simp only[dT]at j
   |none=>simp only[dT]at j;obtain⟨⟨J,_⟩,rfl⟩:=j;refine jJ (κ:= .loc (n0+d)) (n':=st.n) (o₁:= .loc (n0+d)::st.o) aM D H (fun _=>E _ J) (fun _=>ud) (st':=⟨put d (.ptr (.loc (n0+d)) 0) st.t,cB (.loc (n0+d)) (cells z) st.b,st.e,st.n,.loc (n0+d)::st.o⟩) ou trivial fun bo w' Z' B=>G _ _ ⟨_,Z',BR g d _ _ _ _ _ _,O _ _ _ _ _,B⟩
  |store sz u v=>simp only[dT]at j;obtain⟨k,off,cs,J,U,F,rfl⟩:=j;rw[<-iv g]at J F;rw[<-g.b]at U;refine jJ (κ:= .loc 0) (n':=0) (o₁:=[]) aM D H (fun h=>by simp[eb.makes]at h) (fun h=>by simp[eb.makes]at h) (st':={st with b:=cB k (o6 cs off (cells (cc st.t v))) st.b}) (by simp only[eA,J,U]) F fun bo w' Z' B=>G _ _ ⟨{st with b:=cB k (o6 cs off (cells (cc st.t v))) st.b},Z',by rw[iv g];exact Ig g k _ _,fun k l=>E k l.1,B⟩
  |bsl d sz el xs=>simp only[dT]at j;obtain⟨⟨J,_⟩,U,rfl⟩:=j;rw[<-qW g]at U;refine jJ (κ:= .loc (n0+d)) (n':=st.n) (o₁:= .loc (n0+d)::st.o) aM D H (fun _=>E _ J) (fun _=>ud) (st':=⟨put d (.slice sz (.own (.loc (n0+d))) (xs.map (cc st.t))) st.t,st.b,cB (.loc (n0+d)) ⟨xs.length,el,sz,none⟩ st.e,st.n,.loc (n0+d)::st.o⟩) ou U fun bo w' Z' B=>G _ _ ⟨_,Z',?_,O _ _ _ _ _,B⟩;rw[qW g];exact qy g d _ _ _ _ _ _
  |app d sz el u v=>
   simp only[dT]at j;obtain⟨tag,xs,hv,ys,J,U,j⟩:=j;rw[<-iv g]at J U;rcases j with⟨k,ow,rfl,F,L,rfl⟩|⟨rfl,F,⟨L,_⟩,rfl⟩
   ·rw[<-g.e]at F;refine jJ (κ:= .loc 0) (n':=0) (o₁:=[]) aM D H (fun h=>by simp[eb.makes,J]at h) (fun h=>by simp[eb.makes,J]at h) (st':=⟨put d (.slice sz (.own k) (xs++ys)) st.t,st.b,cB k ⟨xs.length+ys.length,el,sz,none⟩ st.e,st.n,st.o⟩) (by simp only[eA,J,U,F,and_self,if_true]) L.2 fun bo w' Z' B=>G _ _ ⟨_,Z',qy g d _ _ _ _ _ _,fun k l=>E k l.1,B⟩
   ·refine jJ (κ:= .loc (n0+d)) (n':=st.n) (o₁:= .loc (n0+d)::st.o) aM D H (fun _=>E _ L) (fun _=>ud) (st':=⟨put d (.slice sz (.own (.loc (n0+d))) ys) st.t,st.b,cB (.loc (n0+d)) ⟨ys.length,el,sz,none⟩ st.e,st.n,.loc (n0+d)::st.o⟩) (by simp only[eA,J,U,and_self,if_true]) F fun bo w' Z' B=>G _ _ ⟨_,Z',qy g d _ _ _ _ _ _,O _ _ _ _ _,B⟩
  |bslm d key sz el xs=>
   cases key with
   |none=>simp only[dT]at j
   |some m=>simp only[dT]at j;obtain⟨⟨J,_⟩,U,rfl⟩:=j;rw[<-qW g]at U;refine jJ (κ:= .obj m) (n':=st.n) (o₁:= .obj m::st.o) aM D H (fun _=>E _ J) (fun _=>ud) (st':=⟨put d (.row sz (.obj m) xs.length) st.t,st.b,cB (.obj m) ⟨xs.length,el,sz,some (xs.map (cc st.t))⟩ st.e,st.n,.obj m::st.o⟩) ou U fun bo w' Z' B=>G _ _ ⟨_,Z',?_,O _ _ _ _ _,B⟩;rw[qW g];exact qy g d _ _ _ _ _ _
  |mks d key sz el z x=>simp only[dT]at j
  |apps d el x y=>simp only[dT]at j
  |appm d key sz el u v=>
   cases key with
   |some m=>
    simp only[dT]at j;rcases j with⟨k,n,xs,hv,ys,J,U,F,L,rfl⟩|⟨xs,hv,ys,J,U,⟨F,_⟩,L,rfl⟩
    ·rw[<-iv g]at J U;rw[<-g.e]at F;exact jJ (κ:= .loc 0) (n':=0) (o₁:=[]) aM D H (fun h=>by simp[eb.makes,J]at h) (fun h=>by simp[eb.makes,J]at h) (st':=⟨put d (.row sz k (xs.length+ys.length)) st.t,st.b,cB k ⟨xs.length+ys.length,el,sz,some (xs++ys)⟩ st.e,st.n,st.o⟩) (by simp only[eA,nk,J,U,F,and_self,if_true]) L fun bo w' Z' B=>G _ _ ⟨_,Z',qy g d _ _ _ _ _ _,fun k l=>E k l.1,B⟩
    rw[<-iv g]at J U;refine jJ (κ:= .obj m) (n':=st.n) (o₁:= .obj m::st.o) aM D H (fun _=>E _ F) (fun _=>ud) (st':=⟨put d (.row sz (.obj m) ys.length) st.t,st.b,cB (.obj m) ⟨ys.length,el,sz,some ys⟩ st.e,st.n,.obj m::st.o⟩) (by simp only[eA,nk,J,U,and_self,if_true]) L fun bo w' Z' B=>G _ _ ⟨_,Z',qy g d _ _ _ _ _ _,O _ _ _ _ _,B⟩
   |none=>
   simp only[dT]at j;obtain⟨k,n,xs,hv,ys,J,U,F,L,rfl⟩:=j;rw[<-iv g]at J U;rw[<-g.e]at F;refine jJ (κ:= .loc 0) (n':=0) (o₁:=[]) aM D H (fun h=>by simp[eb.makes,J]at h) (fun h=>by simp[eb.makes,J]at h) (st':=⟨put d (.row sz k (xs.length+ys.length)) st.t,st.b,cB k ⟨xs.length+ys.length,el,sz,some (xs++ys)⟩ st.e,st.n,st.o⟩) (by simp only[eA,nk,J,U,F,and_self,if_true]) L fun bo w' Z' B=>G _ _ ⟨_,Z',qy g d _ _ _ _ _ _,fun k l=>E k l.1,B⟩
  |storeE sz u v=>simp only[dT]at j;obtain⟨k,n,i,f,el,dJ,xs,q,J,U,F,L,rfl⟩:=j;rw[<-iv g]at J L;rw[<-g.e]at U;refine jJ (κ:= .loc 0) (n':=0) (o₁:=[]) aM D H (fun h=>by simp[eb.makes]at h) (fun h=>by simp[eb.makes]at h) (st':={st with e:=cB k ⟨n,el,dJ,some (xs.set i (nG q f (cells (cc st.t v))))⟩ st.e}) (by simp only[eA,sg,J,U,F,and_self,if_true]) L fun bo w' Z' B=>G _ _ ⟨{st with e:=cB k ⟨n,el,dJ,some (xs.set i (nG q f (cells (cc st.t v))))⟩ st.e},Z',by rw[iv g];exact Xf g k _ _,fun k l=>E k l.1,B⟩
  |mkmap d key=>
   cases key with
   |none=>simp only[dT]at j
   |some m=>simp only[dT]at j;obtain⟨⟨J,_⟩,rfl⟩:=j;refine jJ (κ:= .obj m) (n':=st.n) (o₁:= .obj m::st.o) (hB:=fun e=>QP H (by cases e;rfl)) aM D H (fun _=>E _ J) (fun _=>ud) (st':=⟨put d (.gmap (.obj m)) st.t,cB (.obj m) [.hdm 0 []] st.b,st.e,st.n,.obj m::st.o⟩) ou trivial fun bo w' Z' B=>G _ _ ⟨_,Z',BR g d _ _ _ _ _ _,O _ _ _ _ _,B⟩
  |mput ck u k v=>simp only[dT]at j;obtain⟨m,cs,cs',J,U,F,rfl⟩:=j;rw[<-iv g]at J;rw[<-iv g,<-iv g]at F;rw[<-g.b]at U;exact jJ (κ:= .loc 0) (n':=0) (o₁:=[]) aM D H (fun h=>by simp[eb.makes]at h) (fun h=>by simp[eb.makes]at h) (st':={st with b:=cB m cs' st.b}) (by simp only[eA,J,U,F]) trivial fun bo w' Z' B=>G _ _ ⟨{st with b:=cB m cs' st.b},Z',Ig g m _ _,fun k l=>E k l.1,B⟩
  |range d key x=>simp only[dT]at j
 |next d x=>simp only[dT]at j
 |opn d f x=>simp only[dT]at j
 |callb d f=>simp only[dT]at j
 |call d f xs=>
  simp only[dT]at j;obtain⟨n,cZ,J,j⟩:=j;rw[<-iv g]at J;rcases j with⟨⟨s,X,r,rm,V,c2,c3,c4,c5,qg,Dc,rfl⟩,_⟩|⟨cQ,r,rfl,V,c2,c3,rfl⟩;rotate_left
  ·rw[<-qW g]at c2 c3;simp only[tB]at ak;split at ak
   ·rename_i jz args o9 Y;simp only[cD,dS]at ak;obtain⟨⟨⟨ai,aC⟩,bj⟩,cR⟩:=ak;have S:=er D bj;rw[J]at S;obtain⟨rq,l1,j1⟩:=OY (e6.sz aM) Y S (zW D cR);refine S9 D ai aC l1 j1 (K:=fun st'=>st'={st with t:=put cQ r st.t,o:= .loc (n0+cQ)::st.o}) ⟨⟨[],[]⟩,_,some (n0+cQ),st.n,fun _=>.loc (n0+cQ)::st.o,fun k cs l=>by simp[look]at l,fun k cs l=>by simp[look]at l,⟨fun _=>rfl,fun _=>rfl⟩,kB (fun _ h=>h.elim) _ c2,c3,fun m hm=>?_,fun k eF X bz l=>?_,?_⟩ ?_
    ·cases hm;exact E _ V.1
    ·obtain⟨_,rfl⟩:=bz;have:=ud k l;exact⟨by simpa[dh]using this.1,fun m hm=>by cases hm;exact this.2⟩
    ·rintro eF pU ⟨rfl,rfl⟩;refine⟨⟨fun m hm=>by simp[look]at hm,fun m hm=>by simp[look]at hm⟩,?_⟩;simp[after,aa6,eP]
    ·rintro st' bo w' Z' rfl B;exact G _ _ ⟨_,Z',Xg g cQ r _ _,O _ _ _ _ _,B⟩
   ·cases ak
  rw[<-qW g]at qg Dc;simp only[tB]at ak;split at ak
  ·rename_i jz args o9 Y;simp only[cD,dS]at ak;obtain⟨⟨⟨ai,aC⟩,bj⟩,cR⟩:=ak;have S:=er D bj;rw[J]at S;obtain⟨bc,bP,cA,ff,W⟩:=c5;refine S8 (e6.sz aM) D Y ai aC S (zW D cR) (K:=fun st'=>st'=after st s X d r) (.inl ⟨s,_,fun k cs l=>⟨by rw[g.b];exact(V k cs l).1,.inl (by simp[l]),(V k cs l).2⟩,fun k o' l=>⟨by rw[g.e];exact(c2 k o' l).1,.inr (by simp[l]),(c2 k o' l).2⟩,c3,qg,Dc,?_⟩) ?_
   ·rintro eF pU ⟨rfl,rfl⟩;refine⟨⟨fun m hm=>?_,fun m hm=>?_⟩,rfl⟩
    ·rcases bc _ hm with h|h
     ·exact .inl h
     ·exact .inr (E _ (W _ h).2.1).2
    ·rcases bP _ hm with h|h
     ·exact .inl h
     ·exact .inr (E _ (W _ h).2.1).2
   ·rintro st' bo w' Z' rfl B;refine G _ _ ⟨_,Z',⟨fun i=>?_,fun k=>?_,fun k=>?_⟩,fun k l=>?_,B⟩
    ·simp only[after,dw.do];cases d with
     |none=>simpa[eP]using g.t i
     |some d=>simp only[eP,pE,dv,g.t]
    ·simp only[after,dw.do,jh,zD,uH];by_cases M:(look k s.b).isSome
     ·have:=cA k M;obtain⟨y,R⟩:=gd.1 this;simp[M,R]
     ·cases az:look k X.b with
      |none=>simp only[M,g.b];cases A.b k<;>simp
      |some y=>
       rcases bc k (by simp[az])with h|h
       ·exact absurd h M
       ·have:=W k h;simp[M,g.b,this]
    ·simp only[after,dw.do,jh,zD,uH];by_cases M:(look k s.e).isSome
     ·have:=ff k M;obtain⟨y,R⟩:=gd.1 this;simp[M,R]
     ·cases az:look k X.e with
      |none=>simp only[M,g.e];cases A.e k<;>simp
      |some y=>
       rcases bP k (by simp[az])with h|h
       ·exact absurd h M
       ·have:=W k h;simp[M,g.e,this]
    ·have L3:=E k l.1;have pK:=D.lookNone L3;simp only[after];refine⟨L3.1,fun N=>?_⟩;rcases kr.1 N with N|N
     ·exact L3.2 N
     ·rcases kr.1 N with N|N
      ·rcases bc k (Nx N)with h|h
       ·obtain⟨y,R⟩:=gd.1 h;have:=(V k y R).1;rw[<-g.b,pK.1]at this;cases this
       ·exact l.2 h
      ·rcases bP k (Nx N)with h|h
       ·obtain⟨y,R⟩:=gd.1 h;have:=(c2 k y R).1;rw[<-g.e,pK.2]at this;cases this
       ·exact l.2 h
  ·cases ak
theorem abp{P:cz}{bu:List (Nat×dE)}(aM:e6 P bu=true){C:e0}{q:Bool}{n0:Nat}{ops:Array Oper}{g:dm}{o:Oper}{j:Nat}(J:ops[j]? =some o)(ak:DD C.N bu ops.toList g o=true){A:dw}{x:lH}(c:lI P q n0 g A x){a:Act}{w:World}(u:yn C A a w)
  {K:Act->World->Prop} {Q:Exit->Act->World->Prop} (r:∀bo w',yn C (A.do x) bo w'->K bo w'):wpOp P ops Q j K a w:=by
 unfold wpOp;rw[J];simp only;simp only[DD,cD]at ak;obtain⟨m,v⟩:=ak;unfold lI at c;cases l:g.g with
 |none=>
  cases e:o.guard with
  |some x=>simp[e,l]at m
  |none=>
   have hw:p3 o (yielded ops a.tmps)=true:=by simp[p3,e]
   rw[if_pos hw];simp only[l]at c;exact .inl (Qj aM v c u r)
 |some N=>
  obtain⟨s,want⟩:=N;cases e:o.guard with
  |none=>simp[e,l]at m
  |some t=>
   obtain⟨G,cb⟩:=t;simp only[e,l,cD,dS,e8]at m;obtain⟨⟨⟨⟨rfl,U⟩,H⟩,M⟩,F⟩:=m;obtain⟨st,Z,f,E,y⟩:=id u;obtain⟨D,B⟩:=aba y U H;simp only[l]at c;have z:∀(h:x=me g.i.dst),K (a.put o.dst undef) w:=by
    rintro rfl;rw[M];refine r _ _ ⟨_,Z,?_,fun k L=>?_,y.put F (p:= .tuple []) (by simp[aS,cH,undef])⟩
    ·refine⟨fun i=>?_,fun k=>?_,fun k=>?_⟩
     ·simp only[dw.do,me];cases g.i.dst with
      |none=>simpa[eP]using f.t i
      |some d=>simp only[eP,pE,dv,f.t]
     ·simpa[dw.do,jh,look,me]using f.b k
     ·simpa[dw.do,jh,look,me]using f.e k
    ·exact E k L.1
   split at c
   ·rename_i b ae;have n:=D b (by rw[f.t];exact ae);rcases c with⟨rfl,c⟩|⟨rfl,c⟩
    ·have hw:p3 o (yielded ops a.tmps)=true:=by simp[p3,e,n]
     rw[if_pos hw];exact .inl (Qj aM v c u r)
    ·have hw:¬(p3 o (yielded ops a.tmps)=true):=by simp[p3,e,n]
     rw[if_neg hw];exact z c
   ·rename_i ae;have n:=B (by rw[f.t];exact ae);have hw:¬(p3 o (yielded ops a.tmps)=true):=by simp[p3,e,n]
    rw[if_neg hw];exact z c
   ·exact c.elim
def w3(P:cz)(q:Bool)(n0:Nat)(K:dw->Prop):List (Nat×dm)->dw->Prop
 |[],A=>K A
 |(_,g)::r,A=> ∃x,lI P q n0 g A x/\w3 P q n0 K r (A.do x)
theorem QT{P:cz}{q:Bool}{n0:Nat}{K:dw->Prop}{i:Nat}{g:dm}:∀(b a:List (Nat×dm)) (A:dw),(∀x∈b,A5 x.2 g=true)->w3 P q n0 K (b++(i,g)::a) A->∃x,lI P q n0 g A x/\w3 P q n0 K (b++a) (A.do x)
 |[],a,A,_,h=>h
 |(j,f)::b,a,A,ax,h=>by simp only[bX,w3]at h;obtain⟨y,e,h⟩:=h;obtain⟨x,d,h⟩:=QT b a (A.do y) (fun z c=>ax z (p4 _ c)) h;obtain⟨s1,s2,s3⟩:=swap (ax _ (List.mem_cons_self ..)) e d;refine⟨x,s1,y,s2,?_⟩;rw[<-dw.do_comm A s3];exact h
def rem(listed:Array Bool):Nat->List dm->List (Nat×dm)
 |_,[]=>[]
 |k,g::r=>if listed.getD k false then rem listed (k+1) r else(k,g)::rem listed (k+1) r
theorem Zk{l a:Array Bool}:∀(gs:List dm) (k:Nat),(∀j,k<=j->l.getD j false=a.getD j false)->rem l k gs=rem a k gs
 |[],_,_=>rfl
 |g::r,k,h=>by simp only[rem,h k (eR _),Zk r (k+1) fun j b=>h j Ω]
theorem Hd{l:Array Bool}{i j:Nat}(h:i<l.size):(l.setIfInBounds i true).getD j false=if i=j then true else l.getD j false:=by
 simp only[Array.getD_eq_getD_getElem?];by_cases e:i=j
 ·subst e;simp[h]
 ·simp[e]
theorem OP{l:Array Bool}{i:Nat}(hi:i<l.size)(p:l.getD i false=false):∀(gs:List dm) (k:Nat),k<=i->i<k+gs.length->∃c d g,gs[i-k]? =some g/\rem l k gs=c++(i,g)::d/\rem (l.setIfInBounds i true) k gs=c++d/\
  ∀x∈c,gs[x.1-k]? =some x.2/\k<=x.1/\x.1<i/\l.getD x.1 false=false
 |[],k,J,U=>by simp at U;omega
 |g::r,k,J,U=>by
  by_cases e:k=i
  ·subst e;refine⟨[],rem l (k+1) r,g,Ψ,by simp[rem,p],?_,fun x b=>by simp at b⟩;simp only[rem,Hd hi,if_true,b3];exact Zk r (k+1) fun j t=>by rw[Hd hi,if_neg Ω]
  ·obtain⟨c,d,m,q,s,o,n⟩:=OP hi p r (k+1) Ω (by simp at U;omega);have f:i-k=(i-(k+1))+1:=Ω
   have h:(l.setIfInBounds i true).getD k false=l.getD k false:=by rw[Hd hi,if_neg Ω]
   by_cases a:l.getD k false=true
   ·refine⟨c,d,m,by rw[f];simpa using q,by simp only[rem,a,if_true,s],by simp only[rem,h,a,if_true,o],fun x b=>?_⟩;obtain⟨f1,f2,f3,f4⟩:=n x b;refine⟨?_,Ω,f3,f4⟩;have:x.1-k=(x.1-(k+1))+1:=Ω
    rw[this];simpa using f1
   ·have a:l.getD k false=false:=by simpa using a
    refine⟨(k,g)::c,d,m,by rw[f];simpa using q,by simp[rem,a,s],by simp[rem,h,a,o],fun x b=>?_⟩;rcases gp.1 b with rfl|b
    ·exact⟨Ψ,eR _,by simp;omega,a⟩
    ·obtain⟨f1,f2,f3,f4⟩:=n x b;refine⟨?_,Ω,f3,f4⟩;have:x.1-k=(x.1-(k+1))+1:=Ω
     rw[this];simpa using f1
def wa(acc:List Nat):List Edge->Nat
 |[]=>0
 |e::r=>if Region.binds .any e then(2 ^ e.on)|||(acc.getD e.on 0)|||wa acc r else wa acc r
def tq(acc:List Nat):List Oper->List Nat
 |[]=>acc
 |o::os=>tq (acc++[wa acc o.after.toList]) os
def Fz(m:Nat)(h:dm):Nat->List dm->Bool
 |_,[]=>true
 |i,g::r=>(m.testBit i||A5 g h)&&Fz m h (i+1) r
def Fg:List dm->List dm->List Nat->Bool
 |_,[],_=>true
 |pre,h::r,m::ms=>Fz m h 0 pre&&Fg (pre++[h]) r ms
 |_,_,[]=>false
def Dm:Nat->List Oper->Bool
 |_,[]=>true
 |k,o::os=>o.after.toList.all (fun e=> !Region.binds .any e||decide (e.on<k))&&Dm (k+1) os
def C5(gs:List dm)(ops:List Oper):Bool:=Dm 0 ops&&Fg [] gs (tq [] ops)
theorem Nq{acc:List Nat}{j:Nat}:∀{es:List Edge},(wa acc es).testBit j=true->∃e∈es,Region.binds .any e=true/\(j=e.on\/(acc.getD e.on 0).testBit j=true)
 |[],h=>by simp[wa]at h
 |e::r,h=>by
  simp only[wa]at h;split at h
  ·rename_i ae;simp only[Nat.testBit_or,nL]at h;rcases h with(h|h)|h
   ·refine⟨e,Ψ,ae,.inl ?_⟩;rw[Nat.testBit_two_pow]at h;have b:e.on=j:=by simpa using h
    exact b.symm
   ·exact⟨e,Ψ,ae,.inr h⟩
   ·obtain⟨a,J,U⟩:=Nq h;exact⟨a,by simp[J],U⟩
  ·obtain⟨a,J,U⟩:=Nq h;exact⟨a,by simp[J],U⟩
theorem Nr:∀(os:List Oper) (acc:List Nat) (k:Nat),k<acc.length->(tq acc os)[k]? =acc[k]?
 |[],acc,k,_=>rfl
 |o::os,acc,k,h=>by simp only[tq];rw[Nr os _ k d7,rB h]
theorem Xp:∀(os:List Oper) (acc:List Nat) (k:Nat) (o:Oper),os[k]? =some o->∃a,(tq acc os)[acc.length+k]? =some (wa a o.after.toList)/\a.length=acc.length+k/\∀i,i<a.length->a[i]? =(tq acc os)[i]?
 |[],acc,k,o,h=>by simp at h
 |o'::os,acc,0,o,h=>by
  simp only[List.getElem?_cons_zero,dv]at h;subst h;refine⟨acc,?_,Ψ,fun i hi=>?_⟩
  ·simp only[tq,Nat.add_zero];rw[Nr os _ _ Ψ];simp
  ·simp only[tq];rw[Nr os _ i d7,rB hi]
 |o'::os,acc,k+1,o,h=>by simp only[List.getElem?_cons_succ]at h;obtain⟨a,J,U,b⟩:=Xp os (acc++[wa acc o'.after.toList]) k o h;refine⟨a,?_,by rw[U];simp;omega,fun i hi=>by rw[b i hi];rfl⟩;simp only[tq];rw[show acc.length+(k+1)=(acc++[wa acc o'.after.toList]).length+k from by simp;omega];exact J
def Qe(ops:Array Oper)(listed:Array Bool):Prop:= ∀k o,ops[k]? =some o->listed.getD k false=true->∀e∈o.after.toList,Region.binds .any e=true->listed.getD e.on false=true
theorem akz{ops:Array Oper}{listed:Array Bool}(p:Qe ops listed):∀(k:Nat) (o:Oper),ops[k]? =some o->(∀e∈o.after.toList,Region.binds .any e=true->listed.getD e.on false=true)->∀j,((tq [] ops.toList).getD k 0).testBit j=true->listed.getD j false=true:=by
 intro k;induction k using Nat.strongRecOn with
 |_ k m=>
  intro o ak d j f;obtain⟨b,J,U,n⟩:=Xp ops.toList [] k o (by simpa using ak);simp only[qM,Nat.zero_add]at J U;rw[List.getD_eq_getElem?_getD,J]at f;obtain⟨e,he,ae,a⟩:=Nq f;rcases a with rfl|a
  ·exact d e he ae
  ·by_cases l:e.on<b.length
   ·have hm:b.getD e.on 0=(tq [] ops.toList).getD e.on 0:=by rw[List.getD_eq_getElem?_getD,n _ l,List.getD_eq_getElem?_getD]
    have q:k<ops.size:=(Array.getElem?_eq_some_iff.1 ak).1;have c:ops[e.on]? =some ops[e.on]:=Array.getElem?_eq_getElem Ω;rw[hm]at a;exact m e.on Ω _ c (fun h g i=>p e.on _ c (d e he ae) h g i) j a
   ·rw[List.getD_eq_getElem?_getD,rC Ω]at a;simp at a
theorem ZB{m:Nat}{h:dm}:∀{gs:List dm} {i0:Nat},Fz m h i0 gs=true->∀i g,gs[i]? =some g->m.testBit (i0+i)=true\/A5 g h=true
 |[],i0,_,i,g,aY=>by simp at aY
 |b::r,i0,a,0,g,aY=>by simp only[Fz,cD,nL]at a;simp only[List.getElem?_cons_zero,dv]at aY;subst aY;simpa using a.1
 |b::r,i0,a,i+1,g,aY=>by simp only[Fz,cD]at a;have:=ZB a.2 i g (by simpa using aY);rwa[show i0+1+i=i0+(i+1)from by omega]at this
theorem Yk:∀{gs pre:List dm} {ms:List Nat},Fg pre gs ms=true->∀j h,gs[j]? =some h->∀i g,i<pre.length+j->(pre++gs)[i]? =some g->(ms.getD j 0).testBit i=true\/A5 g h=true
 |[],pre,ms,_,j,h,a,_,_,_,_=>by simp at a
 |c::r,pre,[],b,j,h,a,_,_,_,_=>by simp[Fg]at b
 |c::r,pre,m::ms,b,j,h,a,i,g,hi,aY=>by
  simp only[Fg,cD]at b;cases j with
  |zero=>simp only[List.getElem?_cons_zero,dv]at a;subst a;rw[rB Ω]at aY;simpa using ZB b.1 i g aY
  |succ j=>have:=Yk b.2 j h (by simpa using a) i g d7 (by simpa using aY);simpa using this
theorem TD:∀{os:List Oper} {k:Nat},Dm k os=true->∀i o,os[i]? =some o->∀e∈o.after.toList,Region.binds .any e=true->e.on<k+i
 |[],k,_,i,o,ak,_,_,_=>by simp at ak
 |o'::os,k,h,0,o,ak,e,he,ae=>by simp only[Dm,cD,jL]at h;simp only[List.getElem?_cons_zero,dv]at ak;subst ak;have:=h.1 e he;simpa[ae]using this
 |o'::os,k,h,i+1,o,ak,e,he,ae=>by simp only[Dm,cD]at h;have:=TD h.2 i o (by simpa using ak) e he ae;omega
theorem UO{N:Nat}{bu:List (Nat×dE)}{ops:List Oper}:∀{gs:List dm} {os:List Oper},lf N bu ops gs os=true->∀(i:Nat) (g:dm),gs[i]? =some g->∃o,os[i]? =some o/\DD N bu ops g o=true
 |[],[],_,i,g,h=>by simp at h
 |[],_::_,h,_,_,_=>by simp[lf]at h
 |_::_,[],h,_,_,_=>by simp[lf]at h
 |a::gs,o::os,h,0,g,aY=>by simp only[lf,cD]at h;simp only[List.getElem?_cons_zero,dv]at aY;subst aY;exact⟨o,Ψ,h.1⟩
 |a::gs,o::os,h,i+1,g,aY=>by simp only[lf,cD]at h;obtain⟨o',J,U⟩:=UO h.2 i g (by simpa using aY);exact⟨o',by simpa using J,U⟩
theorem LI{N:Nat}{bu:List (Nat×dE)}{ops:List Oper}:∀{gs:List dm} {os:List Oper},lf N bu ops gs os=true->gs.length=os.length
 |[],[],_=>rfl
 |[],_::_,h=>by simp[lf]at h
 |_::_,[],h=>by simp[lf]at h
 |g::gs,o::os,h=>by simp only[lf,cD]at h;simp[LI h.2]
theorem Zl{l:Array Bool}:∀(gs:List dm) (k:Nat),rem l k gs=[]\/ ∃i g,i<gs.length/\gs[i]? =some g/\l.getD (k+i) false=false/\∀j,j<i->l.getD (k+j) false=true
 |[],_=>.inl rfl
 |g::r,k=>by
  by_cases h:l.getD k false=true
  ·rcases Zl (l:=l) r (k+1)with J|⟨i,a,J,U,b,d⟩
   ·left;simp only[rem,h,if_true,J]
   ·refine .inr ⟨i+1,a,by simp;omega,by simpa using U,by rw[show k+(i+1)=k+1+i from by omega];exact b,fun j c=>?_⟩;cases j with
    |zero=>simpa using h
    |succ j=>rw[show k+(j+1)=k+1+j from by omega];exact d j Ω
  ·exact .inr ⟨0,g,Ψ,Ψ,by simpa using h,fun j c=>Ω⟩
theorem abQ{P:cz}{bu:List (Nat×dE)}(aM:e6 P bu=true){C:e0}{q:Bool}{n0:Nat}{ops:Array Oper}{gs:List dm}(G:lf C.N bu ops.toList gs ops.toList=true)(R:C5 gs ops.toList=true){K:dw->Prop}{Q:Exit->Act->World->Prop}
  (S:∀A a w,K A->yn C A a w->Q .normal a w):∀(fuel:Nat) (listed:Array Bool) (A:dw) (a:Act) (w:World),listed.size=ops.size->Qe ops listed->(rem listed 0 gs).length<=fuel->w3 P q n0 K (rem listed 0 gs) A->yn C A a w->wpAny P .any ops Q fuel listed a w:=by
 simp only[C5,cD]at R;obtain⟨LR,r⟩:=R;have hlen:gs.length=ops.size:=by simpa using LI G
 have O:∀(listed:Array Bool) (A:dw) (a:Act) (w:World),listed.size=ops.size->w3 P q n0 K (rem listed 0 gs) A->yn C A a w->Region.ready .any ops listed=[]->Q .normal a w:=by
  intro listed A a w f c d m;rcases Zl (l:=listed) gs 0 with h|⟨i,g,J,U,b,Z⟩
  ·rw[h]at c;exact S A a w c d
  ·exfalso;have hi:i<ops.size:=Ω
   have H:i∈Region.ready .any ops listed:=by
    unfold Region.ready;simp only[nN,List.mem_range,cD,Bool.not_eq_true'];refine⟨hi,?_,?_⟩
    ·rw[Nat.zero_add]at b;simp only[Array.getD_eq_getD_getElem?]at b⊢;rw[Array.getElem?_eq_getElem Ω]at b⊢;simpa using b
    ·rw[Array.getElem?_eq_getElem hi];simp only[ni,mi];rw[<-Array.all_toList,jL];intro e he;by_cases ae:Region.binds .any e=true
     ·have bI:=TD LR i ops[i] (by simp[hi]) e he ae;have:=Z e.on Ω;rw[Nat.zero_add]at this;simp[this]
     ·simp[ae]
   rw[m]at H;simp at H
 intro fuel;induction fuel with
 |zero=>
  intro listed A a w f z B c d;have s:rem listed 0 gs=[]:=u6 Ω;have m:Region.ready .any ops listed=[]:=by
   rw[List.eq_nil_iff_forall_not_mem];intro i hi;unfold Region.ready at hi;simp only[nN,List.mem_range,cD,Bool.not_eq_true']at hi;obtain⟨J,U,_⟩:=hi;have n:listed.getD i false=false:=by simp only[Array.getD_eq_getD_getElem?]at U⊢;rw[Array.getElem?_eq_getElem Ω]at U⊢;simpa using U
   obtain⟨F,E,g,_,j,_⟩:=OP Ω n gs 0 Ω Ω;rw[s]at j;simp at j
  exact⟨m,O listed A a w f c d m⟩
 |succ fuel W=>
  intro listed A a w f z B c d;refine⟨O listed A a w f c d,fun i hi=>?_⟩;unfold Region.ready at hi;simp only[nN,List.mem_range,cD,Bool.not_eq_true']at hi;obtain⟨J,U,b⟩:=hi;have n:listed.getD i false=false:=by simp only[Array.getD_eq_getD_getElem?]at U⊢;rw[Array.getElem?_eq_getElem Ω]at U⊢;simpa using U
  have ak:ops[i]? =some ops[i]:=Array.getElem?_eq_getElem J;have N:∀e∈ops[i].after.toList,Region.binds .any e=true->listed.getD e.on false=true:=by rw[ak]at b;simp only[ni,mi]at b;rw[<-Array.all_toList,jL]at b;intro e he ae;simpa[ae]using b e he
  obtain⟨F,E,g,t,j,M,L⟩:=OP Ω n gs 0 Ω Ω;simp only[Nat.sub_zero]at t L;rw[j]at c;obtain⟨x,X,u⟩:=QT F E A (fun y Y=>by
   obtain⟨f1,f2,f3,f4⟩:=L y Y;rcases Yk r i g t y.1 y.2 (by simpa using f3) (by simpa using f1)with h|h
   ·have:=akz z i ops[i] ak N y.1 h;rw[f4]at this;cases this
   ·exact h) c
  obtain⟨o',g1,g2⟩:=UO G i g t;have:o'=ops[i]:=by rw[tN,ak]at g1;exact(fK g1).symm
  subst this;refine abp aM ak g2 X d fun bo w' V=>?_;refine W (listed.setIfInBounds i true) (A.do x) bo w' (by simpa using f) ?_ ?_ (by rw[M];exact u) V
  ·intro k o v p e he ae;rw[Hd Ω]at p⊢;split
   ·rfl
   ·by_cases D:i=k
    ·subst D;rw[ak]at v;cases v;exact N e he ae
    ·rw[if_neg D]at p;exact z k o v p e he ae
  ·rw[M];rw[j]at B;simp at B⊢;omega
def yO(n0 d:Nat)(st:bh):Prop:= .loc (n0+d)∉st.o/\look (.loc (n0+d)) st.b=none/\look (.loc (n0+d)) st.e=none
def gq.loadO(q:Bool)(t:List (Nat×ah)):gq->Prop
 | .load _ _ x=>q=true\/zu (cc t x)=true
 | .loadB _ _ _=>True
 | .mgetB _ _ _ _ _=>True
 | .mget _ _ _ _ _=>q=true
 | .ment _=>q=true
 | .mlen _=>q=true
 |_=>True
def lK(q:Bool)(nw:List Nat)(n0:Nat)(st:bh):eb->Prop
 | .v _ i=>i.loadO q st.t
 | .box d none _=>yO n0 d st
 | .alloc d none _=>yO n0 d st
 | .box _ (some _) _=>et
 | .alloc _ (some _) _=>et
 | .store _ x _=>match cc st.t x with| .ptr _ _=>True|_=>et
 | .bslm _ none _ _ _=>et
 | .bslm _ (some m) _ _ _=>m∈nw/\look (.obj m) st.b=none/\look (.obj m) st.e=none
 | .mks _ _ _ _ _ _=>et
 | .apps _ _ _ _=>et
 | .appm _ none _ _ x _=>match cc st.t x with| .row _ _ _=>True|_=>et
 | .appm _ (some m) _ _ x _=>match cc st.t x with| .row _ _ _=>True| .slice _ .nil _=>m∈nw/\look (.obj m) st.b=none/\look (.obj m) st.e=none|_=>et
 | .storeE _ _ _=>True
 | .mkmap _ none=>et
 | .mkmap _ (some m)=>m∈nw/\look (.obj m) st.b=none/\look (.obj m) st.e=none
 | .mput _ _ _ _=>True
 | .range _ _ _=>et
 | .bsl d _ _ _=>yO n0 d st
 | .app d _ _ x _=>match cc st.t x with
  | .slice _ .nil _=>yO n0 d st
  | .slice _ (.own k) _=>(look k st.e).bind (·.xs)=none
  |_=>True
def oN(n0:Nat):eb->aB
 | .mkmap _ (some m)=>.obj m
 | .appm _ (some m) _ _ _ _=>.obj m
 | .bslm _ (some m) _ _ _=>.obj m
 | .v d _| .box d _ _| .alloc d _ _| .bsl d _ _ _| .app d _ _ _ _| .bslm d _ _ _ _| .appm d _ _ _ _ _| .mkmap d _| .range d _ _| .mks d _ _ _ _ _| .apps d _ _ _=>.loc (n0+d)
 | .store _ _ _| .mput _ _ _ _| .storeE _ _ _=>.loc n0
def aj3(nw:List Nat)(st:bh)(s a:cM)(rm:aW aB):Prop:=(∀k,(look k a.b).isSome->(look k s.b).isSome\/rm=some k)/\(∀k,(look k a.e).isSome->(look k s.e).isSome\/rm=some k)/\(∀k,(look k s.b).isSome->(look k a.b).isSome)/\(∀k,(look k s.e).isSome->(look k a.e).isSome)/\
 (∀k,rm=some k->(∃j,j∈nw/\k= .obj j)/\look k st.b=none/\look k st.e=none/\((look k a.b).isSome\/(look k a.e).isSome))
def iN(P:cz)(q:Bool)(nw:List Nat)(n:Nat)(args:List ah)(st:bh)(d:aW Nat)(K:bh->Prop):Prop:=
 (∃cQ r,d=some cQ/\yO st.n cQ st/\aA (fun _=>et) args/\JW P n (st.n+cQ) args ⟨[],[]⟩ (fun b c=>b=r/\c=⟨[],[]⟩)/\K {st with t:=put cQ r st.t,o:= .loc (st.n+cQ)::st.o})\/
 ∃s a r rm,hf (inObs s) s.b st.b/\pX (inObs s) s.e st.e/\jm s/\jm a/\aj3 nw st s a rm/\aA (inObs s) args/\bK P n args s (fun b c=>b=r/\c=a)/\(q=true->a.b=[]/\a.e=[])/\K {after st s a d r with o:=st.o}
def jQ(P:cz)(q:Bool)(nw:List Nat)(n0:Nat)(st:bh)(K:bh->Prop):ed->Prop
 | .s i=>match eA (oN n0 i) st.n (oN n0 i::st.o) st i with
  |some (c,st')=>lK q nw n0 st i/\c/\K st'
  |none=>et
 | .call d f xs=>match cc st.t f with
  | .func n cZ=>iN P q nw n (cK (xs.map (cc st.t)++cZ)) st d K
  |_=>et
 | .next _ _=>et
 | .opn _ _ _=>et
 | .callb _ _=>et
def iu(P:cz)(q:Bool)(nw:List Nat)(n0:Nat):List dm->bh->(bh->Prop)->Prop
 |[],st,K=>K st
 |⟨none,i⟩::r,st,K=>jQ P q nw n0 st (fun st'=>iu P q nw n0 r st' K) i
 |⟨some (s,want),i⟩::r,st,K=>match get s st.t with
  | .bool b=>(b=want->jQ P q nw n0 {st with t:=put s (.bool want) st.t} (fun st'=>iu P q nw n0 r st' K) i)/\(b= !want->iu P q nw n0 r {st with t:=eP i.dst (.tuple []) (put s (.bool !want) st.t)} K)
  | .tuple []=>iu P q nw n0 r {st with t:=eP i.dst (.tuple []) st.t} K
  |_=>et
structure tT (nw:List Nat) (n0 N:Nat) (oq:List aB) (st:bh) (A:dw):Prop where
 like:mj st A
 n:st.n=n0
 F:∀k,fresh n0 st.o k->(∀j∈nw,k≠ .obj j)->A.F k
 o:∀k∈st.o,k∈oq\/(∃d,d<N/\k= .loc (n0+d))\/ ∃j∈nw,k= .obj j
def CU(nw:List Nat)(A:dw):Prop:= ∀j∈nw,A.b (.obj j)=none->A.e (.obj j)=none->A.F (.obj j)
theorem CU.do{P:cz}{q:Bool}{n0:Nat}{nw:List Nat}{A:dw}(h:CU nw A){g:dm}{x:lH}(i:lI P q n0 g A x):CU nw (A.do x):=by
 intro j f ae he;refine⟨h j f (GQ ae) (GR he),fun c=>?_⟩;rcases(PD i).r _ c with⟨d,_,e⟩|⟨_,_,a⟩
 ·cases e
 ·rcases a with a|a
  ·obtain⟨y,b⟩:=gd.1 a;simp[dw.do,jh,b]at ae
  ·obtain⟨y,b⟩:=gd.1 a;simp[dw.do,jh,b]at he
theorem TM{P:cz}{q:Bool}{nw:List Nat}{n0 N:Nat}{oq:List aB}{i:ed}(R:∀d,i.dst=some d->d<N){st:bh}{A:dw}(h:tT nw n0 N oq st A)(Z:CU nw A){K:bh->Prop}(he:jQ P q nw n0 st K i):∃x st',dT P q n0 i A x/\K st'/\tT nw n0 N oq st' (A.do x):=by
 have a:=h.like;have S:∀d,yO n0 d st->(A.F (.loc (n0+d))/\A.b (.loc (n0+d))=none/\A.e (.loc (n0+d))=none):=fun d E=>⟨h.F _ ⟨Ψ,E.1⟩ (fun _ _ e=>by cases e),by rw[<-a.b];exact E.2.1,by rw[<-a.e];exact E.2.2⟩;have G:∀(d:aW Nat) (p:ah) (bw:List (aB×List ah)) (ew:List (aB×ec)) (κ:aB),∀k,fresh n0 (κ::st.o) k->(∀j∈nw,k≠ .obj j)->(A.do ⟨d,p,bw,ew,some κ⟩).F k:=fun d p bw ew κ k b M=>⟨h.F k (ud k b).1 M,fun e=>(ud k b).2 (fK e).symm⟩;have O:∀(d:aW Nat) (p:ah) (bw:List (aB×List ah)) (ew:List (aB×ec)),∀k,fresh n0 st.o k->(∀j∈nw,k≠ .obj j)->(A.do ⟨d,p,bw,ew,none⟩).F k:=fun d p bw ew k b M=>⟨h.F k b M,Ψ⟩;have V:∀d,d<N->∀k∈aB.loc (n0+d)::st.o,k∈oq\/(∃d,d<N/\k= .loc (n0+d))\/ ∃j∈nw,k= .obj j:=fun d R k b=>by
  rcases gp.1 b with rfl|b
  ·exact .inr (.inl ⟨d,R,rfl⟩)
  ·exact h.o k b
 cases i with
 |s i=>
  cases i with
  |v d i=>
   simp only[jQ,eA]at he;cases l:hh st i with
   |none=>simp[l]at he
   |some KT=>
    obtain⟨c,p⟩:=KT;simp only[l]at he;obtain⟨J,U,g⟩:=he;refine⟨⟨some d,p,[],[],none⟩,_,⟨c,p,by rw[<-aaq a];exact l,U,fun oT=>?_,rfl⟩,g,Nc a d p,h.n,O _ _ _ _,h.o⟩;cases i<;>simp only[gq.isLoad]at oT<;>try(cases oT;done)
    case mget=>exact .inr (.inl J)
    case ment=>exact .inr (.inl J)
    case mlen=>exact .inr (.inl J)
    case loadB=>exact .inl rfl
    case mgetB=>exact .inl rfl
    simp only[lK,gq.loadO,iv a]at J;exact .inr (by simpa only[gq.ptrOf]using J)
  |box d key v=>
   cases key with
   |some m=>simp only[jQ,eA,lK,false_and]at he
   |none=>simp only[jQ,eA,lK,oN]at he;obtain⟨J,U,g⟩:=he;rw[iv a]at U;refine⟨_,_,⟨S d J,U,rfl⟩,g,?_,h.n,G _ _ _ _ _,V d (R d rfl)⟩;rw[iv a];exact BR a d _ _ _ _ _ _
  |alloc d key z=>
   cases key with
   |some m=>simp only[jQ,eA,lK,false_and]at he
   |none=>simp only[jQ,eA,lK,oN]at he;obtain⟨J,U,g⟩:=he;exact⟨_,_,⟨S d J,rfl⟩,g,BR a d _ _ _ _ _ _,h.n,G _ _ _ _ _,V d (R d rfl)⟩
  |store sz u v=>
   simp only[jQ,eA]at he;cases hu:cc st.t u with
   |ptr k off=>
    cases ae:look k st.b with
    |none=>simp[hu,ae]at he
    |some cs=>simp only[hu,ae]at he;obtain⟨J,U,g⟩:=he;rw[iv a]at U hu;refine⟨⟨none,.junk,[(k,o6 cs off (cells (dB A.t v)))],[],none⟩,_,⟨k,off,cs,hu,by rw[<-a.b];exact ae,U,rfl⟩,g,?_,h.n,O _ _ _ _,h.o⟩;rw[iv a];exact Ig a k _ _
   |_=>
    exfalso;simp only[hu]at he;split at he
    ·have:=he.1;simp[lK,hu]at this
    ·exact he
  |bsl d sz el xs=>simp only[jQ,eA,lK,oN]at he;obtain⟨J,U,g⟩:=he;rw[qW a]at U;refine⟨_,_,⟨S d J,U,rfl⟩,g,?_,h.n,G _ _ _ _ _,V d (R d rfl)⟩;rw[qW a];exact qy a d _ _ _ _ _ _
  |app d sz el u v=>
   simp only[jQ,eA]at he;cases hu:cc st.t u with
   |slice B tag xs=>
    cases l:cc st.t v with
    |slice D H ys=>
     simp only[hu,l]at he;by_cases t:B=sz/\D=sz
     ·obtain⟨rfl,rfl⟩:=t;rw[iv a]at hu l;cases tag with
      |no=>simp at he
      |tr k j=>simp at he
      |lo k=>simp at he
      |nil=>simp only[and_self,if_true,lK,iv a,hu,oN]at he;obtain⟨J,U,g⟩:=he;exact⟨_,_,⟨.nil,xs,H,ys,hu,l,.inr ⟨rfl,U,S d J,rfl⟩⟩,g,qy a d _ _ _ _ _ _,h.n,G _ _ _ _ _,V d (R d rfl)⟩
      |own k=>
       cases b:look k st.e with
       |none=>simp[b]at he
       |some o=>simp only[and_self,if_true,b]at he;obtain⟨J,U,g⟩:=he;exact⟨_,_,⟨.own k,xs,H,ys,hu,l,.inl ⟨k,o,rfl,by rw[<-a.e];exact b,⟨by simpa[lK,iv a,hu,b]using J,U⟩,rfl⟩⟩,g,qy a d _ _ _ _ _ _,h.n,O _ _ _ _,h.o⟩
     ·simp[t]at he
    |_=>simp[hu,l]at he
   |_=>simp[hu]at he
  |bslm d key sz el xs=>
   cases key with
   |none=>simp only[jQ,eA,lK,false_and]at he
   |some m=>
    simp only[jQ,eA,lK,oN]at he;obtain⟨⟨L,J,U⟩,a6,g⟩:=he;rw[a.b]at J;rw[a.e]at U;rw[qW a]at a6;refine⟨_,_,⟨⟨Z m L J U,J,U⟩,a6,rfl⟩,g,?_,h.n,G _ _ _ _ _,fun k b=>?_⟩
    ·rw[qW a];exact qy a d _ _ _ _ _ _
    rcases gp.1 b with rfl|b
    ·exact .inr (.inr ⟨m,L,rfl⟩)
    ·exact h.o k b
  |mks d key sz el z x=>simp only[jQ,eA,lK,false_and]at he;split at he<;>simp at he
  |apps d el x y=>simp only[jQ,eA,lK,false_and]at he;split at he<;>simp at he
  |appm d key sz el u v=>
   cases key with
   |some m=>
    simp only[jQ,eA]at he;cases hu:cc st.t u with
    |slice B tag xs=>
     cases tag with
     |nil=>
      cases l:cc st.t v with
      |slice D H ys=>
       simp only[hu,l,nk]at he;by_cases t:B=sz/\D=sz
       ·obtain⟨rfl,rfl⟩:=t;simp only[and_self,if_true,lK,hu,oN]at he;rw[iv a]at hu l;obtain⟨⟨L,J,U⟩,a6,g⟩:=he;rw[a.b]at J;rw[a.e]at U;refine⟨_,_,.inr ⟨xs,H,ys,hu,l,⟨Z m L J U,J,U⟩,a6,rfl⟩,g,qy a d _ _ _ _ _ _,h.n,G _ _ _ _ _,fun k b=>?_⟩;rcases gp.1 b with rfl|b
        ·exact .inr (.inr ⟨m,L,rfl⟩)
        ·exact h.o k b
       ·simp[t]at he
      |_=>simp[hu,l,nk]at he
     |_=>simp[hu,nk]at he
    |row B k n=>
     cases l:cc st.t v with
     |slice D H ys=>
      simp only[hu,l,nk]at he;by_cases t:B=sz/\D=sz
      ·obtain⟨rfl,rfl⟩:=t;rw[iv a]at hu l;simp only[and_self,if_true]at he;cases b:look k st.e with
       |none=>simp[b]at he
       |some o=>
        obtain⟨n',e9,Q,Y⟩:=o;cases Y with
        |none=>simp[b]at he
        |some xs=>
         simp only[b]at he;by_cases F:n'=n/\e9=el/\Q=D
         ·obtain⟨rfl,rfl,rfl⟩:=F;simp only[and_self,if_true]at he;obtain⟨J,U,g⟩:=he;exact⟨_,_,.inl ⟨k,n',xs,H,ys,hu,l,by rw[<-a.e];exact b,U,rfl⟩,g,qy a d _ _ _ _ _ _,h.n,O _ _ _ _,h.o⟩
         ·simp[F]at he
      ·simp[t]at he
     |_=>simp[hu,l,nk]at he
    |_=>simp[hu,nk]at he
   |none=>
   simp only[jQ,eA]at he;cases hu:cc st.t u with
   |row B k n=>
    cases l:cc st.t v with
    |slice D H ys=>
     simp only[hu,l,nk]at he;by_cases t:B=sz/\D=sz
     ·obtain⟨rfl,rfl⟩:=t;rw[iv a]at hu l;simp only[and_self,if_true]at he;cases b:look k st.e with
      |none=>simp[b]at he
      |some o=>
       obtain⟨n',e9,Q,Y⟩:=o;cases Y with
       |none=>simp[b]at he
       |some xs=>
        simp only[b]at he;by_cases F:n'=n/\e9=el/\Q=D
        ·obtain⟨rfl,rfl,rfl⟩:=F;simp only[and_self,if_true]at he;obtain⟨J,U,g⟩:=he;exact⟨_,_,⟨k,n',xs,H,ys,hu,l,by rw[<-a.e];exact b,U,rfl⟩,g,qy a d _ _ _ _ _ _,h.n,O _ _ _ _,h.o⟩
        ·simp[F]at he
     ·simp[t]at he
    |_=>simp[hu,l,nk]at he
   |slice B tag xs=>
    exfalso;simp only[hu]at he;split at he
    ·have:=he.1;simp[lK,hu]at this
    ·exact he
   |_=>simp[hu,nk]at he
  |storeE sz u v=>
   simp only[jQ,eA]at he;cases hu:cc st.t u with
   |rptr B k n i f=>
    cases b:look k st.e with
    |none=>simp[hu,sg,b]at he
    |some o=>
     obtain⟨n',el,Q,Y⟩:=o;cases Y with
     |none=>simp[hu,sg,b]at he
     |some xs=>
      simp only[hu,sg,b]at he;by_cases F:n'=n/\Q=B
      ·obtain⟨rfl,rfl⟩:=F;simp only[and_self,if_true]at he;cases bz:xs[i]? with
       |none=>simp[bz]at he
       |some q=>simp only[bz]at he;obtain⟨J,U,g⟩:=he;rw[iv a]at U hu;refine⟨⟨none,.junk,[],[(k,⟨n',el,Q,some (xs.set i (nG q f (cells (dB A.t v))))⟩)],none⟩,_,⟨k,n',i,f,el,Q,xs,q,hu,by rw[<-a.e];exact b,bz,U,rfl⟩,g,?_,h.n,O _ _ _ _,h.o⟩;rw[iv a];exact Xf a k _ _
      ·simp[F]at he
   |_=>simp[hu,sg]at he
  |mkmap d key=>
   cases key with
   |none=>simp only[jQ,eA,lK,false_and]at he
   |some m=>
    simp only[jQ,eA,lK,oN]at he;obtain⟨⟨L,J,U⟩,_,g⟩:=he;rw[a.b]at J;rw[a.e]at U;refine⟨_,_,⟨⟨Z m L J U,J,U⟩,rfl⟩,g,BR a d _ _ _ _ _ _,h.n,G _ _ _ _ _,fun k b=>?_⟩;rcases gp.1 b with rfl|b
    ·exact .inr (.inr ⟨m,L,rfl⟩)
    ·exact h.o k b
  |mput ck u k v=>
   simp only[jQ,eA,lK]at he;cases hu:cc st.t u with
   |gmap m=>
    cases ae:look m st.b with
    |none=>simp[hu,ae]at he
    |some cs=>
     cases hm:pR ck (cc st.t k) (cc st.t v) cs with
     |none=>simp[hu,ae,hm]at he
     |some cs'=>simp only[hu,ae,hm]at he;rw[iv a]at hu;rw[iv a,iv a]at hm;exact⟨⟨none,.junk,[(m,cs')],[],none⟩,_,⟨m,cs,cs',hu,by rw[<-a.b];exact ae,hm,rfl⟩,he.2.2,Ig a m _ _,h.n,O _ _ _ _,h.o⟩
   |_=>simp[hu]at he
  |range d key x=>simp only[jQ,lK,false_and]at he;split at he<;>exact he.elim
 |next d x=>simp only[jQ]at he
 |opn d f x=>simp only[jQ]at he
 |callb d f=>simp only[jQ]at he
 |call d f xs=>
  simp only[jQ]at he;cases E:cc st.t f with
  |func n cZ=>
   simp only[E]at he;rw[iv a]at E;rcases he with⟨cQ,r,rfl,bM,c2,c3,c4⟩|⟨s,X,r,rm,bM,c2,c3,c4,c5,qg,Dc,acm,c9⟩
   ·rw[qW a]at c2 c3;have W:=h.n;subst W;refine⟨⟨some cQ,r,[],[],some (.loc (st.n+cQ))⟩,_,⟨n,cZ,E,.inr ⟨cQ,r,rfl,S cQ bM,c2,c3,rfl⟩⟩,c4,Xg a cQ r _ _,rfl,G _ _ _ _ _,V cQ (R cQ rfl)⟩
   rw[qW a]at qg Dc;obtain⟨bc,bP,cA,ff,dt⟩:=c5;refine⟨⟨d,r,X.b,X.e,rm⟩,_,⟨n,cZ,E,.inl ⟨⟨s,X,r,rm,fun k cs b=>⟨by rw[<-a.b];exact(bM k cs b).1,(bM k cs b).2.2⟩,fun k o b=>⟨by rw[<-a.e];exact(c2 k o b).1,(c2 k o b).2.2⟩,c3,c4,⟨bc,bP,cA,ff,fun k b=>?_⟩,qg,Dc,rfl⟩,acm⟩⟩,c9,⟨fun i=>?_,fun k=>?_,fun k=>?_⟩,h.n,fun k b M=>⟨h.F k b M,fun qj=>?_⟩,h.o⟩
   ·obtain⟨⟨j,M,rfl⟩,aC,bj,cR⟩:=dt k b;rw[a.b]at aC;rw[a.e]at bj;exact⟨⟨j,rfl⟩,Z j M aC bj,aC,bj,cR⟩
   ·simp only[after,dw.do];cases d with
    |none=>simpa[eP]using a.t i
    |some d=>simp only[eP,pE,dv,a.t]
   ·simp only[after,dw.do,jh,zD,uH];by_cases w:(look k s.b).isSome
    ·have:=cA k w;obtain⟨y,aN⟩:=gd.1 this;simp[w,aN]
    ·cases W:look k X.b with
     |none=>simp only[w,a.b];cases A.b k<;>simp
     |some y=>
      rcases bc k (by simp[W])with h|h
      ·exact absurd h w
      ·have:=dt k h;simp[w,this]
   ·simp only[after,dw.do,jh,zD,uH];by_cases w:(look k s.e).isSome
    ·have:=ff k w;obtain⟨y,aN⟩:=gd.1 this;simp[w,aN]
    ·cases W:look k X.e with
     |none=>simp only[w,a.e];cases A.e k<;>simp
     |some y=>
      rcases bP k (by simp[W])with h|h
      ·exact absurd h w
      ·have:=dt k h;simp[w,this]
   ·obtain⟨⟨j,iU,rfl⟩,_⟩:=dt k qj;exact M j iU rfl
  |_=>simp[E]at he
def AR(N:Nat):List dm->Bool
 |[]=>true
 |g::r=>h1 N g.i.dst&&AR N r
def Aq:Nat->List dm->List (Nat×dm)
 |_,[]=>[]
 |k,g::r=>(k,g)::Aq (k+1) r
theorem Qv{nw:List Nat}{n0 N:Nat}{a:List aB}{st:bh}{A:dw}(h:tT nw n0 N a st A){s:Nat}{p:ah}(b:get s st.t=p):tT nw n0 N a {st with t:=put s p st.t} A:=by
 refine⟨⟨fun i=>?_,h.like.b,h.like.e⟩,h.n,h.F,h.o⟩;simp only[pE];split
 ·rename_i e;subst e;rw[<-b];exact h.like.t _
 ·exact h.like.t i
theorem Qw{nw:List Nat}{n0 N:Nat}{a:List aB}{st:bh}{A:dw}(h:tT nw n0 N a st A)(d:aW Nat):tT nw n0 N a {st with t:=eP d (.tuple []) st.t} (A.do (me d)):=by
 refine⟨⟨fun i=>?_,fun k=>?_,fun k=>?_⟩,h.n,fun k c b=>⟨h.F k c b,by simp[me]⟩,h.o⟩
 ·simp only[dw.do,me];cases d with
  |none=>simpa[eP]using h.like.t i
  |some d=>simp only[eP,pE,dv,h.like.t]
 ·simpa[dw.do,jh,look,me]using h.like.b k
 ·simpa[dw.do,jh,look,me]using h.like.e k
theorem Dq{P:cz}{q:Bool}{nw:List Nat}{n0 N:Nat}{j:List aB}{K:bh->Prop}:∀(gs:List dm) (k:Nat),AR N gs=true->∀(st:bh) (A:dw),tT nw n0 N j st A->CU nw A->iu P q nw n0 gs st K->w3 P q n0 (fun A'=> ∃st',K st'/\tT nw n0 N j st' A') (Aq k gs) A
 |[],k,_,st,A,h,_,he=>⟨st,he,h⟩
 |⟨l,i⟩::r,k,c,st,A,h,a,he=>by
  simp only[AR,cD]at c;have g:∀d,i.dst=some d->d<N:=fun d e=>by have:=c.1;rw[e]at this;simpa[h1]using this
  simp only[Aq,w3];cases l with
  |none=>simp only[iu]at he;obtain⟨x,st',J,U,f⟩:=TM g h a he;have aY:lI P q n0 ⟨none,i⟩ A x:=J;exact⟨x,aY,Dq r (k+1) c.2 st' _ f (a.do aY) U⟩
  |some n=>
   obtain⟨s,want⟩:=n;simp only[iu]at he;split at he
   ·rename_i b ae;by_cases e:b=want
    ·subst e;obtain⟨x,st',J,U,f⟩:=TM g (Qv h ae) a (he.1 rfl);have aY:lI P q n0 ⟨some (s,b),i⟩ A x:=by unfold lI;simp only[<-h.like.t,ae];exact .inl ⟨trivial,J⟩
     exact⟨x,aY,Dq r (k+1) c.2 st' _ f (a.do aY) U⟩
    ·have m:b= !want:=by cases b<;>cases want<;>simp at e⊢
     subst m;have aY:lI P q n0 ⟨some (s,want),i⟩ A (me i.dst):=by unfold lI;simp only[<-h.like.t,ae];exact .inr ⟨trivial,trivial⟩
     exact⟨me i.dst,aY,Dq r (k+1) c.2 _ _ (Qw (Qv h ae) i.dst) (a.do aY) (he.2 rfl)⟩
   ·rename_i ae;have aY:lI P q n0 ⟨some (s,want),i⟩ A (me i.dst):=by unfold lI;simp only[<-h.like.t,ae]
    exact⟨me i.dst,aY,Dq r (k+1) c.2 _ _ (Qw h i.dst) (a.do aY) he⟩
   ·exact he.elim
theorem OO:∀(gs:List dm) (l:Array Bool) (k:Nat),(∀j,l.getD j false=false)->rem l k gs=Aq k gs
 |[],_,_,_=>rfl
 |g::r,l,k,h=>by simp only[rem,h k,Aq,OO r l (k+1) h];simp
def va(n:Nat)(o:List aB)(K:bh->Prop)(st:bh):Prop:=K {st with n:=n,o:=o}
theorem Good.like{pr:Nat->Prop}{w:World}{Z:aZ}{b cb:List (aB×List ah)}{e c:List (aB×ec)}(h:Good pr w Z b e)(ae:∀k,look k cb=look k b)(he:∀k,look k c=look k e):Good pr w Z cb c:=
 ⟨h.alt,fun k cs i=>h.box k cs (by rw[<-ae];exact i),fun k f bl J U=>h.inj k f bl (by rw[<-ae];exact J) (by rw[<-ae];exact U),fun g o aY=>h.own g o (by rw[<-he];exact aY),
  fun g d n n' v v' bl J U=>h.oinj g d n n' v v' bl (by rw[<-he];exact J) (by rw[<-he];exact U),fun g k n v bl J U=>h.obx g k n v bl (by rw[<-he];exact J) (by rw[<-ae];exact U),h.one,
  fun bl aM=>h.otr bl (aM.imp (fun⟨k,a,a2⟩=>⟨k,by rw[<-ae];exact a,a2⟩) (fun⟨g,n,v,a,a2⟩=>⟨g,n,v,by rw[<-he];exact a,a2⟩))⟩
theorem TO{P:cz}(hm:P.follows .mixedOrders=true){bu:List (Nat×dE)}(aM:e6 P bu=true){C:e0}{q:Bool}{nw:List Nat}{id:Nat}{ops:Array Oper}{gs:List dm}(v:lf C.N bu ops.toList gs ops.toList=true)(L:C5 gs ops.toList=true)(E:AR C.N gs=true)
  {K:bh->Prop} {Q:Exit->Act->World->Prop} (D:∀st' bo w' Z',K st'->cS C st' bo w' Z'->Q .normal bo w') {st:bh} {a:Act} {w:World} {Z:aZ} (t:∀j∈nw,.obj j∉st.o) (he:iu P q nw st.n gs st (va (st.n+C.N) (nw.map aB.obj++st.o) K)) (J:cS C st a w Z):(Code.region id ops true).wp P Q a w:=by
 refine wp_region_any hm ?_;have x:cS C st a {w with drawn:=w.drawn+1} Z:=J.drawn _;let A:dw:=⟨fun i=>get i st.t,fun k=>look k st.b,fun k=>look k st.e,fresh st.n st.o⟩
 have u:tT nw st.n C.N st.o st A:=⟨⟨fun _=>rfl,fun _=>rfl,fun _=>rfl⟩,rfl,fun k b _=>b,fun k b=>.inl b⟩;have z:=Dq gs 0 E st A u (fun j n _ _=>⟨trivial,t j n⟩) he;have p:∀j,(Array.replicate ops.size false).getD j false=false:=fun j=>by simp[Array.getD_eq_getD_getElem?,Array.getElem?_replicate];split<;>rfl
 refine abQ aM v L (q:=q) (n0:=st.n) (K:=fun A'=> ∃st',va (st.n+C.N) (nw.map aB.obj++st.o) K st'/\tT nw st.n C.N st.o st' A') ?_ ops.size _ A a _ Ψ ?_ ?_ (by rw[OO gs _ 0 p];exact z) ⟨st,Z,u.like,fun k b=>b,x⟩
 ·rintro A' bo w' ⟨st',b,l⟩ ⟨G,Z',s,M,c⟩;refine D _ bo w' Z' b ⟨c.good.like (fun k=>by rw[s.b,<-l.like.b]) (fun k=>by rw[s.e,<-l.like.e]),c.fr,c.defers,c.size,fun i=>?_,fun k f=>?_,c.ext,fun m hm H=>x.obk m hm (yP (Nat.le_add_right _ _) (fun _ h=>List.mem_append_right _ h) H)⟩
  ·have:=c.slot i;rw[s.t,<-l.like.t]at this;exact this
  ·refine c.new k (M k (l.F k ?_ fun j n e=>f.2 (by subst e;exact sr _ (List.mem_map_of_mem n))));simp only at f;refine⟨(yP (Nat.le_add_right st.n C.N) (fun _ h=>h) f).1,fun B=>?_⟩;rcases l.o k B with h|⟨d,N,rfl⟩|⟨j,n,rfl⟩;rotate_left 2
   ·exact f.2 (sr _ (List.mem_map_of_mem n))
   ·exact f.2 (List.mem_append_right _ h)
   ·have:=f.1;simp at this;omega
 ·intro k o b y;rw[p]at y;cases y
 ·rw[OO gs _ 0 p];have:∀(gs:List dm) k,(Aq k gs).length=gs.length:=by
   intro gs;induction gs with
   |nil=>intro k;rfl
   |cons g r F=>intro k;simp[Aq,F]
  rw[this];have:=LI v;simp at this;omega
mutual
def hp:ah->List (aB×Nat)
 | .slice _ tag _=>match tag with| .tr k i=>[(k,i)]|_=>[]
 | .agg cs=>lC cs
 |_=>[]
def lC:List ah->List (aB×Nat)
 |[]=>[]
 |x::xs=>hp x++lC xs
end
mutual
def ma:ah->Prop
 | .int _ _=>True
 | .bool _=>True
 | .str _=>True
 | .slice _ tag xs=>match tag with| .tr k _=>k≠uS|_=>xs=[]
 | .agg cs=>uN cs
 |_=>et
def uN:List ah->Prop
 |[]=>True
 |x::xs=>ma x/\uN xs
end
def mB(Z:aZ)(l:List (aB×Nat))(b:Nat):Prop:= ∃k i,(k,i)∈l/\Z.tr k i b
theorem B3{Z:aZ}{l a:List (aB×Nat)}(h:∀x∈l,x∈a)(b:Nat)(ae:mB Z l b):mB Z a b:=by obtain⟨k,i,J,U⟩:=ae;exact⟨k,i,h _ J,U⟩
theorem NL{Z:aZ}(gO:∀k j a c b,Z.tr k j b->Z.tr a c b->k=a/\j=c){l d:List (aB×Nat)}(h:(l++d).Nodup)(b:Nat)(J:mB Z l b):¬mB Z d b:=by rintro⟨a,e,f,g⟩;obtain⟨k,i,J,U⟩:=J;obtain⟨rfl,rfl⟩:=gO k i a e b U g;rw[ss]at h;exact h.2.2 _ J _ f rfl
mutual
theorem NT{w:World}{Z:aZ}(gO:∀k j d c b,Z.tr k j b->Z.tr d c b->k=d/\j=c):∀(p:ah) (v:Value),aS w Z p v->ma p->(hp p).Nodup->dZ true w Z.A (mB Z (hp p)) (de p) v
 | .int k n,v,h,_,_=>by simpa only[aS,de,dZ]using h
 | .bool b,v,h,_,_=>by simpa only[aS,de,dZ]using h
 | .str s,v,h,_,_=>by simpa only[aS,de,dZ]using h
 | .slice sz tag xs,v,h,ak,_=>by
  simp only[aS]at h;obtain⟨⟨a,cap,J,U,g,m⟩,_,_,f,_⟩:=h;by_cases aM:∃k i,tag= .tr k i
  ·obtain⟨k,i,rfl⟩:=aM;refine Hb _ _ v (yQ (fun _ _ h=>⟨h,rfl⟩) (fun _ _ _=>rfl) _ _ _ v (fun b ae=>?_) (f k i rfl));exact⟨k,i,by simp[hp],ae⟩
  ·have l:xs=[]:=by
    simp only[ma]at ak;split at ak
    ·exact absurd ⟨_,_,rfl⟩ aM
    ·exact ak
   subst l;simp only[de,cK,dZ];exact⟨a,cap,J,U,g,.inl trivial⟩
 | .agg cs,v,h,ak,e=>by simp only[aS,ma,hp,de,dZ]at h ak e⊢;obtain⟨us,J,U⟩:=h;exact⟨us,J,XU gO cs _ U ak e⟩
 | .junk,_,_,ak,_=>by simp[ma]at ak
 | .ptr _ _,_,_,ak,_=>by simp[ma]at ak
 | .eptr _,_,_,ak,_=>by simp[ma]at ak
 | .iface _ _,_,_,ak,_=>by simp[ma]at ak
 | .nilp,_,_,ak,_=>by simp[ma]at ak
 | .tuple _,_,_,ak,_=>by simp[ma]at ak
 | .func _ _,_,_,ak,_=>by simp[ma]at ak
 | .gmap _,_,_,ak,_=>by simp[ma]at ak
 | .row _ _ _,_,_,ak,_=>by simp[ma]at ak
 | .rptr _ _ _ _ _,_,_,ak,_=>by simp[ma]at ak
 | .hdm _ _,_,_,ak,_=>by simp[ma]at ak
 | .hdi _ _ _,_,_,ak,_=>by simp[ma]at ak
 | .cst _,_,_,ak,_=>by simp[ma]at ak
theorem XU{w:World}{Z:aZ}(gO:∀k j g f b,Z.tr k j b->Z.tr g f b->k=g/\j=f):∀(cs:List ah) (us:List Value),cW w Z cs us->uN cs->(lC cs).Nodup->pD true w Z.A (mB Z (lC cs)) (cK cs) us
 |[],us,h,_,_=>by simpa only[cW,cK,pD]using h
 |c::cs,us,h,ak,a=>by simp only[cW,uN,lC,cK,pD]at h ak a⊢;obtain⟨u,i,J,⟨U,l⟩,m⟩:=h;have e:=ss.1 a;exact⟨u,i,mB Z (hp c),mB Z (lC cs),J,⟨B3 (fun x d=>sr _ d),B3 (fun x d=>List.mem_append_right _ d),fun _ b ae=>NL gO a b ae⟩,⟨NT gO c u U ak.1 e.1,l⟩,XU gO cs i m ak.2 e.2.1⟩
end
theorem NU{w:World}{Z:aZ}(gO:∀k j g f b,Z.tr k j b->Z.tr g f b->k=g/\j=f){sz:Nat}:∀(cs:List ah) (us:List Value),di w Z sz cs us->uN cs->(lC cs).Nodup->pC true w Z.A (mB Z (lC cs)) sz (cK cs) us
 |[],us,h,_,_=>by simpa only[di,cK,pC]using h
 |c::cs,us,h,ak,a=>by simp only[di,uN,lC,cK,pC]at h ak a⊢;obtain⟨u,i,J,⟨U,l⟩,m⟩:=h;have e:=ss.1 a;exact⟨u,i,mB Z (hp c),mB Z (lC cs),J,⟨B3 (fun x d=>sr _ d),B3 (fun x d=>List.mem_append_right _ d),fun _ b ae=>NL gO a b ae⟩,⟨NT gO c u U ak.1 e.1,l⟩,NU gO cs i m ak.2 e.2.1⟩
mutual
theorem Lv{t:Bool}{w:World}{A:Nat->Nat->Prop}{Z:aZ}(be:∀b o,A b o->Z.A b o):∀(p:ah) (F:Nat->Prop) (v:Value),dZ t w A F p v->aS w Z (de p) v
 | .int k n,_,_,h=>by simpa only[aS,de,dZ]using h
 | .bool b,_,_,h=>by simpa only[aS,de,dZ]using h
 | .str s,_,_,h=>by simpa only[aS,de,dZ]using h
 | .slice sz tag xs,F,v,h=>by
  simp only[dZ,de,aS]at h⊢;obtain⟨a,cap,J,U,f,j⟩:=h;refine⟨⟨a,cap,by rw[nH];exact J,by rw[nH];exact U,by rw[nH];exact f,?_⟩,fun e=>(by cases e),fun g e=>(by cases e),fun _ _ e=>(by cases e),fun _ e=>(by cases e)⟩;rcases j with rfl|⟨b,off,us,G,i,_,_,d,_,c⟩
  ·exact .inl rfl
  ·exact .inr ⟨b,off,us,i,xL (fun b o h=>⟨be b o h,rfl⟩) _ _ d,Uq be xs G us c⟩
 | .agg cs,F,v,h=>by simp only[dZ,de,aS]at h⊢;obtain⟨us,J,U⟩:=h;exact⟨us,J,Us be cs F _ U⟩
 | .junk,_,_,h=>by simp[dZ]at h
 | .ptr _ _,_,_,h=>by simp[dZ]at h
 | .eptr _,_,_,h=>by simp[dZ]at h
 | .iface _ _,_,_,h=>by simp[dZ]at h
 | .nilp,_,_,h=>by simp[dZ]at h
 | .tuple _,_,_,h=>by simp[dZ]at h
 | .func _ _,_,_,h=>by simp[dZ]at h
 | .gmap _,_,_,h=>by simp[dZ]at h
 | .row _ _ _,_,_,h=>by simp[dZ]at h
 | .rptr _ _ _ _ _,_,_,h=>by simp[dZ]at h
 | .hdm _ _,_,_,h=>by simp[dZ]at h
 | .hdi _ _ _,_,_,h=>by simp[dZ]at h
 | .cst _,_,_,h=>by simp[dZ]at h
theorem Us{t:Bool}{w:World}{A:Nat->Nat->Prop}{Z:aZ}(be:∀b o,A b o->Z.A b o):∀(cs:List ah) (F:Nat->Prop) (us:List Value),pD t w A F cs us->cW w Z (cK cs) us
 |[],_,_,h=>by simpa only[pD,cK,cW]using h
 |c::cs,F,us,h=>by simp only[pD,cK,cW]at h⊢;obtain⟨u,a,e,d,J,_,⟨i,f⟩,g⟩:=h;exact⟨u,a,J,⟨Lv be c e u i,f⟩,Us be cs d a g⟩
theorem Uq{t:Bool}{w:World}{A:Nat->Nat->Prop}{Z:aZ}(be:∀b o,A b o->Z.A b o){sz:Nat}:∀(cs:List ah) (F:Nat->Prop) (us:List Value),pC t w A F sz cs us->di w Z sz (cK cs) us
 |[],_,_,h=>by simpa only[pC,cK,di]using h
 |c::cs,F,us,h=>by simp only[pC,cK,di]at h⊢;obtain⟨u,a,e,d,J,_,⟨i,f⟩,g⟩:=h;exact⟨u,a,J,⟨Lv be c e u i,f⟩,Uq be cs d a g⟩
end
mutual
theorem Ps:∀p:ah,de (de p)=de p
 | .slice _ _ xs=>by simp[de,x5 xs]
 | .agg cs=>by simp[de,x5 cs]
 | .tuple ba=>by simp[de,x5 ba]
 | .eptr x=>by simp[de,Ps x]
 | .iface t x=>by simp[de,Ps x]
 | .func f cZ=>by simp[de,x5 cZ]
 | .junk=>rfl
 | .int _ _=>rfl
 | .bool _=>rfl
 | .str _=>rfl
 | .ptr _ _=>rfl
 | .nilp=>rfl
 | .gmap _=>rfl
 | .row _ _ _=>rfl
 | .rptr _ _ _ _ _=>rfl
 | .hdm _ _=>rfl
 | .hdi _ _ _=>rfl
 | .cst _=>rfl
theorem x5:∀xs:List ah,cK (cK xs)=cK xs
 |[]=>rfl
 |x::xs=>by simp[cK,Ps x,x5 xs]
end
mutual
def fV:ah->List aB
 | .slice _ tag _=>match tag with| .own k=>[k]|_=>[]
 | .row _ k _=>[k]
 | .agg cs=>o5 cs
 | .tuple cs=>o5 cs
 |_=>[]
def o5:List ah->List aB
 |[]=>[]
 |x::xs=>fV x++o5 xs
end
def wB(e:List (aB×ec))(k:aB):List ah:=((look k e).bind (·.xs)).getD []
mutual
def gZ(e:List (aB×ec)):ah->List (aB×Nat)
 | .slice _ tag xs=>match tag with| .tr k i=>[(k,i)]| .own _=>lC xs|_=>[]
 | .row _ k _=>lC (wB e k)
 | .agg cs=>qB e cs
 | .tuple cs=>qB e cs
 |_=>[]
def qB(e:List (aB×ec)):List ah->List (aB×Nat)
 |[]=>[]
 |x::xs=>gZ e x++qB e xs
end
mutual
def jn(e:List (aB×ec)):ah->Prop
 | .int _ _=>True
 | .bool _=>True
 | .str _=>True
 | .slice sz tag xs=>match tag with| .tr k _=>k≠uS| .own k=>True/\(∃el,look k e=some ⟨xs.length,el,sz,none⟩)/\uN xs/\0<sz|_=>xs=[]
 | .row sz k n=>True/\(∃xs el,look k e=some ⟨n,el,sz,some xs⟩/\uN xs)/\0<sz
 | .agg cs=>tv e cs
 | .tuple cs=>tv e cs
 |_=>et
def tv(e:List (aB×ec)):List ah->Prop
 |[]=>True
 |x::xs=>jn e x/\tv e xs
end
mutual
def vo:ah->Nat
 | .slice _ _ _=>1
 | .row _ _ _=>1
 | .agg cs=>Dj cs
 | .tuple cs=>Dj cs
 |_=>0
def Dj:List ah->Nat
 |[]=>0
 |x::xs=>vo x+Dj xs
end
mutual
def fold(κ:Nat)(e:List (aB×ec)):Nat->ah->ah
 |j,.slice sz _ xs=>.slice sz (.tr (.loc κ) j) (cK xs)
 |j,.row sz k _=>.slice sz (.tr (.loc κ) j) (cK (wB e k))
 |j,.agg cs=>.agg (vv κ e j cs)
 |j,.tuple cs=>.tuple (vv κ e j cs)
 |_,p=>p
def vv(κ:Nat)(e:List (aB×ec)):Nat->List ah->List ah
 |_,[]=>[]
 |j,x::xs=>fold κ e j x::vv κ e (j+vo x) xs
end
def nF(Z:aZ)(k:aB)(b:Nat):Prop:= ∃n v,Z.ow k=some (n,v)/\v.ownBlock=some b
mutual
def fi(Z:aZ)(R:Nat->Prop)(e:List (aB×ec)):ah->List (Nat->Prop)
 | .slice _ tag xs=>match tag with| .tr k i=>[fun b=>Z.tr k i b/\¬R b]| .own k=>[fun b=>nF Z k b\/(mB Z (lC xs) b/\¬R b)]|_=>[fun _=>et]
 | .row _ k _=>[fun b=>nF Z k b\/(mB Z (lC (wB e k)) b/\¬R b)]
 | .agg cs=>o7 Z R e cs
 | .tuple cs=>o7 Z R e cs
 |_=>[]
def o7(Z:aZ)(R:Nat->Prop)(e:List (aB×ec)):List ah->List (Nat->Prop)
 |[]=>[]
 |x::xs=>fi Z R e x++o7 Z R e xs
end
mutual
theorem Ae(Z:aZ)(R:Nat->Prop)(e:List (aB×ec)):∀p,(fi Z R e p).length=vo p
 | .slice _ tag _=>by cases tag<;>simp[fi,vo]
 | .row _ k _=>by simp[fi,vo]
 | .agg cs=>by simp[fi,vo,Pl Z R e cs]
 | .tuple cs=>by simp[fi,vo,Pl Z R e cs]
 | .int _ _=>rfl
 | .bool _=>rfl
 | .str _=>rfl
 | .junk=>rfl
 | .ptr _ _=>rfl
 | .eptr _=>rfl
 | .iface _ _=>rfl
 | .nilp=>rfl
 | .func _ _=>rfl
 | .gmap _=>rfl
 | .rptr _ _ _ _ _=>rfl
 | .hdm _ _=>rfl
 | .hdi _ _ _=>rfl
 | .cst _=>rfl
theorem Pl(Z:aZ)(R:Nat->Prop)(e:List (aB×ec)):∀p,(o7 Z R e p).length=Dj p
 |[]=>rfl
 |x::xs=>by simp[o7,Dj,Ae Z R e x,Pl Z R e xs]
end
def G8(Z:aZ)(R:Nat->Prop)(ns:List (aB×Nat))(rw:List aB)(b:Nat):Prop:=(∃k∈rw,nF Z k b)\/(mB Z ns b/\¬R b)
mutual
theorem Ju{Z:aZ}{R:Nat->Prop}{e:List (aB×ec)}:∀(p:ah) (i:Nat) (S:Nat->Prop),(fi Z R e p)[i]? =some S->∀b,S b->G8 Z R (gZ e p) (fV p) b
 | .slice _ tag _,i,S,h,b,ae=>by
  cases tag<;>(simp only[fi]at h;cases i<;>simp at h;subst h);all_goals first|exact ae.elim|skip
  ·rcases ae with ae|ae
   ·exact .inl ⟨_,by simp[fV],ae⟩
   ·exact .inr (by simpa only[gZ]using ae)
  ·exact .inr ⟨⟨_,_,by simp[gZ],ae.1⟩,ae.2⟩
 | .row _ k _,i,S,h,b,ae=>by
  simp only[fi]at h;cases i<;>simp at h;subst h;rcases ae with ae|ae
  ·exact .inl ⟨k,by simp[fV],ae⟩
  ·exact .inr (by simpa only[gZ]using ae)
 | .agg cs,i,S,h,b,ae=>by simp only[fi,gZ,fV]at h⊢;exact FL cs i S h b ae
 | .tuple cs,i,S,h,b,ae=>by simp only[fi,gZ,fV]at h⊢;exact FL cs i S h b ae
 | .int _ _,_,_,h,_,_=>by simp[fi]at h
 | .bool _,_,_,h,_,_=>by simp[fi]at h
 | .str _,_,_,h,_,_=>by simp[fi]at h
 | .junk,_,_,h,_,_=>by simp[fi]at h
 | .ptr _ _,_,_,h,_,_=>by simp[fi]at h
 | .eptr _,_,_,h,_,_=>by simp[fi]at h
 | .iface _ _,_,_,h,_,_=>by simp[fi]at h
 | .nilp,_,_,h,_,_=>by simp[fi]at h
 | .func _ _,_,_,h,_,_=>by simp[fi]at h
 | .gmap _,_,_,h,_,_=>by simp[fi]at h
 | .rptr _ _ _ _ _,_,_,h,_,_=>by simp[fi]at h
 | .hdm _ _,_,_,h,_,_=>by simp[fi]at h
 | .hdi _ _ _,_,_,h,_,_=>by simp[fi]at h
 | .cst _,_,_,h,_,_=>by simp[fi]at h
theorem FL{Z:aZ}{R:Nat->Prop}{e:List (aB×ec)}:∀(p:List ah) (i:Nat) (S:Nat->Prop),(o7 Z R e p)[i]? =some S->∀b,S b->G8 Z R (qB e p) (o5 p) b
 |[],i,S,h,b,ae=>by simp[o7]at h
 |x::xs,i,S,h,b,ae=>by
  simp only[o7]at h;simp only[qB,o5];by_cases hi:i<(fi Z R e x).length
  ·rw[rB hi]at h;rcases Ju x i S h b ae with⟨k,J,U⟩|⟨J,U⟩
   ·exact .inl ⟨k,sr _ J,U⟩
   ·exact .inr ⟨B3 (fun _ h=>sr _ h) b J,U⟩
  ·rw[List.getElem?_append_right Ω]at h;rcases FL xs _ S h b ae with⟨k,J,U⟩|⟨J,U⟩
   ·exact .inl ⟨k,List.mem_append_right _ J,U⟩
   ·exact .inr ⟨B3 (fun _ h=>List.mem_append_right _ h) b J,U⟩
end
structure CR (Z:aZ) (R:Nat->Prop) (rw:List aB):Prop where
 trd:∀k j bn df b,Z.tr k j b->Z.tr bn df b->k=bn/\j=df
 inj:∀k bn b,k∈rw->bn∈rw->nF Z k b->nF Z bn b->k=bn
 R:∀k b,k∈rw->nF Z k b->R b
theorem Up{Z:aZ}{R:Nat->Prop}{rw:List aB}(he:CR Z R rw){i j:List (aB×Nat)}{h g:List aB}(m:(i++j).Nodup)(n:(h++g).Nodup)(J:∀k∈h,k∈rw)(U:∀k∈g,k∈rw)(b:Nat)(ae:G8 Z R i h b):¬G8 Z R j g b:=by
 rintro l;rcases ae with⟨k,c,f⟩|⟨c,f⟩<;>rcases l with⟨e,a,d⟩|⟨a,d⟩
 ·have:=he.inj k e b (J k c) (U e a) f d;subst this;exact(ss.1 n).2.2 _ c _ a rfl
 ·exact d (he.R k b (J k c) f)
 ·exact f (he.R e b (U e a) d)
 ·exact NL he.trd m b c a
mutual
theorem ZS{Z:aZ}{R:Nat->Prop}{rw:List aB}(he:CR Z R rw){e:List (aB×ec)}:∀(p:ah),(gZ e p).Nodup->(fV p).Nodup->(∀k∈fV p,k∈rw)->∀(i d:Nat) (S c:Nat->Prop),(fi Z R e p)[i]? =some S->(fi Z R e p)[d]? =some c->∀b,S b->c b->i=d
 | .slice sz tag xs,_,_,_,i,d,S,c,h,a,b,_,_=>by have m:(fi Z R e (.slice sz tag xs)).length=1:=Ae Z R e _;have:=(fy.1 h).1;have:=(fy.1 a).1;omega
 | .row sz k n,_,_,_,i,d,S,c,h,a,b,_,_=>by have m:(fi Z R e (.row sz k n)).length=1:=Ae Z R e _;have:=(fy.1 h).1;have:=(fy.1 a).1;omega
 | .agg cs,f,j,g,i,d,S,c,h,a,b,ae,l=>by simp only[fi,gZ,fV]at h a f j g;exact Pk he cs f j g i d S c h a b ae l
 | .tuple cs,f,j,g,i,d,S,c,h,a,b,ae,l=>by simp only[fi,gZ,fV]at h a f j g;exact Pk he cs f j g i d S c h a b ae l
 | .int _ _,_,_,_,_,_,_,_,h,_,_,_,_=>by simp[fi]at h
 | .bool _,_,_,_,_,_,_,_,h,_,_,_,_=>by simp[fi]at h
 | .str _,_,_,_,_,_,_,_,h,_,_,_,_=>by simp[fi]at h
 | .junk,_,_,_,_,_,_,_,h,_,_,_,_=>by simp[fi]at h
 | .ptr _ _,_,_,_,_,_,_,_,h,_,_,_,_=>by simp[fi]at h
 | .eptr _,_,_,_,_,_,_,_,h,_,_,_,_=>by simp[fi]at h
 | .iface _ _,_,_,_,_,_,_,_,h,_,_,_,_=>by simp[fi]at h
 | .nilp,_,_,_,_,_,_,_,h,_,_,_,_=>by simp[fi]at h
 | .func _ _,_,_,_,_,_,_,_,h,_,_,_,_=>by simp[fi]at h
 | .gmap _,_,_,_,_,_,_,_,h,_,_,_,_=>by simp[fi]at h
 | .rptr _ _ _ _ _,_,_,_,_,_,_,_,h,_,_,_,_=>by simp[fi]at h
 | .hdm _ _,_,_,_,_,_,_,_,h,_,_,_,_=>by simp[fi]at h
 | .hdi _ _ _,_,_,_,_,_,_,_,h,_,_,_,_=>by simp[fi]at h
 | .cst _,_,_,_,_,_,_,_,h,_,_,_,_=>by simp[fi]at h
theorem Pk{Z:aZ}{R:Nat->Prop}{rw:List aB}(he:CR Z R rw){e:List (aB×ec)}:∀(p:List ah),(qB e p).Nodup->(o5 p).Nodup->(∀k∈o5 p,k∈rw)->∀(i d:Nat) (S c:Nat->Prop),(o7 Z R e p)[i]? =some S->(o7 Z R e p)[d]? =some c->∀b,S b->c b->i=d
 |[],_,_,_,i,d,S,c,h,_,_,_,_=>by simp[o7]at h
 |x::xs,f,g,o,i,d,S,c,h,a,b,ae,j=>by
  simp only[o7]at h a;simp only[qB]at f;simp only[o5]at g o;have m:∀k∈fV x,k∈rw:=fun k l=>o k (sr _ l);have n:∀k∈o5 xs,k∈rw:=fun k l=>o k (List.mem_append_right _ l);by_cases hi:i<(fi Z R e x).length<;>by_cases q:d<(fi Z R e x).length
  ·rw[rB hi]at h;rw[rB q]at a;exact ZS he x (ss.1 f).1 (ss.1 g).1 m i d S c h a b ae j
  ·rw[rB hi]at h;rw[List.getElem?_append_right Ω]at a;exact absurd (FL xs _ c a b j) (Up he f g m n b (Ju x i S h b ae))
  ·rw[List.getElem?_append_right Ω]at h;rw[rB q]at a;exact absurd (FL xs _ S h b ae) (Up he f g m n b (Ju x d c a b j))
  ·rw[List.getElem?_append_right Ω]at h a;have:=Pk he xs (ss.1 f).2.1 (ss.1 g).2.1 n _ _ S c h a b ae j;omega
end
end
section
open Go Go.RowKit
theorem PE{w:World}{μ:aZ}{k:aB}{j sz:Nat}{tag:Ax}{ys:List ah}{v:Value}(h:dZ true w μ.A (μ.tr k j) (.slice sz tag ys) v)(a:cK ys=ys):aS w μ (.slice sz (.tr k j) ys) v:=by have J:=Lv (Z:=μ) (fun _ _ h=>h) _ _ _ h;simp only[de,a]at J;simp only[aS]at J⊢;refine⟨J.1,fun e=>(by cases e),fun _ e=>(by cases e),fun c b e=>?_,fun _ e=>(by cases e)⟩;cases e;simp only[dZ]at h⊢;exact h
section
variable {pr:Nat->Prop} {w:World} {Z μ:aZ} {B:List (aB×List ah)} {e:List (aB×ec)} {R:Nat->Prop} {rw:List aB} {κ:Nat}
 (aY:Good pr w Z B e) (he:CR Z R rw) (bq:∀b,R b->∀k j,¬Z.tr k j b) (DJ:∀b o,Z.A b o->μ.A b o) (yU:∀k∈rw,∀own,look k e=some own->∀b,nF Z k b->∀o,o<own.n*own.sz->μ.A b o)
include aY he bq DJ yU
mutual
theorem Lu:∀(p:ah) (v:Value) (j:Nat),aS w Z p v->jn e p->(gZ e p).Nodup->(∀k∈fV p,k∈rw)->(∀i S,(fi Z R e p)[i]? =some S->∀b,S b->μ.tr (.loc κ) (j+i) b)->aS w μ (fold κ e j p) v
 | .int k n,v,_,h,_,_,_,_=>by simpa only[aS,fold]using h
 | .bool b,v,_,h,_,_,_,_=>by simpa only[aS,fold]using h
 | .str s,v,_,h,_,_,_,_=>by simpa only[aS,fold]using h
 | .slice sz tag xs,v,j,h,ak,f,l,d=>by
  simp only[aS]at h;obtain⟨⟨a,cap,J,U,W,a6⟩,_,dY,mu,_⟩:=h;simp only[fold];refine PE (tag:= .no) ?_ (x5 xs);by_cases aM:∃k i,tag= .tr k i
  ·obtain⟨k,i,rfl⟩:=aM;have aG:=Lw .no v (mu k i rfl);refine yQ (fun b o h=>⟨DJ b o h,rfl⟩) (fun _ _ _=>rfl) _ _ _ v (fun b ae=>?_) aG;simpa using d 0 (fun b=>Z.tr k i b/\¬R b) (by simp[fi]) b ⟨ae,fun B=>bq b B _ _ ae⟩
  by_cases P:∃k,tag= .own k
  ·obtain⟨k,rfl⟩:=P;simp only[jn]at ak;obtain⟨_,⟨el,z⟩,G,L⟩:=ak;obtain⟨n',u,g1,g2,g3⟩:=dY k rfl;obtain⟨v0,fb,q,r,M,V⟩:=aY.own k _ z;simp only at q r M;rw[g1]at q;simp only[dv,hN]at q;obtain⟨rfl,rfl⟩:=q;have N:=g3 rfl;subst N;have F:k∈rw:=l k (by simp[fV]);simp only[dZ];refine⟨a,cap,by rw[nH];exact J,by rw[nH];exact U,by rw[nH];exact W,?_⟩;rcases a6 with rfl|⟨b,off,us,A,cR,Q⟩
   ·exact .inl rfl
   by_cases y:xs=[]
   ·left;rw[y];rfl
   right;subst A;rcases r.2 with⟨A,_⟩|⟨g,yE,cur,f1,f2,f3,f4,f5,f6,f7⟩
   ·rw[A]at J;cases J
   have D:v.ownBlock=some g:=by rw[f1];rfl
   have x:nF Z k g:=⟨_,_,g1,D⟩;have t:∀b,(nF Z k b\/(mB Z (lC xs) b/\¬R b))->μ.tr (.loc κ) j b:=fun b ae=>by simpa using d 0 (fun b=>nF Z k b\/(mB Z (lC xs) b/\¬R b)) (by simp[fi]) b ae
   rw[f1]at J;simp only[awn,dv,Addr.mk.injEq]at J;obtain⟨⟨rfl,rfl,_⟩,_,rfl⟩:=J;have hlen:=r9 Q;refine⟨g,0,us,fun c=>mB Z (lC xs) c/\¬R c,rfl,t g (.inl x),fun c ax=>⟨t c (.inr ax),fun _ O=>ax.2 (by rw[O];exact he.R k g F x)⟩,xL (fun b o h=>⟨DJ b o h,rfl⟩) _ _ cR,fun _=>⟨rfl,?_,el,?_⟩,?_⟩
   ·rw[hlen];exact Nat.mul_pos (List.length_pos_iff.2 y) L
   ·simp only[shape,f3,f6]
   ·have J:=NU he.trd xs us Q G (by simpa only[gZ]using f);exact Ha (fun b o h=>⟨DJ b o h,rfl⟩) (fun _ _ _=>rfl) _ _ _ us (fun b ae=>⟨ae,fun B=>by obtain⟨bn,jD,_,aM⟩:=ae;exact bq b B _ _ aM⟩) J
  ·have ab:xs=[]:=by
    simp only[jn]at ak;split at ak
    ·exact absurd ⟨_,_,rfl⟩ aM
    ·exact absurd ⟨_,rfl⟩ P
    ·exact ak
   subst ab;simp only[cK,dZ];exact⟨a,cap,J,U,W,.inl trivial⟩
 | .row sz k n,v,j,h,ak,f,l,d=>by
  simp only[jn]at ak;obtain⟨⟨m,hm⟩,⟨xs,el,z,G⟩,L⟩:=ak;have K:wB e k=xs:=by simp[wB,z]
  simp only[aS]at h;obtain⟨⟨ab2,c0,X⟩,eH,n',u,g1,g2,g3⟩:=h;obtain⟨v0,us,q,r,M,V⟩:=aY.own k _ z;simp only at q r M;rw[g1]at q;simp only[dv,hN]at q;obtain⟨rfl,rfl⟩:=q;have N:=g3 rfl;subst N;obtain⟨E,H,r8⟩:=V xs rfl;simp only at E H;have F:k∈rw:=l k (by simp[fV]);rcases r.2 with⟨A,_⟩|⟨g,cap,cur,f1,f2,f3,f4,f5,f6,f7⟩
  ·rw[A]at X;cases X
  have D:v.ownBlock=some g:=by rw[f1];rfl
  have x:nF Z k g:=⟨_,_,g1,D⟩;have t:∀b,(nF Z k b\/(mB Z (lC (wB e k)) b/\¬R b))->μ.tr (.loc κ) j b:=fun b ae=>by simpa using d 0 (fun b=>nF Z k b\/(mB Z (lC (wB e k)) b/\¬R b)) (by simp[fi]) b ae
  rw[K]at t;simp only[fold,K];refine PE (tag:= .no) ?_ (x5 xs);simp only[dZ];refine⟨some ⟨g,0,none⟩,cap,by rw[nH,E];exact f1,by rw[nH,E];exact f4,⟨f5,by rw[nH,E];exact eH⟩,?_⟩;by_cases y:xs=[]
  ·left;rw[y];rfl
  ·right;have hlen:=r9 H;refine⟨g,0,us,fun c=>mB Z (lC xs) c/\¬R c,rfl,t g (.inl x),fun c ax=>⟨t c (.inr ax),fun _ O=>ax.2 (by rw[O];exact he.R k g F x)⟩,Ia us 0 fun i u hi=>?_,fun _=>⟨rfl,?_,el,?_⟩,?_⟩
   ·have Y:i<us.length:=(fy.1 hi).1;refine⟨yU k F _ z g x _ (by simp only;rw[r.1]at Y;omega),?_⟩;have:=r.cells D i u hi;rwa[pt]at this
   ·rw[hlen];exact Nat.mul_pos (List.length_pos_iff.2 y) L
   ·simp only[shape,f3,f6]
   ·have J:=NU he.trd xs us H G (by simpa only[gZ,K]using f);exact Ha (fun b o h=>⟨DJ b o h,rfl⟩) (fun _ _ _=>rfl) _ _ _ us (fun b ae=>⟨ae,fun B=>by obtain⟨bn,jD,_,aM⟩:=ae;exact bq b B _ _ aM⟩) J
 | .agg cs,v,j,h,ak,f,l,d=>by simp only[aS,jn,gZ,fV,fi,fold]at h ak f l d⊢;obtain⟨us,J,U⟩:=h;exact⟨us,J,Uk cs _ j U ak f l d⟩
 | .tuple cs,v,j,h,ak,f,l,d=>by simp only[aS,jn,gZ,fV,fi,fold]at h ak f l d⊢;obtain⟨us,J,U⟩:=h;exact⟨us,J,Ul cs _ j U ak f l d⟩
 | .junk,_,_,_,ak,_,_,_=>by simp[jn]at ak
 | .ptr _ _,_,_,_,ak,_,_,_=>by simp[jn]at ak
 | .eptr _,_,_,_,ak,_,_,_=>by simp[jn]at ak
 | .iface _ _,_,_,_,ak,_,_,_=>by simp[jn]at ak
 | .nilp,_,_,_,ak,_,_,_=>by simp[jn]at ak
 | .func _ _,_,_,_,ak,_,_,_=>by simp[jn]at ak
 | .gmap _,_,_,_,ak,_,_,_=>by simp[jn]at ak
 | .rptr _ _ _ _ _,_,_,_,ak,_,_,_=>by simp[jn]at ak
 | .hdm _ _,_,_,_,ak,_,_,_=>by simp[jn]at ak
 | .hdi _ _ _,_,_,_,ak,_,_,_=>by simp[jn]at ak
 | .cst _,_,_,_,ak,_,_,_=>by simp[jn]at ak
theorem Uk:∀(cs:List ah) (us:List Value) (j:Nat),cW w Z cs us->tv e cs->(qB e cs).Nodup->(∀k∈o5 cs,k∈rw)->(∀i S,(o7 Z R e cs)[i]? =some S->∀b,S b->μ.tr (.loc κ) (j+i) b)->cW w μ (vv κ e j cs) us
 |[],us,j,h,_,_,_,_=>by simpa only[cW,vv]using h
 |c::cs,us,j,h,ak,m,f,d=>by
  simp only[cW,tv,qB,o5,o7,vv]at h ak m f d⊢;obtain⟨u,l,J,⟨U,n⟩,o⟩:=h;have g:=ss.1 m;refine⟨u,l,J,⟨Lu c u j U ak.1 g.1 (fun k a=>f k (sr _ a)) (fun i S hi b ae=>d i S (by rw[rB (fy.1 hi).1];exact hi) b ae),n⟩,
   Uk cs l _ o ak.2 g.2.1 (fun k a=>f k (List.mem_append_right _ a)) (fun i S hi b ae=>?_)⟩
  have:=d (vo c+i) S (by rw[List.getElem?_append_right (by rw[Ae];omega),Ae];simpa using hi) b ae;rwa[<-Nat.add_assoc]at this
theorem Ul:∀(cs:List ah) (us:List Value) (j:Nat),cH w Z cs us->tv e cs->(qB e cs).Nodup->(∀k∈o5 cs,k∈rw)->(∀i S,(o7 Z R e cs)[i]? =some S->∀b,S b->μ.tr (.loc κ) (j+i) b)->cH w μ (vv κ e j cs) us
 |[],us,j,h,_,_,_,_=>by simpa only[cH,vv]using h
 |c::cs,us,j,h,ak,m,f,d=>by
  simp only[cH,tv,qB,o5,o7,vv]at h ak m f d⊢;obtain⟨u,l,J,U,n⟩:=h;have g:=ss.1 m;refine⟨u,l,J,Lu c u j U ak.1 g.1 (fun k a=>f k (sr _ a)) (fun i S hi b ae=>d i S (by rw[rB (fy.1 hi).1];exact hi) b ae),
   Ul cs l _ n ak.2 g.2.1 (fun k a=>f k (List.mem_append_right _ a)) (fun i S hi b ae=>?_)⟩
  have:=d (vo c+i) S (by rw[List.getElem?_append_right (by rw[Ae];omega),Ae];simpa using hi) b ae;rwa[<-Nat.add_assoc]at this
end
end
end
section
open Go Go.RowKit
mutual
theorem alg:∀p:ah,ma p->∀x∈hp p,x.1≠uS
 | .slice _ tag xs,ak,x,a=>by cases tag<;>simp only[hp,ma]at ak a<;>simp at a;subst a;exact ak
 | .agg cs,ak,x,a=>by simp only[hp,ma]at ak a;exact Iz cs ak x a
 | .int _ _,_,_,a=>by simp[hp]at a
 | .bool _,_,_,a=>by simp[hp]at a
 | .str _,_,_,a=>by simp[hp]at a
 | .junk,_,_,a=>by simp[hp]at a
 | .ptr _ _,_,_,a=>by simp[hp]at a
 | .eptr _,_,_,a=>by simp[hp]at a
 | .iface _ _,_,_,a=>by simp[hp]at a
 | .nilp,_,_,a=>by simp[hp]at a
 | .tuple _,_,_,a=>by simp[hp]at a
 | .func _ _,_,_,a=>by simp[hp]at a
 | .gmap _,_,_,a=>by simp[hp]at a
 | .row _ _ _,_,_,a=>by simp[hp]at a
 | .rptr _ _ _ _ _,_,_,a=>by simp[hp]at a
 | .hdm _ _,_,_,a=>by simp[hp]at a
 | .hdi _ _ _,_,_,a=>by simp[hp]at a
 | .cst _,_,_,a=>by simp[hp]at a
theorem Iz:∀p:List ah,uN p->∀x∈lC p,x.1≠uS
 |[],_,x,a=>by simp[lC]at a
 |c::cs,ak,x,a=>by
  simp only[lC,uN,kr]at ak a;rcases a with a|a
  ·exact alg c ak.1 x a
  ·exact Iz cs ak.2 x a
end
mutual
theorem XS{e:List (aB×ec)}:∀p:ah,jn e p->∀x∈gZ e p,x.1≠uS
 | .slice _ tag xs,ak,x,a=>by
  cases tag with
  |own k=>simp only[gZ,jn]at ak a;exact Iz xs ak.2.2.1 x a
  |tr k i=>simp only[gZ,jn]at ak a;simp at a;subst a;exact ak
  |no=>simp[gZ]at a
  |nil=>simp[gZ]at a
  |lo k=>simp[gZ]at a
 | .row _ k _,ak,x,a=>by simp only[gZ,jn]at ak a;obtain⟨_,⟨xs,el,c,b⟩,_⟩:=ak;rw[show wB e k=xs from by simp[wB,c]]at a;exact Iz xs b x a
 | .agg cs,ak,x,a=>by simp only[gZ,jn]at ak a;exact NR cs ak x a
 | .tuple cs,ak,x,a=>by simp only[gZ,jn]at ak a;exact NR cs ak x a
 | .int _ _,_,_,a=>by simp[gZ]at a
 | .bool _,_,_,a=>by simp[gZ]at a
 | .str _,_,_,a=>by simp[gZ]at a
 | .junk,_,_,a=>by simp[gZ]at a
 | .ptr _ _,_,_,a=>by simp[gZ]at a
 | .eptr _,_,_,a=>by simp[gZ]at a
 | .iface _ _,_,_,a=>by simp[gZ]at a
 | .nilp,_,_,a=>by simp[gZ]at a
 | .func _ _,_,_,a=>by simp[gZ]at a
 | .gmap _,_,_,a=>by simp[gZ]at a
 | .rptr _ _ _ _ _,_,_,a=>by simp[gZ]at a
 | .hdm _ _,_,_,a=>by simp[gZ]at a
 | .hdi _ _ _,_,_,a=>by simp[gZ]at a
 | .cst _,_,_,a=>by simp[gZ]at a
theorem NR{e:List (aB×ec)}:∀p:List ah,tv e p->∀x∈qB e p,x.1≠uS
 |[],_,x,a=>by simp[qB]at a
 |c::cs,ak,x,a=>by
  simp only[qB,tv,kr]at ak a;rcases a with a|a
  ·exact XS c ak.1 x a
  ·exact NR cs ak.2 x a
end
mutual
theorem XT{e:List (aB×ec)}:∀p:ah,jn e p->∀k∈fV p,∃own,look k e=some own
 | .row sz k n,ak,d,b=>by simp only[fV,jn]at ak b;obtain⟨_,⟨xs,el,c,f⟩,_⟩:=ak;simp at b;subst b;exact⟨_,c⟩
 | .agg cs,ak,x,a=>by simp only[fV,jn]at ak a;exact NS cs ak x a
 | .tuple cs,ak,x,a=>by simp only[fV,jn]at ak a;exact NS cs ak x a
 | .slice sz tag xs,ak,d,b=>by
  cases tag with
  |own k=>simp only[fV,jn]at ak b;obtain⟨_,⟨el,c⟩,_⟩:=ak;simp at b;subst b;exact⟨_,c⟩
  |tr k i=>simp[fV]at b
  |no=>simp[fV]at b
  |nil=>simp[fV]at b
  |lo k=>simp[fV]at b
 | .int _ _,_,_,a=>by simp[fV]at a
 | .bool _,_,_,a=>by simp[fV]at a
 | .str _,_,_,a=>by simp[fV]at a
 | .junk,_,_,a=>by simp[fV]at a
 | .ptr _ _,_,_,a=>by simp[fV]at a
 | .eptr _,_,_,a=>by simp[fV]at a
 | .iface _ _,_,_,a=>by simp[fV]at a
 | .nilp,_,_,a=>by simp[fV]at a
 | .func _ _,_,_,a=>by simp[fV]at a
 | .gmap _,_,_,a=>by simp[fV]at a
 | .rptr _ _ _ _ _,_,_,a=>by simp[fV]at a
 | .hdm _ _,_,_,a=>by simp[fV]at a
 | .hdi _ _ _,_,_,a=>by simp[fV]at a
 | .cst _,_,_,a=>by simp[fV]at a
theorem NS{e:List (aB×ec)}:∀p:List ah,tv e p->∀k∈o5 p,∃own,look k e=some own
 |[],_,x,a=>by simp[o5]at a
 |c::cs,ak,x,a=>by
  simp only[o5,tv,kr]at ak a;rcases a with a|a
  ·exact XT c ak.1 x a
  ·exact NS cs ak.2 x a
end
end
end Go.Pv
