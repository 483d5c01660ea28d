/- Terms written and read back. -/
import Derived.Test.YtlnndmgfngfeiaaGreatDoorProg
import Derived.Lib.ItoaNum
import Derived.Lib.AtoiAll
import Derived.Test.YtlnndmgfngfeiaaGreatDoorZp4
set_option linter.all false
set_option maxHeartbeats 4000000
set_option maxRecDepth 4000
open Bool renaming and_eq_true->bM,not_eq_true'->q0
open Decidable renaming not_not->aiY
open Go renaming Program->bK
open Go.IntKind renaming i64->kD
open Go.IntWalk renaming i64_in->ng
open Go.Proofs.Tryz renaming prog->aQ
open List renaming all_eq_true->jy,append_assoc->kE,cons_append->dm,drop_eq_getElem_cons->pd,getElem?_eq_getElem->cF,getElem?_eq_some_iff->e3,length_cons->lx,map_cons->gY,mem_append->hv,mem_append_right->j3,mem_cons->gp,mem_map->lZ,mem_of_getElem?->fJ,nodup_append->qb,take_add_one->k3,take_append_drop->q3,take_length->j4
open List.Pairwise renaming map->aeT
open List.cons renaming injEq->Ai
open Nat renaming le_refl->cq,lt_or_ge->ly
open Option renaming isSome_iff_exists->e5
open Option.some renaming inj->gq
open UInt8 renaming ofNat->nL
open _root_ renaming False->cZ,Option->aT,UInt8->al,decide_eq_true_eq->fK,if_neg->bq
namespace Go.Pv
section
open Go Go.RowKit
def vi(N:List (aC×Nat))(l:List (Nat×ae)):List (Nat×ae):=l.map fun x=>(x.1,iY N x.2)
def tP(N:List (aC×Nat))(l:List (aC×List ae)):List (aC×List ae):=l.map fun x=>(x.1,nW N x.2)
def E1:List (aC×List ae)->Prop
 |[]=>True
 |(_,cs)::r=>gn cs=true/\E1 r
theorem Js:∀{l:List (aC×List ae)} {k:aC} {cs:List ae},E1 l->look k l=some cs->gn cs=true
 |[],_,_,_,h=>by simp[look]at h
 |(j,p)::r,k,cs,h,aa=>by
  simp only[look]at aa;split at aa
  ·cases aa;exact h.1
  ·exact Js h.2 aa
def qS(st:aS)(s:Nat):ae:=match get s st.t with
 | .ptr k 0=>(match look k st.b with|some cs=>.agg cs|none=>.junk)
 |p=>p
def CC(base n:Nat):List aC:=(List.range' base n).map .obj
def tz(st:aS)(p:ae)(base:Nat)(ε:Nat->Nat):aS:=⟨vi (tn p) st.t,tP (tn p) st.b,dc ε base (bC p),st.n,CC base (bO (bC p))++st.o⟩
def tA(st:aS)(s base:Nat)(ε:Nat->Nat):aS:=match get s st.t with
 | .ptr k 0=>(match look k st.b with|some cs=>{tz st (.agg cs) base ε with b:=cT k (gf base (bz cs)) (tP (tn (.agg cs)) st.b)}|none=>tz st .junk base ε)
 |p=>{tz st p base ε with t:=put s (eh base (bC p)) (vi (tn p) st.t)}
def CB(st:aS)(p:ae)(base:Nat):Prop:=dU p/\(tn p).Nodup/\(∀m,.obj m∈st.o->m<base)/\E1 st.b
theorem Qd{base n:Nat}{k:aC}:k∈CC base n↔∃m,k= .obj m/\base<=m/\m<base+n:=by simp only[CC,lZ,List.mem_range'_1];exact⟨fun⟨m,h,e⟩=>⟨m,e.symm,h⟩,fun⟨m,e,h⟩=>⟨m,h,e.symm⟩⟩
theorem TI(N:List (aC×Nat))(p:ae):(match iY N p with| .hdm _ _=>false| .hdi _ _ _=>false|_=>true)=true:=by
 cases p with
 |slice sz tag xs=>
  cases tag with
  |tr k j=>by_cases e:(k,j)∈N<;>simp[iY,e]
  |lo k=>by_cases e:(k,0)∈N<;>simp[iY,e]
  |_=>cases xs<;>rfl
 |_=>rfl
theorem abZ(N:List (aC×Nat)):∀cs,gn (nW N cs)=true
 |[]=>rfl
 |c::cs=>by have:=TI N c;simp only[nW];cases h:iY N c<;>simp_all[gn]
theorem acJ{C:ek}{st:aS}{a:Act}{w:World}{ν:aP}(h:bX C st a w ν){k:aC}{cs cs':List ae}(aa:look k st.b=some cs)(aU:gn cs=true)
  (hr:∀bl us el,ν.bx k=some bl->w.heap[bl]? =some (.cells us el)->cl w ν cs us.toList->cl w ν cs' us.toList):bX C {st with b:=cT k cs' st.b} a w ν:=by
 have aq:∀j,(look j (cT k cs' st.b)).isSome->(look j st.b).isSome:=fun j aw=>by
  rw[iQ]at aw;split at aw
  ·rename_i e;subst e;simp[aa]
  ·exact aw
 refine⟨⟨h.good.alt,fun j c1 aw=>?_,fun j eo bl I J=>h.good.inj j eo bl (aq j I) (aq eo J),h.good.own,h.good.oinj,fun g j n v bl I J=>h.good.obx g j n v bl I (aq j J),h.good.one,fun bl aD=>h.good.otr bl (aD.imp (fun⟨j,aj,aJ⟩=>⟨j,aq j aj,aJ⟩) id)⟩,h.fr,h.defers,h.size,h.slot,h.new,h.ext,h.obk⟩;rw[iQ]at aw;split at aw
 ·rename_i e;subst e;cases aw;obtain⟨bl,us,el,g1,g2,g3,g4,g5⟩:=h.good.box k cs aa;rw[na aU]at g5;rw[nD aU]at g4;have g6:=hr bl us _ g1 g4 g5;have o5:=tq g6;exact⟨bl,us,el,g1,g2,g3,by rw[nD o5];exact g4,by rw[na o5];exact g6⟩
 ·exact h.good.box j c1 aw
theorem Sn{C:ek}{st:aS}{a:Act}{w:World}{ν:aP}(h:bX C st a w ν)(hex:C.ex=[])(bL:∀b o,C.ν0.A b o->b<C.w0.heap.size){p:ae}{v:Value}{base:Nat}(aU:aH w ν p v)(aE:CB st p base):
  ∃ε ν',bX C (tz st p base ε) a w ν'/\aH w ν' (eh base (bC p)) v/\ν'.bx=ν.bx:=by
 obtain⟨cN,c2,c3,c4⟩:=aE;obtain⟨ε,ω,CG,tr,adL⟩:=Kj (bC p) _ v base (ES h.fr.trd p v aU cN c2);have ku:∀m,base<=m->fresh st.n st.o (.obj m):=fun m hm=>⟨trivial,fun aa=>by have:=c3 m aa;omega⟩;have Ie:∀m x,ω m=some x->ν.bx (.obj m)=none/\ν.ow (.obj m)=none/\∀j b,¬ν.tr (.obj m) j b:=fun m x hm=>h.new _ (ku m ((CG.dom m).1 (by rw[hm];rfl)).1);have iO:∀m x,ω m=some x->(kg ν (tn p) ω).ow (.obj m)=some x:=fun m x hm=>by simp only[kg,hm]
 have hold:∀k n u,ν.ow k=some (n,u)->(kg ν (tn p) ω).ow k=some (n,u):=fun k n u aa=>by
  cases k with
  |loc m=>exact aa
  |obj m=>
   simp only[kg];cases hm:ω m with
   |none=>exact aa
   |some x=>rw[(Ie m x hm).2.1]at aa;cases aa
 have j8:∀k n u,(kg ν (tn p) ω).ow k=some (n,u)->ν.ow k=some (n,u)\/ ∃m,k= .obj m/\ω m=some (n,u):=fun k n u aa=>by
  cases k with
  |loc m=>exact .inl aa
  |obj m=>
   simp only[kg]at aa;cases hm:ω m with
   |none=>rw[hm]at aa;exact .inl aa
   |some x=>rw[hm]at aa;exact .inr ⟨m,rfl,by rw[<-aa];exact hm⟩
 have np:∀bl,ka ν (tn p) bl->C.w0.heap.size<=bl:=fun bl ⟨k,j,aj,aJ⟩=>by have aa:k≠dv:=Qw p cN _ aj;exact(h.fr.trb k j bl aJ).1.resolve_left aa
 have fu:∀g o,look g (dc ε base (bC p))=some o->∃m,g= .obj m/\base<=m/\m<base+bO (bC p)/\∃u us,ω m=some (o.n,u)/\w.ownsRow 0 o.el o.sz u o.n us/\∃xs,o.xs=some xs/\xs.length=o.n/\cC w (kg ν (tn p) ω) o.sz xs us:=fun g o aR=>by
  obtain⟨m,e,fc,cv⟩:=td ε _ base g o aR;obtain⟨u,us,bR,cA,dE⟩:=tr (kg ν (tn p) ω) iO g o aR;subst e;refine⟨m,rfl,fc,cv,u,us,?_,cA,dE⟩;rcases j8 _ _ _ bR with q|⟨m',q,q'⟩
  ·rw[(h.new _ (ku m fc)).2.1]at q;cases q
  ·cases q;exact q'
 have ha:∀k cs,look k (tP (tn p) st.b)=some cs->∃c1,look k st.b=some c1/\cs=nW (tn p) c1:=fun k cs aa=>by
  rw[tP,EA]at aa;cases aG:look k st.b with
  |none=>rw[aG]at aa;cases aa
  |some c1=>rw[aG]at aa;cases aa;exact⟨c1,rfl,rfl⟩
 have pI:∀k,(look k (tP (tn p) st.b)).isSome->(look k st.b).isSome:=fun k aa=>by obtain⟨cs,cO⟩:=e5.1 aa;obtain⟨c1,e,_⟩:=ha k cs cO;simp[e]
 have uv:∀g n v bl,(look g (dc ε base (bC p))).isSome->(kg ν (tn p) ω).ow g=some (n,v)->v.ownBlock=some bl->ka ν (tn p) bl:=fun g n v bl I J ao=>by obtain⟨o,ak⟩:=e5.1 I;obtain⟨m,rfl,fc,cv,u,us,bR,cA,dE⟩:=fu g o ak;rw[iO m _ bR]at J;cases J;obtain⟨gH,aj,aJ⟩:=CG.blk m _ _ bR;rw[ao]at aj;cases aj;exact aJ
 refine⟨ε,kg ν (tn p) ω,⟨⟨fun bl o aW=>h.good.alt bl o aW.1,fun k cs aa=>?_,fun k bb bl I J=>h.good.inj k bb bl (pI k I) (pI bb J),fun g o aR=>?_,fun g eM n n' v v' bl I J ao aO bp cj=>?_,fun g k n v bl I J ao aO bp=>?_,fun k=>?_,fun bl aD k j ah=>?_⟩,
  ⟨h.fr.os,h.fr.tape,h.fr.output,h.fr.size,h.fr.block,fun b o aW=>⟨⟨(h.fr.keep b o aW).1,fun ah=>?_⟩,(h.fr.keep b o aW).2⟩,fun b o aW=>h.fr.fresh b o aW.1,h.fr.obj,h.fr.obn,fun m n u hm=>?_,h.fr.obr,fun k j bb eo b I J=>h.fr.trd k j bb eo b I.1 J.1,fun k j b ah=>h.fr.trb k j b ah.1,fun k j b ah=>⟨(h.fr.trn k j b ah.1).1,?_⟩,h.fr.sh,h.fr.nrow⟩,h.defers,h.size,fun i=>?_,fun k aa=>?_,fun x af=>(by rw[hex]at af;cases af),fun m hm aL=>h.obk m hm (qu (cq _) (fun _ h=>j3 _ h) aL)⟩,adL _ iO,rfl⟩
 ·obtain⟨c1,aj,rfl⟩:=ha k cs aa;obtain⟨bl,us,el,g1,g2,g3,g4,g5⟩:=h.good.box k c1 aj;have hD:=Js c4 aj;rw[na hD]at g5;rw[nD hD]at g4;have g6:=F2 (N:=tn p) (ω:=ω) h.fr.trd c1 _ g5;have o5:=tq g6;exact⟨bl,us,el,g1,g2,fun o aW=>g3 o aW.1,by rw[nD o5];exact g4,by rw[na o5];exact g6⟩
 ·obtain⟨m,rfl,fc,cv,u,us,bR,cA,xs,dE,dM,cP⟩:=fu g o aR;obtain⟨bl,aj,aJ⟩:=CG.blk m _ _ bR;have gQ:∀gH,u.ownBlock=some gH->∀j,¬(kg ν (tn p) ω).A gH j:=fun gH ah j aW=>by rw[aj]at ah;cases ah;exact aW.2 aJ
  exact⟨u,us,iO m _ bR,cA,fun gH ah=>⟨.inr (by rw[aj]at ah;cases ah;exact np _ aJ),fun j aW=>absurd aW (gQ gH ah j)⟩,fun xs' af=>by rw[dE]at af;cases af;exact⟨dM,cP,gQ⟩⟩
 ·obtain⟨o,ak⟩:=e5.1 I;obtain⟨o',gR⟩:=e5.1 J;obtain⟨m,rfl,_,_,u,us,bR,_⟩:=fu g o ak;obtain⟨m',rfl,_,_,eA,br,Q3,_⟩:=fu eM o' gR;rw[iO m _ bR]at ao;cases ao;rw[iO m' _ Q3]at aO;cases aO;rw[CG.inj m m' _ _ _ _ bl bR Q3 bp cj]
 ·obtain⟨eU,Io,_,aJ⟩:=uv g n v bl I ao aO;exact h.good.otr bl (.inl ⟨k,pI k J,bp⟩) eU Io aJ
 ·rcases h.good.one k with I|I
  ·exact .inl I
  ·cases aa:(kg ν (tn p) ω).ow k with
   |none=>exact .inr rfl
   |some x=>
    rcases j8 k x.1 x.2 aa with J|⟨m,rfl,J⟩
    ·rw[I]at J;cases J
    ·exact .inl (Ie m _ J).1
 ·rcases aD with⟨bb,aj,aJ⟩|⟨g,n,v,aj,aJ,bs⟩
  ·exact h.good.otr bl (.inl ⟨bb,pI bb aj,aJ⟩) k j ah.1
  ·obtain⟨eU,Io,f1,f2⟩:=uv g n v bl aj aJ bs;obtain⟨rfl,rfl⟩:=h.fr.trd k j eU Io bl ah.1 f2;exact ah.2 f1
 ·have:=np b ah;have:=bL b o aW;omega
 ·obtain⟨n',eA,aj,aJ⟩:=h.fr.row m n u hm;exact⟨n',eA,hold _ _ _ aj,aJ⟩
 ·have e:=(h.fr.trn k j b ah.1).2;cases aa:(kg ν (tn p) ω).ow k with
  |none=>rfl
  |some x=>
   rcases j8 k x.1 x.2 aa with J|⟨m,rfl,J⟩
   ·rw[e]at J;cases J
   ·exact absurd ah.1 ((Ie m _ J).2.2 j b)
 ·show aH w (kg ν (tn p) ω) (get i (vi (tn p) st.t)) _;rw[vi,G9 (by simp[iY])];exact F1 h.fr.trd _ _ (h.slot i)
 ·obtain⟨bR,cA⟩:=aa;have dE:k∉CC base (bO (bC p))/\k∉st.o:=by simp only[tz,hv,not_or]at cA;exact cA
  obtain⟨m1,m2,m3⟩:=h.new k ⟨bR,dE.2⟩;refine⟨m1,?_,fun j b ah=>m3 j b ah.1⟩;cases aa:(kg ν (tn p) ω).ow k with
  |none=>rfl
  |some x=>
   rcases j8 k x.1 x.2 aa with J|⟨m,rfl,J⟩
   ·rw[m2]at J;cases J
   ·exact absurd (Qd.2 ⟨m,rfl,(CG.dom m).1 (by rw[J];rfl)⟩) dE.1
theorem adE{C:ek}{st:aS}{a:Act}{w:World}{ν:aP}(h:bX C st a w ν)(hex:C.ex=[])(bL:∀b o,C.ν0.A b o->b<C.w0.heap.size){s base:Nat}(aE:CB st (qS st s) base):∃ε ν',bX C (tA st s base ε) a w ν':=by
 have Sa:qS st s=get s st.t->∃ε ν',bX C {tz st (get s st.t) base ε with t:=put s (eh base (bC (get s st.t))) (vi (tn (get s st.t)) st.t)} a w ν':=fun e=>by rw[e]at aE;obtain⟨ε,ν',ff,eW,_⟩:=Sn h hex bL (h.slot s) aE;exact⟨ε,ν',Ff ff eW⟩
 cases aa:get s st.t with
 |ptr k off=>
  cases off with
  |zero=>
   cases aG:look k st.b with
   |none=>simp only[qS,aa,aG]at aE;exact absurd aE.1 (by simp[dU])
   |some cs=>
    have aj:qS st s= .agg cs:=by simp only[qS,aa,aG]
    have aJ:∀ε,tA st s base ε={tz st (.agg cs) base ε with b:=cT k (gf base (bz cs)) (tP (tn (.agg cs)) st.b)}:=fun ε=>by simp only[tA,aa,aG]
    rw[aj]at aE;simp only[aJ];obtain⟨bl,us,el,g1,g2,g3,g4,g5⟩:=h.good.box k cs aG;have hD:=Js aE.2.2.2 aG;rw[na hD]at g5;rw[nD hD]at g4;obtain⟨ε,ν',ff,eW,mw⟩:=Sn h hex bL (p:= .agg cs) (v:= .agg us) (by simp only[aH];exact⟨us,rfl,g5⟩) aE;have hl:look k (tP (tn (.agg cs)) st.b)=some (nW (tn (.agg cs)) cs):=by rw[tP,EA,aG];rfl
    refine⟨ε,ν',acJ ff hl (abZ _ _) fun TM qV UT f1 f2 _=>?_⟩;rw[mw,g1]at f1;cases f1;rw[g4]at f2;cases f2;simp only[eh,bC,aH]at eW;obtain⟨aiU,bs,ch⟩:=eW;cases bs;exact ch
  |succ off=>
   have aj:qS st s=get s st.t:=by simp only[qS,aa]
   have aJ:∀ε,tA st s base ε={tz st (get s st.t) base ε with t:=put s (eh base (bC (get s st.t))) (vi (tn (get s st.t)) st.t)}:=fun ε=>by simp only[tA,aa]
   simp only[aJ];exact Sa aj
 |_=>
  have aj:qS st s=get s st.t:=by simp only[qS,aa]
  have aJ:∀ε,tA st s base ε={tz st (get s st.t) base ε with t:=put s (eh base (bC (get s st.t))) (vi (tn (get s st.t)) st.t)}:=fun ε=>by simp only[tA,aa]
  simp only[aJ];exact Sa aj
end
section
open Go Go.RowKit
inductive hQ where
 |of (c:C)
 |sq (c:C) (d:hQ)
 |sl (d:hQ)
 |th (s:Nat) (d:hQ)
def n5(P:bK)(ob:List aC):hQ->(Exit->aS->Prop)->aS->Prop
 | .of c,Q,st=>ct P ob c Q st
 | .sq c d,Q,st=>ct P ob c (fun e st'=>match e with| .normal=>n5 P ob d Q st'|e=>Q e st') st
 | .sl d,Q,st=> ∃st',hH ob st st'/\Fw st'/\n5 P ob d Q (tu st')
 | .th s d,Q,st=> ∃st' base,hH ob st st'/\CB st' (qS st' s) base/\∀ε,n5 P ob d Q (tA st' s base ε)
def w8(N:Nat)(aZ:List (Nat×cJ)):hQ->Code->Bool
 | .of c,code=>fZ N aZ c code
 | .sq c d,.seq x y=>fZ N aZ c x&&w8 N aZ d y
 | .sl d,code=>w8 N aZ d code
 | .th _ d,code=>w8 N aZ d code
 |_,_=>false
theorem Dq{P:bK}(hm:P.follows .mixedOrders=true){aZ:List (Nat×cJ)}(aD:ez P aZ=true){X:ek}(hex:X.ex=[])(bL:∀b o,X.ν0.A b o->b<X.w0.heap.size):∀(d:hQ) (code:Code) (Q:Exit->aS->Prop) (st:aS),w8 X.N aZ d code=true->n5 P X.ob d Q st->FN P X code Q st
 | .of c,code,Q,st,ak,he=>nn hm aD c code Q st ak he
 | .sq c d,code,Q,st,ak,he=>by
  cases code<;>try(simp[w8]at ak;done)
  rename_i qq kq;simp only[w8,bM]at ak;intro a w ν hr;refine wp_seq ?_;refine wp_mono (nn hm aD c qq _ st ak.1 he a w ν hr) fun e bU w' bI=>?_;obtain⟨st',ν',bn,bW⟩:=bI;cases e with
  |normal=>exact Dq hm aD hex bL d kq Q st' ak.2 bn bU w' ν' bW
  |_=>exact⟨st',ν',bn,bW⟩
 | .sl d,code,Q,st,ak,he=>fun a w ν hr=>by obtain⟨st',I,J,ao⟩:=he;exact Dq hm aD hex bL d code Q _ ak ao a w _ (ac6 (hr.weaker I) hex J)
 | .th s d,code,Q,st,ak,he=>fun a w ν hr=>by obtain⟨st',base,hw,I,J⟩:=he;obtain⟨ε,ν',bW⟩:=adE (hr.weaker hw) hex bL I;exact Dq hm aD hex bL d code Q _ ak (J ε) a w ν' bW
def Dz(aZ:List (Nat×cJ))(d:hQ)(di:List cr)(I8:Nat)(fn:Func):Bool:=
 match fn.body with
 |some code=>w8 fn.ntmps aZ d code&&ox aZ di fn.results.toList&& !(fn.name== "runtime.NumGoroutine")&&decide (I8<=fn.ntmps)
 |none=>false
theorem b7.mkD{P:bK}(hm:P.follows .mixedOrders=true){aZ:List (Nat×cJ)}(aD:ez P aZ=true){f:FuncId}{fn:Func}(aL:P.funcs[f]? =some fn){d:hQ}{di:List cr}{n:Nat}(dS:Dz aZ d di n fn=true)
  {args:List ae} (aG:args.length<=n) {s:dD} (kx:hd s) {Q:ae->dD->Prop} (he:iZ args->(∀j cs,look j s.b=some cs->gn cs=true->ja cs)->n5 P (ec s) d (cW di s Q) ⟨h6 0 args,s.b,s.e,0,ec s⟩):b7 P f args s Q:=by
 unfold Dz at dS;split at dS
 ·rename_i code ah;simp only[bM,fK,q0]at dS;obtain⟨⟨⟨I,J⟩,ao⟩,aO⟩:=dS;exact b7.ofW aD aL ah ao J (Nat.le_trans aG aO) kx fun X lE j9 hex bL bR cA=>Dq hm aD hex bL d code _ _ (by rw[lE];exact I) (by rw[j9];exact he bR cA)
 ·cases dS
theorem b6.mkD{P:bK}(hm:P.follows .mixedOrders=true){aZ:List (Nat×cJ)}(aD:ez P aZ=true){f:FuncId}{fn:Func}(aL:P.funcs[f]? =some fn){d:hQ}{di:List cr}{n:Nat}(dS:Dz aZ d di n fn=true)
  {args:List ae} (aG:args.length<=n) {r:ae} (hr:kin (fun _=>cZ) r) (he:iZ args->n5 P [] d (cg di r) ⟨h6 0 args,[],[],0,[]⟩):b6 P f args r:=by
 refine b7.mkD hm aD aL dS aG qI fun I _=>?_;rw[<-K5 hr];exact he I
def CR(P:bK)(ob:List aC)(d:hQ)(Q:Exit->aS->Prop)(e:Exit)(st:aS):Prop:=match e with
 | .normal=>n5 P ob d Q st
 |e=>Q e st
section
variable {P:bK} {ob:List aC} {st:aS} {Q:Exit->aS->Prop} {c:C} {d:hQ}
@[simp]theorem aeW:CR P ob d Q .normal st=n5 P ob d Q st:=rfl
@[simp]theorem aeX:CR P ob d Q .ret st=Q .ret st:=rfl
@[simp]theorem aeV{n:Nat}:CR P ob d Q (.exit n) st=Q (.exit n) st:=rfl
@[simp]theorem aga:n5 P ob (.of c) Q st=ct P ob c Q st:=rfl
@[simp]theorem agb:n5 P ob (.sq c d) Q st=ct P ob c (CR P ob d Q) st:=by simp only[n5];congr 1
theorem VL(st':aS)(hw:hH ob st st')(aE:Fw st')(h:n5 P ob d Q (tu st')):n5 P ob (.sl d) Q st:=⟨st',hw,aE,h⟩
theorem VM{s:Nat}(st':aS)(base:Nat)(hw:hH ob st st')(aE:CB st' (qS st' s) base)(h:∀ε,n5 P ob d Q (tA st' s base ε)):n5 P ob (.th s d) Q st:=⟨st',base,hw,aE,h⟩
end
end
section
open Go Go.RowKit
theorem C9:∀(xs ys:List ae),b2 (xs++ys)=b2 xs+b2 ys
 |[],ys=>by simp[b2]
 |x::xs,ys=>by simp[b2,C9 xs ys];omega
theorem Dm:∀(b:Nat) (xs ys:List ae),gf b (xs++ys)=gf b xs++gf (b+b2 xs) ys
 |b,[],ys=>by simp[gf,b2]
 |b,x::xs,ys=>by simp[gf,b2,Dm _ xs ys,Nat.add_assoc]
theorem x2(ε:Nat->Nat):∀(b:Nat) (xs ys:List ae),fG ε b (xs++ys)=fG ε b xs++fG ε (b+b2 xs) ys
 |b,[],ys=>by simp[fG,b2]
 |b,x::xs,ys=>by simp[fG,b2,x2 ε _ xs ys,Nat.add_assoc]
mutual
theorem Dg(ε:Nat->Nat):∀(p:ae) (b m:Nat),b<=m->m<b+bO p->∃o,look (.obj m) (dc ε b p)=some o
 | .slice sz t (x::xs),b,m,I,J=>by
  simp only[bO]at J;simp only[dc,look];by_cases e:b=m
  ·subst e;exact⟨_,if_pos rfl⟩
  ·rw[bq (by simpa using e),mo];by_cases ao:m<b+1+bO x
   ·obtain⟨o,ak⟩:=Dg ε x (b+1) m Ω ao;exact⟨o,by rw[ak]⟩
   ·obtain⟨o,ak⟩:=GI ε xs (b+1+bO x) m Ω Ω;cases af:look (.obj m) (dc ε (b+1) x)with
    |some y=>exact⟨y,rfl⟩
    |none=>exact⟨o,ak⟩
 | .agg cs,b,m,I,J=>by simp only[bO,dc]at J⊢;exact GI ε cs b m I J
 | .slice _ _ [],_,_,I,J=>by simp only[bO]at J;omega
 | .int _ _,_,_,I,J=>by simp only[bO]at J;omega
 | .bool _,_,_,I,J=>by simp only[bO]at J;omega
 | .str _,_,_,I,J=>by simp only[bO]at J;omega
 | .junk,_,_,I,J=>by simp only[bO]at J;omega
 | .ptr _ _,_,_,I,J=>by simp only[bO]at J;omega
 | .eptr _,_,_,I,J=>by simp only[bO]at J;omega
 | .iface _ _,_,_,I,J=>by simp only[bO]at J;omega
 | .nilp,_,_,I,J=>by simp only[bO]at J;omega
 | .tuple _,_,_,I,J=>by simp only[bO]at J;omega
 | .func _ _,_,_,I,J=>by simp only[bO]at J;omega
 | .gmap _,_,_,I,J=>by simp only[bO]at J;omega
 | .row _ _ _,_,_,I,J=>by simp only[bO]at J;omega
 | .rptr _ _ _ _ _,_,_,I,J=>by simp only[bO]at J;omega
 | .hdm _ _,_,_,I,J=>by simp only[bO]at J;omega
 | .hdi _ _ _,_,_,I,J=>by simp only[bO]at J;omega
 | .cst _,_,_,I,J=>by simp only[bO]at J;omega
theorem GI(ε:Nat->Nat):∀(a6:List ae) (b m:Nat),b<=m->m<b+b2 a6->∃o,look (.obj m) (fG ε b a6)=some o
 |[],b,m,I,J=>by simp only[b2]at J;omega
 |x::xs,b,m,I,J=>by
  simp only[b2]at J;simp only[fG];rw[mo];by_cases ao:m<b+bO x
  ·obtain⟨o,ak⟩:=Dg ε x b m I ao;exact⟨o,by rw[ak]⟩
  ·obtain⟨o,ak⟩:=GI ε xs (b+bO x) m Ω Ω;cases af:look (.obj m) (dc ε b x)with
   |some y=>exact⟨y,rfl⟩
   |none=>exact⟨o,ak⟩
end
theorem zq{ε:Nat->Nat}{p:ae}{b m:Nat}(h:m<b\/b+bO p<=m):look (.obj m) (dc ε b p)=none:=by
 cases aa:look (.obj m) (dc ε b p)with
 |none=>rfl
 |some o=>obtain⟨m',e,fc,cv⟩:=td ε p b _ o aa;cases e;omega
theorem P3{ε:Nat->Nat}{p:List ae}{b m:Nat}(h:m<b\/b+b2 p<=m):look (.obj m) (fG ε b p)=none:=by
 cases aa:look (.obj m) (fG ε b p)with
 |none=>rfl
 |some o=>obtain⟨m',e,fc,cv⟩:=rZ ε p b _ o aa;cases e;omega
theorem aaq{ε:Nat->Nat}{l r:List ae}{y:ae}{b:Nat}{k:aC}{o:cV}(h:look k (dc ε (b+b2 l) y)=some o):look k (fG ε b (l++y::r))=some o:=by obtain⟨m,rfl,fc,cv⟩:=td ε y _ k o h;rw[x2,mo,P3 Ω];simp only[fG];rw[mo,h]
theorem aar{ε:Nat->Nat}{l r:List ae}{y y':ae}{b:Nat}(aE:bO y'=bO y){k:aC}{o:cV}(h:look k (fG ε b (l++y'::r))=some o):
  look k (dc ε (b+b2 l) y')=some o\/(look k (dc ε (b+b2 l) y)=none/\look k (dc ε (b+b2 l) y')=none/\look k (fG ε b (l++y::r))=some o):=by
 obtain⟨m,rfl,fc,cv⟩:=rZ ε _ _ k o h;simp only[x2,fG,mo,aE]at h⊢;by_cases I:m<b+b2 l
 ·rw[zq (p:=y) (.inl I),zq (p:=y') (.inl I)];refine .inr ⟨rfl,rfl,?_⟩;rw[zq (p:=y') (.inl I)]at h;exact h
 ·rw[P3 (p:=l) (.inr Ω)]at h⊢;by_cases J:m<b+b2 l+bO y
  ·obtain⟨o',gR⟩:=Dg ε y' (b+b2 l) m Ω Ω;rw[gR]at h⊢;exact .inl h
  ·rw[zq (p:=y) (.inr Ω),zq (p:=y') (.inr Ω)];rw[zq (p:=y') (.inr Ω)]at h;exact .inr ⟨rfl,rfl,h⟩
end
section
open Go Go.RowKit
section
variable (b5:Int->List al)
mutual
def dp:ae->Int->ae×Int
 | .int dA _,k=>(.int dA k,k+1)
 | .str _,k=>(.str (b5 k),k+1)
 | .slice sz t xs,k=>(.slice sz t (bd xs k).1,(bd xs k).2)
 | .agg cs,k=>(.agg (bd cs k).1,(bd cs k).2)
 |p,k=>(p,k)
def bd:List ae->Int->List ae×Int
 |[],k=>([],k)
 |x::xs,k=>((dp x k).1::(bd xs (dp x k).2).1,(bd xs (dp x k).2).2)
end
theorem lQ:∀(xs:List ae) (k:Int),(bd b5 xs k).1.length=xs.length
 |[],k=>by simp[bd]
 |x::xs,k=>by simp[bd,lQ xs]
mutual
theorem Mx:∀(p:ae) (k:Int),bO (dp b5 p k).1=bO p
 | .int _ _,k=>by simp[dp,bO]
 | .str _,k=>by simp[dp,bO]
 | .slice _ _ [],k=>by simp[dp,bd,bO]
 | .slice _ _ (x::xs),k=>by simp[dp,bd,bO,Mx x,rb xs]
 | .agg cs,k=>by simp[dp,bO,rb cs]
 | .bool _,k=>by simp[dp]
 | .junk,k=>by simp[dp]
 | .ptr _ _,k=>by simp[dp]
 | .eptr _,k=>by simp[dp]
 | .iface _ _,k=>by simp[dp]
 | .nilp,k=>by simp[dp]
 | .tuple _,k=>by simp[dp]
 | .func _ _,k=>by simp[dp]
 | .gmap _,k=>by simp[dp]
 | .row _ _ _,k=>by simp[dp]
 | .rptr _ _ _ _ _,k=>by simp[dp]
 | .hdm _ _,k=>by simp[dp]
 | .hdi _ _ _,k=>by simp[dp]
 | .cst _,k=>by simp[dp]
theorem rb:∀(a6:List ae) (k:Int),b2 (bd b5 a6 k).1=b2 a6
 |[],k=>by simp[bd]
 |x::xs,k=>by simp[bd,b2,Mx x,rb xs]
end
theorem EF:∀(xs ys:List ae) (k:Int),bd b5 (xs++ys) k=((bd b5 xs k).1++(bd b5 ys (bd b5 xs k).2).1,(bd b5 ys (bd b5 xs k).2).2)
 |[],ys,k=>by simp[bd]
 |x::xs,ys,k=>by simp[bd,EF xs ys]
mutual
theorem aaC:∀(p:ae) (k:Int),k<=(dp b5 p k).2
 | .int _ _,k=>by simp[dp];omega
 | .str _,k=>by simp[dp];omega
 | .slice _ _ xs,k=>by simp only[dp];exact jJ xs k
 | .agg cs,k=>by simp only[dp];exact jJ cs k
 | .bool _,k=>by simp[dp]
 | .junk,k=>by simp[dp]
 | .ptr _ _,k=>by simp[dp]
 | .eptr _,k=>by simp[dp]
 | .iface _ _,k=>by simp[dp]
 | .nilp,k=>by simp[dp]
 | .tuple _,k=>by simp[dp]
 | .func _ _,k=>by simp[dp]
 | .gmap _,k=>by simp[dp]
 | .row _ _ _,k=>by simp[dp]
 | .rptr _ _ _ _ _,k=>by simp[dp]
 | .hdm _ _,k=>by simp[dp]
 | .hdi _ _ _,k=>by simp[dp]
 | .cst _,k=>by simp[dp]
theorem jJ:∀(a6:List ae) (k:Int),k<=(bd b5 a6 k).2
 |[],k=>by simp[bd]
 |x::xs,k=>by have I:=aaC x k;have J:=jJ xs (dp b5 x k).2;simp only[bd];omega
end
end
end
section
open Go Go.RowKit
inductive hZ:ae->Prop
 |mk (a b:Int) (s:List al) (ys:List ae):(∀y∈ys,hZ y)->hZ (.agg [.int .i64 a,.int .i64 b,.str s,.slice 4 .no ys])
mutual
def si:ae->Nat
 | .slice _ _ xs=>iA xs
 | .agg cs=>1+iA cs
 |_=>0
def iA:List ae->Nat
 |[]=>0
 |x::xs=>si x+iA xs
end
theorem yb:∀{xs:List ae} {x:ae},x∈xs->si x<=iA xs
 |y::ys,x,h=>by
  rcases gp.1 h with rfl|h
  ·simp only[iA];omega
  ·have:=yb h;simp only[iA];omega
theorem hZ.inv{p:ae}(h:hZ p):∃a b s ys,p= .agg [.int .i64 a,.int .i64 b,.str s,.slice 4 .no ys]/\(∀y∈ys,hZ y)/\si p=1+iA ys:=by
 cases h with
 |mk a b s ys h=>exact⟨a,b,s,ys,rfl,h,by simp[si,iA]⟩
theorem Cs{ε:Nat->Nat}{p:ae}{b:Nat}(k:aC):(look k (dc ε b p)).isSome=true↔∃m,k= .obj m/\b<=m/\m<b+bO p:=by
 constructor
 ·intro h;obtain⟨o,ak⟩:=e5.1 h;exact td ε p b k o ak
 ·rintro⟨m,rfl,I,J⟩;obtain⟨o,ak⟩:=Dg ε p b m I J;rw[ak];rfl
def rng(b c:Nat)(k:aC):Prop:= ∃m,k= .obj m/\b<=m/\m<c
theorem zU{b c fY hh:Nat}(I:fY<=b)(J:c<=hh)(k:aC)(h:rng b c k):rng fY hh k:=by obtain⟨m,e,fc,cv⟩:=h;exact⟨m,e,Ω,Ω⟩
mutual
theorem pP:∀(p:ae) (b:Nat),b0 p->kin (rng b (b+bO p)) (eh b p)
 | .slice sz t [],b,h=>by simp[eh,kin,kinL]
 | .slice sz t (x::xs),b,h=>by simp only[eh,kin,bO];exact⟨b,rfl,Ω,Ω⟩
 | .agg cs,b,h=>by simp only[eh,kin,bO,b0]at h⊢;exact Iz cs b h
 | .int _ _,_,_=>by simp[eh,kin]
 | .bool _,_,_=>by simp[eh,kin]
 | .str _,_,_=>by simp[eh,kin]
 | .junk,_,h=>by simp[b0]at h
 | .ptr _ _,_,h=>by simp[b0]at h
 | .eptr _,_,h=>by simp[b0]at h
 | .iface _ _,_,h=>by simp[b0]at h
 | .nilp,_,h=>by simp[b0]at h
 | .tuple _,_,h=>by simp[b0]at h
 | .func _ _,_,h=>by simp[b0]at h
 | .gmap _,_,h=>by simp[b0]at h
 | .row _ _ _,_,h=>by simp[b0]at h
 | .rptr _ _ _ _ _,_,h=>by simp[b0]at h
 | .hdm _ _,_,h=>by simp[b0]at h
 | .hdi _ _ _,_,h=>by simp[b0]at h
 | .cst _,_,h=>by simp[b0]at h
theorem Iz:∀(a6:List ae) (b:Nat),dtL a6->kinL (rng b (b+b2 a6)) (gf b a6)
 |[],b,h=>by simp[gf,kinL]
 |x::xs,b,h=>by simp only[dtL]at h;simp only[gf,kinL,b2];exact⟨nB (zU Ω Ω) _ (pP x b h.1),nA (zU Ω Ω) _ (Iz xs _ h.2)⟩
end
theorem BS{S T:aC->Prop}(h:∀k,S k->T k){o:cV}(aa:cB S o):cB T o:=fun xs af=>nA h _ (aa xs af)
mutual
theorem ID{ε:Nat->Nat}:∀(p:ae) (b:Nat),b0 p->∀k o,look k (dc ε b p)=some o->cB (rng b (b+bO p)) o
 | .slice sz t (x::xs),b,h,k,o,aa=>by
  simp only[b0]at h;simp only[dc,look]at aa;simp only[bO];split at aa
  ·cases aa;intro ys bA;cases bA;have:=Iz (x::xs) (b+1) h.2;simp only[b2,gf]at this;exact nA (zU Ω Ω) _ this
  ·have:=IC (ε:=ε) (x::xs) (b+1) h.2 k o (by simpa only[fG]using aa);simp only[b2]at this;exact BS (zU Ω Ω) this
 | .agg cs,b,h,k,o,aa=>by simp only[dc,bO,b0]at h aa⊢;exact IC cs b h k o aa
 | .slice _ _ [],_,_,_,_,h=>by simp[dc,look]at h
 | .int _ _,_,_,_,_,h=>by simp[dc,look]at h
 | .bool _,_,_,_,_,h=>by simp[dc,look]at h
 | .str _,_,_,_,_,h=>by simp[dc,look]at h
 | .junk,_,h,_,_,_=>by simp[b0]at h
 | .ptr _ _,_,h,_,_,_=>by simp[b0]at h
 | .eptr _,_,h,_,_,_=>by simp[b0]at h
 | .iface _ _,_,h,_,_,_=>by simp[b0]at h
 | .nilp,_,h,_,_,_=>by simp[b0]at h
 | .tuple _,_,h,_,_,_=>by simp[b0]at h
 | .func _ _,_,h,_,_,_=>by simp[b0]at h
 | .gmap _,_,h,_,_,_=>by simp[b0]at h
 | .row _ _ _,_,h,_,_,_=>by simp[b0]at h
 | .rptr _ _ _ _ _,_,h,_,_,_=>by simp[b0]at h
 | .hdm _ _,_,h,_,_,_=>by simp[b0]at h
 | .hdi _ _ _,_,h,_,_,_=>by simp[b0]at h
 | .cst _,_,h,_,_,_=>by simp[b0]at h
theorem IC{ε:Nat->Nat}:∀(a6:List ae) (b:Nat),dtL a6->∀k o,look k (fG ε b a6)=some o->cB (rng b (b+b2 a6)) o
 |[],b,h,k,o,aa=>by simp[fG,look]at aa
 |x::xs,b,h,k,o,aa=>by
  simp only[dtL]at h;simp only[fG,mo]at aa;simp only[b2];cases I:look k (dc ε b x)with
  |some y=>rw[I]at aa;cases aa;exact BS (zU Ω Ω) (ID x b h.1 k _ I)
  |none=>rw[I]at aa;exact BS (zU Ω Ω) (IC xs _ h.2 k _ aa)
end
abbrev dR(ε:Nat->Nat)(b:Nat)(p:ae):dD:=⟨[],dc ε b p⟩
theorem Ax{ε:Nat->Nat}{b:Nat}{p:ae}(k:aC):au (dR ε b p) k↔rng b (b+bO p) k:=by unfold au rng;rw[Cs];simp[look]
theorem K8(ε:Nat->Nat)(b:Nat)(p:ae):hd (dR ε b p):=by
 refine⟨fun m=>by simp[look],fun m=>?_⟩;cases h:look (.loc m) (dc ε b p)with
 |none=>rfl
 |some o=>obtain⟨m',e,_⟩:=td ε p b _ o h;cases e
theorem nR{ε:Nat->Nat}{b:Nat}{p:ae}(h:b0 p):h8 (dR ε b p):=⟨K8 ε b p,fun k cs aa=>by simp[look]at aa,fun k o aa=>BS (fun k aa=>(Ax k).2 aa) (ID p b h k o aa)⟩
theorem qk{ε:Nat->Nat}{b:Nat}{p q:ae}(h:bO q=bO p):Same (dR ε b p) (dR ε b q):=⟨fun k=>rfl,fun k=>by rw[Bool.eq_iff_iff,Cs,Cs,h]⟩
theorem K7{ε:Nat->Nat}{b:Nat}{p:ae}(h:b0 p):kin (au (dR ε b p)) (eh b p):=nB (fun k aa=>(Ax k).2 aa) _ (pP p b h)
theorem Tt{ε:Nat->Nat}{b:Nat}{p:ae}{k:aC}:k∈ec (dR ε b p)↔rng b (b+bO p) k:=by rw[<-Ax (ε:=ε)];exact⟨O7,fun h=>uM h⟩
theorem CallDo.sub{P:bK}{n:Nat}{args:List ae}{st:aS}{d:aT Nat}{K:aS->Prop}{ε:Nat->Nat}{b:Nat}{l r:List ae}{y y' p1:ae}(bA:b0 y)(aE:bO y'=bO y)
  (aL:b7 P n args (dR ε (b+b2 l) y) fun cE ai=>cE=p1/\ai=dR ε (b+b2 l) y')
  (he:∀k o,look k (fG ε b (l++y::r))=some o->look k st.e=some o) (aa:kinL (rng (b+b2 l) (b+b2 l+bO y)) args)
  (h:∀gr,(∀k o,look k (fG ε b (l++y'::r))=some o->look k gr=some o)->(∀k,¬rng (b+b2 l) (b+b2 l+bO y) k->look k gr=look k st.e)->K ⟨fk d p1 st.t,st.b,gr,st.n,st.o++ec (dR ε (b+b2 l) y')⟩):CallDo P n args st d K:=by
 refine CallDo.ob aL (nR bA) (fun k cs aa=>by simp[look]at aa) (fun k o aa=>he k o (aaq aa)) (nA (fun k aa=>(Ax k).2 aa) _ aa) ?_;rintro cE ai ⟨rfl,rfl⟩;refine⟨qk aE,?_⟩;simp only[Ae,List.append_nil];refine h _ (fun k o aa=>?_) fun k aa=>?_
 ·rw[mo,r0];rcases aar aE aa with I|⟨I,J,ao⟩
  ·have:(look k (dc ε (b+b2 l) y)).isSome=true:=by have:=Cs (ε:=ε) (p:=y') (b:=b+b2 l) k;rw[Cs,<-aE,<-this,I];rfl
   rw[this];simp[I]
  ·rw[I];simp[he k o ao]
 ·have I:look k (dc ε (b+b2 l) y)=none:=by
   cases bI:look k (dc ε (b+b2 l) y)with
   |none=>rfl
   |some o=>exact absurd (td ε y _ k o bI) aa
  have J:look k (dc ε (b+b2 l) y')=none:=by
   cases bI:look k (dc ε (b+b2 l) y')with
   |none=>rfl
   |some o=>obtain⟨m,e,fc,cv⟩:=td ε y' _ k o bI;exact absurd ⟨m,e,fc,Ω⟩ aa
  rw[mo,r0,I,J];simp;cases look k st.e<;>rfl
theorem tH.val{P:bK}{f:FuncId}{args:List ae}{r:Nat->ae}(h:tH P f args r)(aa:kin (fun _=>cZ) (bC (r 0)):=by simp[bC,kin,kinL]):b6 P f args (bC (r 0)):=by
 intro w ν vs gl I J ao;have hm:∀(e:Ending) (w':World),(∃v cE ai ν',e= .returned v/\(cE=r 0/\ai=⟨[],[]⟩)/\aH w' ν' cE v/\Good (fun bl=>fv ν ⟨[],[]⟩ bl\/w.heap.size<=bl) w' ν' ai.b ai.e/\yM (some 0) ν' ai/\hd ai/\ni ⟨w,ν,fv ν ⟨[],[]⟩,0,ec ⟨[],[]⟩,gl,[]⟩ w' ν')->
   (∃v cE ai ν',e= .returned v/\(cE=bC (r 0)/\ai=⟨[],[]⟩)/\aH w' ν' cE v/\Good (fun bl=>fv ν ⟨[],[]⟩ bl\/w.heap.size<=bl) w' ν' ai.b ai.e/\pD ν' ai/\hd ai/\ni ⟨w,ν,fv ν ⟨[],[]⟩,0,ec ⟨[],[]⟩,gl,[]⟩ w' ν'):=by
  rintro e w' ⟨v,cE,ai,ν',bB,⟨rfl,rfl⟩,a3,a4,a5,CS,nT⟩;have gy:∀k,ν.bx k=none:=fun k=>(J k).1 rfl;have fx:∀k,ν.ow k=none:=fun k=>(J k).2.1 rfl;refine⟨v,_,⟨[],[]⟩,ν'.cut fun _=>cZ,bB,⟨rfl,rfl⟩,qM (mB.cut _ w' ν') _ _ aa (wx _ v a3),a4.cut (fun k cs bI=>by simp[look]at bI) (fun k o bI=>by simp[look]at bI) (fun bl aU _=>aU),fun k=>?_,qI,
   ⟨nT.os,nT.tape,nT.output,nT.size,nT.block,nT.keep,nT.fresh,fun n b ah=>?_,nT.obn,fun m n u hm=>?_,nT.obr,fun k j bb eo b bR _=>bR.1.elim,fun k j b ah=>ah.1.elim,fun k j b ah=>ah.1.elim,nT.sh,fun j n u b aj aJ=>nT.nrow j n u b (aP.cut_someO aj).2 aJ⟩⟩
  ·obtain⟨bR,cA,dE⟩:=aP.cut_no (ν:=ν') (S:=fun _=>cZ) (k:=k) (fun h=>h);exact⟨fun _=>bR,fun _=>cA,dE⟩
  ·rw[gy]at ah;cases ah
  ·rw[fx]at hm;cases hm
 rcases h 0 w ν vs gl I J ao with⟨vI,aE⟩|⟨v,w',aE,hr⟩
 ·exact .inl ⟨vI,aE.mono hm⟩
 ·exact .inr ⟨v,w',aE,hm _ _ hr⟩
def cY{α:Type}(f:α->Nat->ae)(l:List (α×Nat)):List ae:=l.map fun p=>f p.1 p.2
@[simp]theorem ahZ{α:Type}(f:α->Nat->ae):cY f []=[]:=rfl
@[simp]theorem ahY{α:Type}(f:α->Nat->ae)(l:List (α×Nat)):(cY f l).length=l.length:=by simp[cY]
@[simp]theorem EM{α:Type}(f:α->Nat->ae)(l:List (α×Nat))(x:α)(n:Nat):cY f (l++[(x,n)])=cY f l++[f x n]:=by simp[cY]
theorem oq(n:Nat):aC.loc n≠dv:=fun e=>by unfold dv at e;cases e
structure lz {α:Type} (n:Nat) (l:List (α×Nat)):Prop where
 nd:(l.map (·.2)).Nodup
 lt:∀p∈l,p.2<n
theorem lz.nil{α:Type}(n:Nat):lz n ([]:List (α×Nat)):=⟨Ψ,Ψ⟩
theorem lz.mono{α:Type}{n m:Nat}{l:List (α×Nat)}(h:lz n l)(hm:n<=m):lz m l:=⟨h.nd,fun p aU=>by have:=h.lt p aU;omega⟩
theorem lz.snoc{α:Type}{n m n':Nat}{l:List (α×Nat)}(h:lz n l)(x:α)(I:n<=m)(J:m<n'):lz n' (l++[(x,m)]):=by
 refine⟨?_,fun p aU=>?_⟩
 ·rw[List.map_append,qb];refine⟨h.nd,Ψ,fun a bF b ah e=>?_⟩;simp at ah;subst ah;obtain⟨p,aU,rfl⟩:=lZ.1 bF;have:=h.lt p aU;omega
 ·rcases hv.1 aU with aU|aU
  ·have:=h.lt p aU;omega
  ·simp at aU;subst aU;exact J
structure pn {α:Type} (f:α->Nat->ae) (g:α->ae):Prop where
 tn:∀x n,tn (f x n)=[(.loc n,0)]
 ok:∀x n,dU (f x n)
 st:∀x n,bC (f x n)=g x
 ki:∀(S:aC->Prop) x n,S (.loc n)->kin S (f x n)
theorem pn.tnL{α:Type}{f:α->Nat->ae}{g:α->ae}(h:pn f g):∀(l:List (α×Nat)),Pv.tnL (cY f l)=(l.map (·.2)).map fun m=>(aC.loc m,0)
 |[]=>by simp[cY,Pv.tnL]
 |x::l=>by have:=h.tnL l;unfold cY at this;simp[cY,Pv.tnL,h.tn,this]
theorem pn.nodup{α:Type}{f:α->Nat->ae}{g:α->ae}(h:pn f g){n:Nat}{l:List (α×Nat)}(aG:lz n l):(Pv.tnL (cY f l)).Nodup:=by rw[h.tnL];refine aeT _ (fun a b n9 e=>n9 ?_) aG.nd;simpa using e
theorem pn.okL{α:Type}{f:α->Nat->ae}{g:α->ae}(h:pn f g):∀(l:List (α×Nat)),ey (cY f l)
 |[]=>by simp[cY,ey]
 |x::l=>by have:=h.okL l;unfold cY at this;simp[cY,ey,h.ok,this]
theorem pn.stL{α:Type}{f:α->Nat->ae}{g:α->ae}(h:pn f g):∀(l:List (α×Nat)),bz (cY f l)=(l.map (·.1)).map g
 |[]=>by simp[cY,bz]
 |x::l=>by have:=h.stL l;unfold cY at this;simp[cY,bz,h.st,this]
theorem pn.kiL{α:Type}{f:α->Nat->ae}{g:α->ae}(h:pn f g){S:aC->Prop}:∀(l:List (α×Nat)),(∀p∈l,S (.loc p.2))->kinL S (cY f l)
 |[],_=>by simp[cY,kinL]
 |x::l,gC=>by have:=h.kiL l fun p aU=>gC p (by simp[aU]);unfold cY at this;simp only[cY,gY,kinL];exact⟨h.ki S x.1 x.2 (gC x Ψ),this⟩
theorem pn.kin{α:Type}{f:α->Nat->ae}{g:α->ae}(h:pn f g){n m:Nat}{l:List (α×Nat)}(aG:lz n l)(hm:n<=m)(o:List aC):kinL (fun k=> ¬fresh m o k) (cY f l)=True:=eq_true (h.kiL l fun p aU aL=>by have I:=aG.lt p aU;have J:m<=p.2:=aL.1;omega)
theorem GL:∀(a b:List ae),dtL (a++b)↔dtL a/\dtL b
 |[],b=>by simp[dtL]
 |x::a,b=>by simp[dtL,GL a b,and_assoc]
mutual
theorem GN(b5:Int->List al):∀(p:ae) (k:Int),b0 p->b0 (dp b5 p k).1
 | .int _ _,_,_=>by simp[dp,b0]
 | .bool _,_,_=>by simp[dp,b0]
 | .str _,_,_=>by simp[dp,b0]
 | .slice sz _ xs,k,h=>by simp only[dp,b0]at h⊢;exact⟨h.1,n3 b5 xs k h.2⟩
 | .agg cs,k,h=>by simp only[dp,b0]at h⊢;exact n3 b5 cs k h
 | .junk,_,h=>by simp[b0]at h
 | .ptr _ _,_,h=>by simp[b0]at h
 | .eptr _,_,h=>by simp[b0]at h
 | .iface _ _,_,h=>by simp[b0]at h
 | .nilp,_,h=>by simp[b0]at h
 | .tuple _,_,h=>by simp[b0]at h
 | .func _ _,_,h=>by simp[b0]at h
 | .gmap _,_,h=>by simp[b0]at h
 | .row _ _ _,_,h=>by simp[b0]at h
 | .rptr _ _ _ _ _,_,h=>by simp[b0]at h
 | .hdm _ _,_,h=>by simp[b0]at h
 | .hdi _ _ _,_,h=>by simp[b0]at h
 | .cst _,_,h=>by simp[b0]at h
theorem n3(b5:Int->List al):∀(a6:List ae) (k:Int),dtL a6->dtL (bd b5 a6 k).1
 |[],k,h=>by simp[bd,dtL]
 |x::xs,k,h=>by simp only[bd,dtL]at h⊢;exact⟨GN b5 x k h.1,n3 b5 xs _ h.2⟩
end
theorem oy{ε:Nat->Nat}{b sz:Nat}{t:h9}:∀{xs:List ae},xs≠[]->dc ε b (.slice sz t xs)=(.obj b,⟨xs.length,ε b,sz,some (gf (b+1) xs)⟩)::fG ε (b+1) xs
 |[],h=>absurd rfl h
 |_::_,_=>rfl
theorem yG{b sz:Nat}{t:h9}:∀{xs:List ae},xs≠[]->eh b (.slice sz t xs)= .row sz (.obj b) xs.length
 |[],h=>absurd rfl h
 |_::_,_=>rfl
theorem yH{b sz:Nat}{t:h9}:∀{xs ys:List ae},xs.length=ys.length->eh b (.slice sz t xs)=eh b (.slice sz t ys)
 |[],[],_=>rfl
 |[],_::_,h=>by simp at h
 |_::_,[],h=>by simp at h
 |_::xs,_::ys,h=>by simp only[eh];simp at h;rw[h]
theorem yF{b:Nat}{l r:List ae}{x:ae}{i:Nat}(az:l.length=i):(gf b (l++x::r))[i]? =some (eh (b+b2 l) x):=by subst az;rw[Dm,List.getElem?_append_right (by rw[qt];exact cq _)];simp[qt,gf]
theorem GQ{b:Nat}{l r:List ae}{x wP:ae}{i:Nat}(az:l.length=i)(aE:bO wP=bO x):(gf b (l++x::r)).set i (eh (b+b2 l) wP)=gf b (l++wP::r):=by subst az;rw[Dm,Dm,List.set_append_right _ _ (by rw[qt];exact cq _)];simp[qt,gf,aE]
theorem Qj(b5:Int->List al)(l:List ae)(x:ae)(k:Int):bd b5 (l++[x]) k=((bd b5 l k).1++[(dp b5 x (bd b5 l k).2).1],(dp b5 x (bd b5 l k).2).2):=by rw[EF];simp[bd]
theorem zt(b5:Int->List al)(l:List ae)(k:Int)(i:Nat):(bd b5 (l.take i) k).2<=(bd b5 l k).2:=by have h:=EF b5 (l.take i) (l.drop i) k;rw[q3]at h;rw[h];exact jJ b5 _ _
def jY(b5:Int->List al)(l:List ae)(k:Int)(i:Nat):List ae:=(bd b5 (l.take i) k).1++l.drop i
theorem I2(b5:Int->List al)(l:List ae)(k:Int):jY b5 l k 0=l:=by simp[jY,bd]
theorem uI(b5:Int->List al)(l:List ae)(k:Int):jY b5 l k l.length=(bd b5 l k).1:=by simp[jY]
theorem pS(b5:Int->List al)(l:List ae)(k:Int)(i:Nat):(jY b5 l k i).length=l.length:=by simp[jY,lQ];omega
theorem IZ(b5:Int->List al)(l:List ae)(k:Int)(i:Nat):b2 (jY b5 l k i)=b2 l:=by unfold jY;rw[C9,rb,<-C9,q3]
theorem I0(b5:Int->List al){l:List ae}(k:Int)(i:Nat)(h:dtL l):dtL (jY b5 l k i):=by rw[<-q3 i l,GL]at h;unfold jY;rw[GL];exact⟨n3 b5 _ _ h.1,h.2⟩
theorem IY(b5:Int->List al){l:List ae}(k:Int){i:Nat}{x:ae}(h:l[i]? =some x):jY b5 l k i=(bd b5 (l.take i) k).1++x::l.drop (i+1):=by unfold jY;congr 1;obtain⟨az,e⟩:=e3.1 h;rw[pd az,e]
theorem I1(b5:Int->List al){l:List ae}(k:Int){i:Nat}{x:ae}(h:l[i]? =some x):jY b5 l k (i+1)=(bd b5 (l.take i) k).1++(dp b5 x (bd b5 (l.take i) k).2).1::l.drop (i+1):=by
 unfold jY;have:l.take (i+1)=l.take i++[x]:=by rw[k3,h];rfl
 rw[this,Qj];simp
theorem I5(b5:Int->List al){l:List ae}(k:Int){i:Nat}{x:ae}(h:l[i]? =some x):(bd b5 l k).1=(bd b5 (l.take i) k).1++(dp b5 x (bd b5 (l.take i) k).2).1::(bd b5 (l.drop (i+1)) (dp b5 x (bd b5 (l.take i) k).2).2).1:=by
 obtain⟨az,e⟩:=e3.1 h;have I:l=l.take i++x::l.drop (i+1):=by rw[<-e,<-pd az,q3]
 have J:=EF b5 (l.take i) (x::l.drop (i+1)) k;rw[<-I]at J;rw[J];simp only[bd]
theorem zs(b5:Int->List al){l:List ae}(k:Int){i:Nat}{x:ae}(h:l[i]? =some x):(bd b5 (l.take (i+1)) k).2=(dp b5 x (bd b5 (l.take i) k).2).2:=by
 have:l.take (i+1)=l.take i++[x]:=by rw[k3,h];rfl
 rw[this,Qj]
theorem BV(b5:Int->List al):∀{xs:List ae} (k:Int),(∀x∈xs,∃dA a cs,x= .agg (.int dA a::cs))->k+xs.length<=(bd b5 xs k).2
 |[],k,_=>by simp[bd]
 |x::xs,k,h=>by
  obtain⟨dA,a,cs,rfl⟩:=h x Ψ;have I:=BV b5 (xs:=xs) (dp b5 (.agg (.int dA a::cs)) k).2 fun y bA=>h y (by simp[bA]);have J:k+1<=(dp b5 (.agg (.int dA a::cs)) k).2:=by simp only[dp,bd];exact jJ b5 cs (k+1)
  simp only[bd,lx];omega
theorem Di:∀{l:List ae},dtL l↔∀x∈l,b0 x
 |[]=>by simp[dtL]
 |x::l=>by simp[dtL,Di (l:=l)]
theorem ra{sz:Nat}{t:h9}:∀{xs ys:List ae},xs.length=ys.length->b2 xs=b2 ys->bO (.slice sz t xs)=bO (.slice sz t ys)
 |[],[],_,_=>rfl
 |[],_::_,h,_=>by simp at h
 |_::_,[],h,_=>by simp at h
 |_::_,_::_,_,h=>by simp only[bO,b2]at h⊢;omega
@[simp]theorem tv{b sz:Nat}{t:h9}:∀{xs:List ae},bC (eh b (.slice sz t xs))=eh b (.slice sz t xs)
 |[]=>rfl
 |_::_=>rfl
@[simp]theorem ah1{ε:Nat->Nat}{b m:Nat}{p:ae}(x:cV):((aC.loc m,x)∈dc ε b p)=cZ:=eq_false fun h=>by have:=wa h;rw[(K8 ε b p).2 m]at this;cases this
theorem hH.to{ε:Nat->Nat}{b:Nat}{p hL:ae}{st:aS}{t':List (Nat×ae)}(aF:b0 p)(aE:bO p=bO hL)(aD:∀x∈t',get x.1 st.t=x.2/\kin (rng b (b+bO hL)) x.2)(he:∀k o,look k (dc ε b p)=some o->look k st.e=some o):
  hH (ec (dR ε b hL)) st ⟨t',[],dc ε b p,0,ec (dR ε b hL)⟩:=by
 have gC:∀k,rng b (b+bO hL) k->¬fresh 0 (ec (dR ε b hL)) k:=fun k aa aL=>aL.2 (Tt.2 aa);refine⟨fun x af=>⟨(aD x af).1,nB gC _ (aD x af).2⟩,fun k cs aa=>by simp[look]at aa,fun k o aa=>⟨he k o aa,gC k ?_,BS gC ?_⟩,fun m hm=>hm⟩
 ·rw[<-aE];exact td ε p b k o aa
 ·rw[<-aE];exact ID p b aF k o aa
end
end Go.Pv
namespace Go.Proofs.YtlnndmgfngfeiaaGreatDoor
section
open Go Go.Pv
def Lx:C:=(ag [gb 1 0,bD 2 false] (ag [ck 3 4 1,kC 4 150 [.t 3,(da 5000)],bc 5 .gtr 4 0,ab 2 5] .ret))
@[simp] def Q5:List cr:=[.tmp 2]
def C0:C:=(ag [gb 2 0] (.seq (ag [bm 4 0 1 2,bf 5 1 4,bc 6 .eql 5 1] (bh 6 (.region [ab 7 1,bm 8 1 1 2,bf 9 1 8,Tc 10 7 [.t 9]]) .skip)) (ag [bm 11 0 1 2,bf 12 1 11,bc 13 .eql 12 4] (bh 13 (ag [bm 14 3 1 2,bf 15 1 14,p7 16 4 15 0,ck 17 4 16,ab 18 1,eZ 19 79 17 18] (.region [bm 20 3 1 2,bf 21 1 20,p7 22 4 21 1,ck 23 4 22,ab 24 1,eZ 25 79 23 24])) .skip))))
@[simp] def E4:List cr:=[]
def L7:C:=(ag [gb 2 0,gb 3 1,ht 4 cU] (ag [ck 5 4 2,ck 6 4 3,hE 7 4 40 [.t 5,.t 6],kB 8 cU [(0,1,(da 4)),(3,1,(.t 7))],bE 4 4 8] .ret))
@[simp] def Rp:List cr:=[.cell 4 true 4]
def LF:C:=(ag [gb 2 0,cd 4 0] (.seq (ag [ab 7 1,bc 8 .lss 7 1] (bh 8 (ag [cd 4 (-1)] .ret) .skip)) (.seq (ag [bm 9 0 1 2,bf 10 1 9,bc 11 .neq 10 4] (bh 11 (.seq (ag [bm 12 3 1 2,bf 13 1 12,c7 14 13,bc 15 .neq 14 0] (bh 15 (ag [cd 4 (-1)] .ret) .skip)) (.seq (ag [bm 16 0 1 2,bf 17 1 16] (.block 0 (ag [bc 19 .eql 17 0,ab 18 19] (bh 18 (ag [bm 20 1 1 2,bf 21 1 20,bc 22 .neq 21 0,ab 23 22,aI 23 false (bm 24 2 1 2),aI 23 false (bf 25 1 24),lv 23 false 26 (.bin .neq false (.t 25) (.c (.str []))),dk 27 23 26] (bh 27 (ag [cd 4 (-1)] .ret) .skip)) (ag [bc 29 .eql 17 1,ab 28 29] (bh 28 (ag [bm 30 1 1 2,bf 31 1 30,bc 32 .lss 31 0,ab 33 32,aI 33 false (bm 34 1 1 2),aI 33 false (bf 35 1 34),aI 33 false (bc 36 .gtr 35 100000),dk 37 33 36,ab 38 37,aI 38 false (bm 39 2 1 2),aI 38 false (bf 40 1 39),lv 38 false 41 (.bin .neq false (.t 40) (.c (.str []))),dk 42 38 41] (bh 42 (ag [cd 4 (-1)] .ret) .skip)) (ag [bc 44 .eql 17 2,ab 43 44] (bh 43 (ag [bm 45 1 1 2,bf 46 1 45,bc 47 .neq 46 0,ab 48 47,aI 48 false (bm 49 2 1 2),aI 48 false (bf 50 1 49),aI 48 false (cK 51 170 50),aI 48 false (dB 52 51),dk 53 48 52] (bh 53 (ag [cd 4 (-1)] .ret) .skip)) (ag [bc 55 .eql 17 3,ab 54 55] (bh 54 (ag [bm 56 1 1 2,bf 57 1 56,bc 58 .lss 57 (-1000000000),ab 59 58,aI 59 false (bm 60 1 1 2),aI 59 false (bf 61 1 60),aI 59 false (bc 62 .gtr 61 1000000000),dk 63 59 62,ab 64 63,aI 64 false (bm 65 2 1 2),aI 64 false (bf 66 1 65),lv 64 false 67 (.bin .neq false (.t 66) (.c (.str []))),dk 68 64 67] (bh 68 (ag [cd 4 (-1)] .ret) .skip)) (ag [cd 4 (-1)] .ret))))))))))) (ag [cd 4 1] .ret))) .skip)) (.seq (ag [bm 69 1 1 2,bf 70 1 69,bc 71 .neq 70 0,ab 72 71,aI 72 false (bm 73 2 1 2),aI 72 false (bf 74 1 73),lv 72 false 75 (.bin .neq false (.t 74) (.c (.str []))),dk 76 72 75,ab 77 76,aI 77 false (bm 78 3 1 2),aI 77 false (bf 79 1 78),aI 77 false (c7 80 79),aI 77 false (bc 81 .neq 80 2),dk 82 77 81] (bh 82 (ag [cd 4 (-1)] .ret) .skip)) (ag [bm 83 3 1 2,bf 84 1 83,p7 85 4 84 0,ck 86 4 85,ab 87 1,bc 88 .sub 87 1,eZ 89 150 86 88,ab 5 89] (.seq (ag [ab 90 5,bc 91 .lss 90 0] (bh 91 (ag [cd 4 (-1)] .ret) .skip)) (ag [bm 92 3 1 2,bf 93 1 92,p7 94 4 93 1,ck 95 4 94,ab 96 1,bc 97 .sub 96 1,ab 98 5,cz 99 .sub 97 98,eZ 100 150 95 99,ab 6 100] (.seq (ag [ab 101 6,bc 102 .lss 101 0] (bh 102 (ag [cd 4 (-1)] .ret) .skip)) (ag [ab 103 5,bk 104 (.bin .add false (da 1) (.t 103)),ab 105 6,cz 106 .add 104 105,ab 4 106] .ret)))))))))
@[simp] def E5:List cr:=[.tmp 4]
def LI:C:=(ag [nI 2 1] (ag [dY (.bslm 5 (some 306) 1 3 []),ab 3 5] (.seq (ag [ab 6 0,dY (.range 7 none (.t 6))] (.block 0 (.loop (ag [⟨none,.next 8 (.t 7)⟩,dN 9 0 8] (.seq (bh 9 .skip (.exit 0)) (.block 1 (ag [bk 10 (.ment (.t 7)),dN 11 0 10,ab 4 11] (.region [ab 12 3,ab 13 4,hE 14 1 3 [.t 13],dY (.appm 15 none 1 3 (.t 12) (.t 14)),ab 3 15])))))))) (ag [ab 16 3,cK 17 213 16] (.seq (.pub 3 (.region [ab 18 3,ab 2 18])) .ret)))))
@[simp] def Rb:List cr:=[.tmp 2]
def Lw:C:=(ag [bD 2 false] (.seq (ag [ab 4 0,bk 5 (.slen (.t 4)),bc 6 .lss 5 1,ab 7 6,bP 7 false 8 0,aI 7 false (bk 9 (.slen (.t 8))),aI 7 false (bc 10 .gtr 9 12),dk 11 7 10,ab 12 11,bP 12 false 13 0,aI 12 false (bk 14 (.sidx (.t 13) (da 0))),aI 12 false (bk 15 (.bin .lss false (.t 14) (.c (.int .u8 97)))),dk 16 12 15,ab 17 16,bP 17 false 18 0,aI 17 false (bk 19 (.sidx (.t 18) (da 0))),aI 17 false (bk 20 (.bin .gtr false (.t 19) (.c (.int .u8 122)))),dk 21 17 20] (bh 21 (ag [bD 2 false] .ret) .skip)) (.seq (ag [cd 3 1] (.block 0 (.loop (.seq (ag [ab 22 3,ab 23 0,bk 24 (.slen (.t 23)),cz 25 .lss 22 24] (bh 25 .skip (.exit 0))) (.seq (.block 1 (ag [ab 28 0,ab 29 3,bk 30 (.sidx (.t 28) (.t 29)),bk 31 (.bin .geq false (.t 30) (.c (.int .u8 97))),ab 32 31,bP 32 true 33 0,bP 32 true 34 3,aI 32 true (bk 35 (.sidx (.t 33) (.t 34))),aI 32 true (bk 36 (.bin .leq false (.t 35) (.c (.int .u8 122)))),e7 37 32 36,ab 38 37,bP 38 false 39 0,bP 38 false 40 3,aI 38 false (bk 41 (.sidx (.t 39) (.t 40))),aI 38 false (bk 42 (.bin .geq false (.t 41) (.c (.int .u8 48)))),bP 38 false 43 42,bP 43 true 44 0,bP 43 true 45 3,aI 43 true (bk 46 (.sidx (.t 44) (.t 45))),aI 43 true (bk 47 (.bin .leq false (.t 46) (.c (.int .u8 57)))),aI 38 false (e7 48 43 47),dk 49 38 48,ab 50 49,bP 50 false 51 0,bP 50 false 52 3,aI 50 false (bk 53 (.sidx (.t 51) (.t 52))),aI 50 false (bk 54 (.bin .eql false (.t 53) (.c (.int .u8 45)))),dk 55 50 54,dB 56 55] (bh 56 (ag [bD 2 false] .ret) .skip))) (.region [ab 26 3,bc 27 .add 26 1,ab 3 27])))))) (ag [bD 2 true] .ret))))
@[simp] def E3:List cr:=[.tmp 2]
def LK:C:=(ag [bD 2 false] (.seq (ag [ab 5 0,c7 6 5,cd 7 0] (lX 8 7 6 (.seq (.block 1 (ag [cQ 9 4 5 7,ck 10 4 9,ht 4 cU,bE 4 4 10] (ag [ck 11 4 4,cK 12 77 11,dB 13 12] (bh 13 (ag [bD 2 false] .ret) .skip)))) (.region [bc 14 .add 7 1,ab 7 14])))) (ag [bD 2 true] .ret)))
@[simp] def acd:List cr:=[.tmp 2]
def AF:C:=(ag [gb 2 0,gb 3 1,ht 4 cU] (ag [ck 5 4 2,ck 6 4 3,hE 7 4 40 [.t 5,.t 6],kB 8 cU [(0,1,(da 4)),(3,1,(.t 7))],bE 4 4 8] .ret))
@[simp] def Ra:List cr:=[.cell 4 true 4]
def aZ:List (Nat×cJ):=[
 (3,⟨1,8,.int .i64,.int .i64 0⟩),
 (9,⟨1,16,.str,.str []⟩),
 (36,⟨1,24,.slice 120,.slice 5 .nil []⟩),
 (38,⟨1,24,.slice 40,.slice 4 .nil []⟩),
 (40,⟨4,56,.struct [(0,3),(1,3),(2,9),(3,38)],.agg [.int .i64 0,.int .i64 0,.str [],.slice 4 .nil []]⟩),
 (120,⟨5,64,.struct [(0,3),(1,40)],.agg [.int .i64 0,.int .i64 0,.int .i64 0,.str [],.slice 4 .nil []]⟩),
 (136,⟨1,24,.slice 3,.slice 1 .nil []⟩),
 (189,⟨1,8,.other,.junk⟩),
 (199,⟨1,8,.map 3 4,.junk⟩),
 (209,⟨1,8,.int .u64,.int .u64 0⟩)]
theorem mixed:aQ.follows .mixedOrders=true:=by kernel_rfl
theorem bQ{aZ:List (Nat×cJ)}(aD:ez aQ aZ=true){f:FuncId}{fn:Func}(aL:aQ.funcs[f]? =some fn){c:C}{di:List cr}{n:Nat}(dS:c8 aZ c di n fn=true){args:List ae}{r:ae}(he:iZ args->ct aQ [] c (cg di r) ⟨h6 0 args,[],[],0,[]⟩)(aG:args.length<=n:=by simp)(hr:kin (fun _=>cZ) r:=by simp[kin]):b6 aQ f args r:=b6.mk mixed aD aL dS aG hr he
theorem p4:ez aQ aZ=true:=by kernel_rfl
theorem aa8:c8 aZ Lx Q5 1 Tryz.f77=true:=by kernel_rfl
theorem V6:aQ.funcs[(77:Nat)]? =some Tryz.f77:=Tryz.func77
theorem Jl:c8 aZ C0 E4 2 Tryz.f79=true:=by kernel_rfl
theorem G3:aQ.funcs[(79:Nat)]? =some Tryz.f79:=Tryz.func79
theorem abH:c8 aZ L7 Rp 2 Tryz.f141=true:=by kernel_rfl
theorem WE:aQ.funcs[(141:Nat)]? =some Tryz.f141:=Tryz.func141
theorem abf:c8 aZ LF E5 2 Tryz.f150=true:=by kernel_rfl
theorem Wd:aQ.funcs[(150:Nat)]? =some Tryz.f150:=Tryz.func150
theorem abi:c8 aZ LI Rb 1 Tryz.f160=true:=by kernel_rfl
theorem Wg:aQ.funcs[(160:Nat)]? =some Tryz.f160:=Tryz.func160
theorem aa7:c8 aZ Lw E3 1 Tryz.f170=true:=by kernel_rfl
theorem V5:aQ.funcs[(170:Nat)]? =some Tryz.f170:=Tryz.func170
theorem abk:c8 aZ LK acd 1 Tryz.f183=true:=by kernel_rfl
theorem Wi:aQ.funcs[(183:Nat)]? =some Tryz.f183:=Tryz.func183
theorem EV:c8 aZ AF Ra 2 Tryz.f206=true:=by kernel_rfl
theorem Dv:aQ.funcs[(206:Nat)]? =some Tryz.f206:=Tryz.func206
def LY:C:=(ag [gb 2 0,cd 4 0] (ag [bm 5 0 1 2,bf 6 1 5,ab 7 1,eZ 8 112 6 7,ab 1 8] (ag [ab 9 1,ab 4 9] .ret)))
@[simp] def Rj:List cr:=[.tmp 4]
def LX:C:=(ag [gb 2 0,cd 4 0] (ag [bm 5 0 1 2,bf 6 1 5,ab 7 1,eZ 8 113 6 7,ab 1 8] (.seq (ag [ab 9 1,bc 10 .lss 9 0] (bh 10 (ag [cd 4 (-1)] .ret) .skip)) (ag [ab 11 1,ab 4 11] .ret))))
@[simp] def Rf:List cr:=[.tmp 4]
def Gj:C:=(ag [cd 4 0] (.seq (ag [cd 5 0] (.block 0 (.loop (.seq (ag [ab 6 5,ab 7 0,c7 8 7,cz 9 .lss 6 8] (bh 9 .skip (.exit 0))) (.seq (.block 1 (ag [ab 12 0,ab 13 5,ab 14 1,cQ 15 4 12 13,bm 16 0 1 15,bE 1 16 14] (ag [ab 17 1,bc 18 .add 17 1,ab 1 18] (ag [ab 19 0,ab 20 5,ab 21 1,cQ 22 4 19 20,bm 23 1 1 22,bE 1 23 21] (ag [ab 24 1,bc 25 .add 24 1,ab 1 25] (ag [ab 26 0,ab 27 5,ab 28 1,cK 29 162 28,cQ 30 4 26 27,bm 31 2 1 30,bE 1 31 29] (ag [ab 32 1,bc 33 .add 32 1,ab 1 33] (.region [ab 34 0,ab 35 5,cQ 36 4 34 35,bm 37 3 1 36,bf 38 1 37,ab 39 1,eZ 40 92 38 39,ab 1 40])))))))) (.region [ab 10 5,bc 11 .add 10 1,ab 5 11])))))) (ag [ab 41 1,ab 4 41] .ret)))
@[simp] def Rm:List cr:=[.tmp 4]
def Gg:C:=(ag [cd 4 0] (.seq (ag [cd 5 0] (.block 0 (.loop (.seq (ag [ab 6 5,ab 7 0,c7 8 7,cz 9 .lss 6 8] (bh 9 .skip (.exit 0))) (.seq (.block 1 (.seq (ag [ab 12 0,ab 13 5,cQ 14 4 12 13,bm 15 0 1 14,bf 16 1 15,ab 17 1,cz 18 .neq 16 17] (bh 18 (ag [cd 4 (-1)] .ret) .skip)) (ag [ab 19 1,bc 20 .add 19 1,ab 1 20] (.seq (ag [ab 21 0,ab 22 5,cQ 23 4 21 22,bm 24 1 1 23,bf 25 1 24,ab 26 1,cz 27 .neq 25 26] (bh 27 (ag [cd 4 (-1)] .ret) .skip)) (ag [ab 28 1,bc 29 .add 28 1,ab 1 29] (.seq (.seq (.drawn true 50 [ab 30 0,ab 31 5,cQ 32 4 30 31,bm 33 2 1 32,bf 34 1 33,ab 35 1,cK 36 162 35,cz 37 .neq 34 36]) (bh 37 (ag [cd 4 (-1)] .ret) .skip)) (ag [ab 38 1,bc 39 .add 38 1,ab 1 39] (ag [ab 40 0,ab 41 5,cQ 42 4 40 41,bm 43 3 1 42,bf 44 1 43,ab 45 1,eZ 46 93 44 45,ab 1 46] (ag [ab 47 1,bc 48 .lss 47 0] (bh 48 (ag [cd 4 (-1)] .ret) .skip)))))))))) (.region [ab 10 5,bc 11 .add 10 1,ab 5 11])))))) (ag [ab 49 1,ab 4 49] .ret)))
@[simp] def Rh:List cr:=[.tmp 4]
def Gi:C:=(ag [cd 4 0] (.seq (ag [cd 5 0] (.block 0 (.loop (.seq (ag [ab 6 5,ab 7 0,c7 8 7,cz 9 .lss 6 8] (bh 9 .skip (.exit 0))) (.seq (.block 1 (ag [ab 12 0,ab 13 5,ab 14 1,cK 15 162 14,cQ 16 7 12 13,bm 17 0 1 16,bE 1 17 15] (ag [ab 18 1,bc 19 .add 18 1,ab 1 19] (ag [ab 20 0,ab 21 5,ab 22 1,cQ 23 7 20 21,bm 24 1 1 23,bE 1 24 22] (ag [ab 25 1,bc 26 .add 25 1,ab 1 26] (ag [ab 27 0,ab 28 5,ab 29 1,cQ 30 7 27 28,bm 31 2 1 30,bE 1 31 29] (ag [ab 32 1,bc 33 .add 32 1,ab 1 33] (ag [ab 34 0,ab 35 5,ab 36 1,cQ 37 7 34 35,nb 38 3 4 37,bm 39 0 1 38,bE 1 39 36] (ag [ab 40 1,bc 41 .add 40 1,ab 1 41] (ag [ab 42 0,ab 43 5,ab 44 1,cK 45 162 44,cQ 46 7 42 43,nb 47 3 4 46,bm 48 1 1 47,bE 1 48 45] (ag [ab 49 1,bc 50 .add 49 1,ab 1 50] (ag [ab 51 0,ab 52 5,cQ 53 7 51 52,nb 54 3 4 53,bm 55 2 1 54,bf 56 1 55,ab 57 1,eZ 58 92 56 57,ab 1 58] (.region [ab 59 0,ab 60 5,cQ 61 7 59 60,nb 62 3 4 61,bm 63 3 1 62,bf 64 1 63,ab 65 1,eZ 66 181 64 65,ab 1 66]))))))))))))) (.region [ab 10 5,bc 11 .add 10 1,ab 5 11])))))) (ag [ab 67 1,ab 4 67] .ret)))
@[simp] def Rk:List cr:=[.tmp 4]
def Gf:C:=(ag [cd 4 0] (.seq (ag [cd 5 0] (.block 0 (.loop (.seq (ag [ab 6 5,ab 7 0,c7 8 7,cz 9 .lss 6 8] (bh 9 .skip (.exit 0))) (.seq (.block 1 (.seq (.seq (.drawn true 82 [ab 12 0,ab 13 5,cQ 14 7 12 13,bm 15 0 1 14,bf 16 1 15,ab 17 1,cK 18 162 17,cz 19 .neq 16 18]) (bh 19 (ag [cd 4 (-1)] .ret) .skip)) (ag [ab 20 1,bc 21 .add 20 1,ab 1 21] (.seq (ag [ab 22 0,ab 23 5,cQ 24 7 22 23,bm 25 1 1 24,bf 26 1 25,ab 27 1,cz 28 .neq 26 27] (bh 28 (ag [cd 4 (-1)] .ret) .skip)) (ag [ab 29 1,bc 30 .add 29 1,ab 1 30] (.seq (ag [ab 31 0,ab 32 5,cQ 33 7 31 32,bm 34 2 1 33,bf 35 1 34,ab 36 1,cz 37 .neq 35 36] (bh 37 (ag [cd 4 (-1)] .ret) .skip)) (ag [ab 38 1,bc 39 .add 38 1,ab 1 39] (.seq (ag [ab 40 0,ab 41 5,cQ 42 7 40 41,nb 43 3 4 42,bm 44 0 1 43,bf 45 1 44,ab 46 1,cz 47 .neq 45 46] (bh 47 (ag [cd 4 (-1)] .ret) .skip)) (ag [ab 48 1,bc 49 .add 48 1,ab 1 49] (.seq (.seq (.drawn true 82 [ab 50 0,ab 51 5,cQ 52 7 50 51,nb 53 3 4 52,bm 54 1 1 53,bf 55 1 54,ab 56 1,cK 57 162 56,cz 58 .neq 55 57]) (bh 58 (ag [cd 4 (-1)] .ret) .skip)) (ag [ab 59 1,bc 60 .add 59 1,ab 1 60] (ag [ab 61 0,ab 62 5,cQ 63 7 61 62,nb 64 3 4 63,bm 65 2 1 64,bf 66 1 65,ab 67 1,eZ 68 93 66 67,ab 1 68] (.seq (ag [ab 69 1,bc 70 .lss 69 0] (bh 70 (ag [cd 4 (-1)] .ret) .skip)) (ag [ab 71 0,ab 72 5,cQ 73 7 71 72,nb 74 3 4 73,bm 75 3 1 74,bf 76 1 75,ab 77 1,eZ 78 182 76 77,ab 1 78] (ag [ab 79 1,bc 80 .lss 79 0] (bh 80 (ag [cd 4 (-1)] .ret) .skip)))))))))))))))) (.region [ab 10 5,bc 11 .add 10 1,ab 5 11])))))) (ag [ab 81 1,ab 4 81] .ret)))
@[simp] def Rg:List cr:=[.tmp 4]
def Gk:C:=(ag [bk 2 (.mov (.c (.str [])))] (.seq (ag [ab 4 0,bc 5 .leq 4 0] (bh 5 (ag [bk 2 (.mov (.c (.str [109,48])))] .ret) .skip)) (ag [bk 3 (.mov (.c (.str [])))] (.seq (.block 0 (.loop (.seq (ag [ab 6 0,bc 7 .gtr 6 0] (bh 7 .skip (.exit 0))) (.block 1 (ag [ab 8 0,bc 9 .rem 8 10,bk 10 (.bin .add false (da 48) (.t 9)),bk 11 (.conv .u8 (.t 10)),hE 12 1 5 [.t 11],bk 13 (.b2s (.t 12)),ab 14 3,cz 15 .add 13 14,ab 3 15] (.region [ab 16 0,bc 17 .quo 16 10,ab 0 17])))))) (ag [ab 18 3,bk 19 (.bin .add false (.c (.str [109])) (.t 18)),ab 2 19] .ret)))))
@[simp] def Rn:List cr:=[.tmp 2]
def Gh:C:=(ag [cd 4 0] (.seq (ag [cd 5 0] (.block 0 (.loop (.seq (ag [ab 6 5,ab 7 0,c7 8 7,cz 9 .lss 6 8] (bh 9 .skip (.exit 0))) (.seq (.block 1 (ag [ab 12 0,ab 13 5,ab 14 1,cQ 15 4 12 13,bm 16 0 1 15,bE 1 16 14] (ag [ab 17 1,bc 18 .add 17 1,ab 1 18] (ag [ab 19 0,ab 20 5,ab 21 1,cK 22 162 21,cQ 23 4 19 20,bm 24 1 1 23,bE 1 24 22] (ag [ab 25 1,bc 26 .add 25 1,ab 1 26] (ag [ab 27 0,ab 28 5,cQ 29 4 27 28,bm 30 2 1 29,bf 31 1 30,ab 32 1,eZ 33 92 31 32,ab 1 33] (.region [ab 34 0,ab 35 5,cQ 36 4 34 35,bm 37 3 1 36,bf 38 1 37,ab 39 1,eZ 40 181 38 39,ab 1 40]))))))) (.region [ab 10 5,bc 11 .add 10 1,ab 5 11])))))) (ag [ab 41 1,ab 4 41] .ret)))
@[simp] def Ri:List cr:=[.tmp 4]
def Ge:C:=(ag [cd 4 0] (.seq (ag [cd 5 0] (.block 0 (.loop (.seq (ag [ab 6 5,ab 7 0,c7 8 7,cz 9 .lss 6 8] (bh 9 .skip (.exit 0))) (.seq (.block 1 (.seq (ag [ab 12 0,ab 13 5,cQ 14 4 12 13,bm 15 0 1 14,bf 16 1 15,ab 17 1,cz 18 .neq 16 17] (bh 18 (ag [cd 4 (-1)] .ret) .skip)) (ag [ab 19 1,bc 20 .add 19 1,ab 1 20] (.seq (.seq (.drawn true 50 [ab 21 0,ab 22 5,cQ 23 4 21 22,bm 24 1 1 23,bf 25 1 24,ab 26 1,cK 27 162 26,cz 28 .neq 25 27]) (bh 28 (ag [cd 4 (-1)] .ret) .skip)) (ag [ab 29 1,bc 30 .add 29 1,ab 1 30] (ag [ab 31 0,ab 32 5,cQ 33 4 31 32,bm 34 2 1 33,bf 35 1 34,ab 36 1,eZ 37 93 35 36,ab 1 37] (.seq (ag [ab 38 1,bc 39 .lss 38 0] (bh 39 (ag [cd 4 (-1)] .ret) .skip)) (ag [ab 40 0,ab 41 5,cQ 42 4 40 41,bm 43 3 1 42,bf 44 1 43,ab 45 1,eZ 46 182 44 45,ab 1 46] (ag [ab 47 1,bc 48 .lss 47 0] (bh 48 (ag [cd 4 (-1)] .ret) .skip)))))))))) (.region [ab 10 5,bc 11 .add 10 1,ab 5 11])))))) (ag [ab 49 1,ab 4 49] .ret)))
@[simp] def Re:List cr:=[.tmp 4]
def tD:List (Nat×cJ):=[
 (3,⟨1,8,.int .i64,.int .i64 0⟩),
 (5,⟨1,1,.int .u8,.int .u8 0⟩),
 (9,⟨1,16,.str,.str []⟩),
 (35,⟨1,24,.slice 5,.slice 1 .nil []⟩),
 (38,⟨1,24,.slice 40,.slice 4 .nil []⟩),
 (40,⟨4,56,.struct [(0,3),(1,3),(2,9),(3,38)],.agg [.int .i64 0,.int .i64 0,.str [],.slice 4 .nil []]⟩),
 (59,⟨1,24,.slice 86,.slice 7 .nil []⟩),
 (61,⟨1,24,.struct [(0,59)],.agg [.slice 7 .nil []]⟩),
 (63,⟨1,24,.slice 65,.slice 4 .nil []⟩),
 (65,⟨4,72,.struct [(0,3),(1,9),(2,38),(3,63)],.agg [.int .i64 0,.str [],.slice 4 .nil [],.slice 4 .nil []]⟩),
 (86,⟨7,104,.struct [(0,9),(1,3),(2,3),(3,65)],.agg [.str [],.int .i64 0,.int .i64 0,.int .i64 0,.str [],.slice 4 .nil [],.slice 4 .nil []]⟩)]
theorem nF:ez aQ tD=true:=by kernel_rfl
theorem aby:c8 tD LY Rj 2 Tryz.f40=true:=by kernel_rfl
theorem Wv:aQ.funcs[(40:Nat)]? =some Tryz.f40:=Tryz.func40
theorem abx:c8 tD LX Rf 2 Tryz.f41=true:=by kernel_rfl
theorem Wu:aQ.funcs[(41:Nat)]? =some Tryz.f41:=Tryz.func41
theorem QK:c8 tD Gj Rm 2 Tryz.f92=true:=by kernel_rfl
theorem Nb:aQ.funcs[(92:Nat)]? =some Tryz.f92:=Tryz.func92
theorem QH:c8 tD Gg Rh 2 Tryz.f93=true:=by kernel_rfl
theorem M8:aQ.funcs[(93:Nat)]? =some Tryz.f93:=Tryz.func93
theorem QJ:c8 tD Gi Rk 2 Tryz.f112=true:=by kernel_rfl
theorem Na:aQ.funcs[(112:Nat)]? =some Tryz.f112:=Tryz.func112
theorem QG:c8 tD Gf Rg 2 Tryz.f113=true:=by kernel_rfl
theorem M7:aQ.funcs[(113:Nat)]? =some Tryz.f113:=Tryz.func113
theorem QL:c8 tD Gk Rn 1 Tryz.f162=true:=by kernel_rfl
theorem Nc:aQ.funcs[(162:Nat)]? =some Tryz.f162:=Tryz.func162
theorem QI:c8 tD Gh Ri 2 Tryz.f181=true:=by kernel_rfl
theorem M9:aQ.funcs[(181:Nat)]? =some Tryz.f181:=Tryz.func181
theorem QF:c8 tD Ge Re 2 Tryz.f182=true:=by kernel_rfl
theorem M6:aQ.funcs[(182:Nat)]? =some Tryz.f182:=Tryz.func182
def xO:Nat->Int->List al->List al
 |0,_,o=>o
 |f+1,k,o=>if k<=0 then o else xO f (k/10) (nL (IntKind.u8.wrap (48+k.tmod 10)).toNat::o)
def bj(k:Int):List al:=if k<=0 then [109,48]else 109::xO k.toNat k []
theorem wM(k:Int)(aa:k<=4611686018427387904):b6 aQ 162 [.int .i64 k] (.str (bj k)):=by
 by_cases bL:k<=0
 ·rw[bj,if_pos bL];refine bQ nF Nc QL fun aN=>?_;unfold Gk;exact cw
 rw[bj,bq bL];refine bQ nF Nc QL fun aN=>?_;unfold Gk;simp;(with_reducible repeat' first|refine aA ?_|simp[bL]);refine h1 (fun(x:Int×List al)=>⟨[(0,.int .i64 x.1),(3,.str x.2)],[],[],0,[]⟩) (fun x=>x.1.toNat) (fun x=>0<=x.1/\x.1<=4611686018427387904/\x.1.toNat*10 ^ x.2.length<=4611686018427387904/\x.2.length<=19/\∃f:Nat,x.1<=f/\xO f x.1 x.2=xO k.toNat k []) (k,[]) dw ⟨Ω,aa,by simp;omega,Ψ,k.toNat,by simp;omega,rfl⟩ ?_;rintro⟨j,o⟩ ⟨I,J,ao,um,f,aO,bp⟩ _;simp only at I J ao um aO bp;by_cases aw:0<j
 ·have aG:o.length<=18:=by
   rcases ly 18 o.length with h|h
   ·have cj:10 ^ 19<=10 ^ o.length:=Nat.pow_le_pow_right Ω Ω;have eu:1*10 ^ o.length<=j.toNat*10 ^ o.length:=Nat.mul_le_mul_right _ Ω;omega
   ·exact h
  have aF:j.tdiv 10=j/10:=Int.tdiv_eq_ediv_of_nonneg I;have hm:j.tmod 10=j%10:=Int.tmod_eq_emod_of_nonneg I;have hw:kD.wrap (j.tdiv 10)=j/10:=by rw[aF];exact ng _ Ω
  simp[aw];(with_reducible repeat' first|refine aA ?_|simp);all_goals first|(refine⟨by unfold aY;omega,by unfold bN;omega,?_⟩)|skip
  rw[hw];obtain⟨hK,rfl⟩:∃hK,f=hK+1:=⟨f-1,Ω⟩;refine b9.whl (j/10,nL (IntKind.u8.wrap (48+j.tmod 10)).toNat::o) (by simp;omega) ⟨by simp;omega,by simp;omega,?_,by simp;omega,hK,by simp;omega,?_⟩ dw
  ·simp only[lx,Nat.pow_succ];have cj:(j/10).toNat*10<=j.toNat:=Ω
   have eu:=Nat.mul_le_mul_right (10 ^ o.length) cj;rw[Nat.mul_assoc,Nat.mul_comm 10]at eu;omega
  ·rw[<-bp];simp only[xO];rw[bq Ω]
 ·simp[aw];(with_reducible repeat' first|refine aA ?_|simp);all_goals first|(refine⟨by unfold bN;omega,?_⟩)|skip
  have pw:xO f j o=o:=by cases f<;>simp[xO];omega
  rw[pw]at bp;rw[<-bp];simp[cg,Rn,a1,be,aV]
theorem hZ.dt':∀(n:Nat),(∀p,si p<=n->hZ p->b0 p)/\(∀a6,iA a6<=n->(∀p∈a6,hZ p)->dtL a6)
 |0=>by
  refine⟨fun p aU h=>?_,fun a6 aU h=>?_⟩
  ·obtain⟨a,b,s,ys,_,_,e⟩:=h.inv;omega
  ·cases a6 with
   |nil=>simp[dtL]
   |cons p a6=>obtain⟨a,b,s,ys,_,_,e⟩:=(h p Ψ).inv;simp only[iA]at aU;omega
 |n+1=>by
  obtain⟨_,bo⟩:=hZ.dt' n;have I:∀p,si p<=n+1->hZ p->b0 p:=fun p aU h=>by obtain⟨a,b,s,ys,rfl,bA,e⟩:=h.inv;simp only[b0,dtL,true_and,and_true];exact⟨Ω,bo ys Ω bA⟩
  refine⟨I,fun a6 aU h=>Di.2 fun x af=>I x ?_ (h x af)⟩;have:=yb af;omega
theorem hZ.dtL{a6:List ae}(h:∀p∈a6,hZ p):dtL a6:=(hZ.dt' _).2 a6 (cq _) h
theorem GU(c:Nat)(a bU:Int)(s:List al)(t:h9)(ys:List ae):eh c (.agg [.int .i64 a,.int .i64 bU,.str s,.slice 4 t ys])= .agg [.int .i64 a,.int .i64 bU,.str s,eh c (.slice 4 t ys)]:=rfl
theorem Ql(b5:Int->List al)(a bU:Int)(s:List al)(t:h9)(ys:List ae)(k:Int):dp b5 (.agg [.int .i64 a,.int .i64 bU,.str s,.slice 4 t ys]) k=(.agg [.int .i64 k,.int .i64 (k+1),.str (b5 (k+1+1)),.slice 4 t (bd b5 ys (k+1+1+1)).1],(bd b5 ys (k+1+1+1)).2):=by simp[dp,bd]
theorem RT(ε:Nat->Nat)(c:Nat)(a bU:Int)(s:List al)(t:h9)(ys:List ae):dc ε c (.agg [.int .i64 a,.int .i64 bU,.str s,.slice 4 t ys])=dc ε c (.slice 4 t ys):=by show []++([]++([]++(dc ε (c+0+0+0) (.slice 4 t ys)++[])))=_;simp
theorem yC(a bU:Int)(s:List al)(t:h9)(ys:List ae):bO (.agg [.int .i64 a,.int .i64 bU,.str s,.slice 4 t ys])=bO (.slice 4 t ys):=by show 0+(0+(0+(bO (.slice 4 t ys)+0)))=_;omega
theorem aep(k:Int):b6 aQ 92 [.slice 4 .no [],.int .i64 k] (.int .i64 k):=by refine bQ nF Nb QK fun aN=>?_;unfold Gj;simp;(with_reducible repeat' first|refine aA ?_|simp);refine gu (fun i (_:Unit)=>⟨[(0,.slice 4 .no []),(1,.int .i64 k),(5,.int .i64 i)],[],[],0,[]⟩) 0 (fun _ _=>True) () dw trivial (fun _ _ _=>?_) (fun i _ az _ _=>Ω);exact cw
theorem NK(k:Int)(b:Nat)(ε:Nat->Nat):b7 aQ 92 [eh b (.slice 4 .no []),.int .i64 k] (dR ε b (.slice 4 .no [])) fun r ai=>r= .int .i64 k/\ai=dR ε b (.slice 4 .no []):=aep k
theorem ad8(k:Int):b6 aQ 93 [.slice 4 .no [],.int .i64 k] (.int .i64 k):=by refine bQ nF M8 QH fun aN=>?_;unfold Gg;simp;(with_reducible repeat' first|refine aA ?_|simp);refine gu (fun i (_:Unit)=>⟨[(0,.slice 4 .no []),(1,.int .i64 k),(5,.int .i64 i)],[],[],0,[]⟩) 0 (fun _ _=>True) () dw trivial (fun _ _ _=>?_) (fun i _ az _ _=>Ω);exact cw
theorem NH(k:Int)(b:Nat)(ε:Nat->Nat):b7 aQ 93 [eh b (.slice 4 .no []),.int .i64 k] (dR ε b (.slice 4 .no [])) fun r ai=>r= .int .i64 k/\ai=dR ε b (.slice 4 .no []):=ad8 k
theorem NJ:∀(n:Nat) (xs:List ae),iA xs<=n->(∀x∈xs,hZ x)->∀(k:Int) (b:Nat) (ε:Nat->Nat),0<=k->(bd bj xs k).2<=4611686018427387904->
  b7 aQ 92 [eh b (.slice 4 .no xs),.int .i64 k] (dR ε b (.slice 4 .no xs)) fun r ai=>r= .int .i64 (bd bj xs k).2/\ai=dR ε b (.slice 4 .no (bd bj xs k).1):=by
 intro n;induction n with
 |zero=>
  intro xs dq af k b ε bL aa;cases xs with
  |nil=>exact NK k b ε
  |cons x xs=>obtain⟨a,bU,s,ys,_,_,e⟩:=(af x Ψ).inv;simp only[iA]at dq;omega
 |succ n bo=>
 intro xs dq af k b ε bL aa;have aF:dtL xs:=hZ.dtL af;have aq:h8 (dR ε b (.slice 4 .no xs)):=nR (by simp[b0,aF]);by_cases b4:xs=[]
 ·subst b4;exact NK k b ε
 have xo:(bd bj (xs.take 0) k).2=k:=by simp[bd]
 refine b7.mk mixed nF Nb QK Ψ aq.obj fun aN b3=>?_;unfold Gj;rw[yG b4];simp;(with_reducible repeat' first|refine aA ?_|simp);have rF:∀i,bO (.slice 4 .no (jY bj xs k i))=bO (.slice 4 .no xs):=fun i=>ra (pS ..) (IZ ..);have jT:∀i,b0 (.slice 4 .no (jY bj xs k i)):=fun i=>by simp only[b0];exact⟨Ω,I0 _ _ _ aF⟩
 have fu:rng b (b+bO (.slice 4 .no xs)) (.obj b):=⟨b,rfl,cq _,by cases xs with|nil=>exact absurd rfl b4|cons x xs=>simp only[bO];omega⟩;have Bo:=BV bj (xs:=xs) k fun x h=>by obtain⟨a,bU,s,ys,rfl,_⟩:=(af x h).inv;exact⟨_,_,_,rfl⟩
 have agW:∀i,jY bj xs k i≠[]:=fun i e=>b4 (List.length_eq_zero_iff.1 (by rw[<-pS bj xs k i,e];rfl));refine gu (fun i (_:Unit)=>⟨[(0,.row 4 (.obj b) xs.length),(1,.int .i64 (bd bj (xs.take i) k).2),(5,.int .i64 i)],[],dc ε b (.slice 4 .no (jY bj xs k i)),0,ec (dR ε b (.slice 4 .no xs))⟩) xs.length (fun _ _=>True) () ?_ trivial (fun _ _ _=>?_) (fun i _ az _ _=>?_)
 ·refine hH.to (jT _) (rF _) ?_ (fun k o h=>by rw[I2]at h;exact h);simp[Pv.kin,fu,bd]
 ·rw[uI,j4];simp;(with_reducible repeat' first|refine aA ?_|simp);refine cW.at (dR ε b (.slice 4 .no (bd bj xs k).1)) Ψ (nR (by rw[<-uI];exact jT _)) (qk (by rw[<-uI];exact rF _)) (fun k cs h=>by simp[Pv.look]at h) (fun k o h=>h) ?_;simp[du,Rm,a1,be,aV]
 ·obtain⟨x,fF⟩:∃x,xs[i]? =some x:=⟨_,cF az⟩;have hm:=fJ fF;have I:k<=(bd bj (xs.take i) k).2:=jJ _ _ _;have J:=zt bj xs k (i+1);have bs:=zs bj k fF;have ch:=IY bj k fF;have fa:=I1 bj k fF;have hS:(bd bj (xs.take i) k).1.length=i:=by rw[lQ];simp;omega
  have lj:=fun(t':List (Nat×ae)) (st:aS)=>hH.to (t':=t') (st:=st) (ε:=ε) (b:=b) (jT (i+1)) (rF (i+1));rw[bs]at J;have hlen:((bd bj (xs.take i) k).1++x::xs.drop (i+1)).length=xs.length:=by rw[<-ch];exact pS ..
  rw[ch,oy (xs:=_++x::_) Ψ,hlen];generalize oO:(bd bj (xs.take i) k).1=M at hS ch fa⊢;generalize cG:(bd bj (xs.take i) k).2=K at bs fa I J⊢;generalize bu:xs.drop (i+1)=R at ch fa⊢;obtain⟨a,bU,s,ys,rfl,gF,HZ⟩:=(af x hm).inv;have dd:=yF (b:=b+1) (r:=R) (x:= .agg [.int .i64 a,.int .i64 bU,.str s,.slice 4 .no ys]) hS;have jc:(gf (b+1) (M++ .agg [.int .i64 a,.int .i64 bU,.str s,.slice 4 .no ys]::R)).length=xs.length:=by rw[qt,<-ch];exact pS ..
  rw[GU]at dd;rw[Ql]at bs fa J;generalize cm:eh (b+1+b2 M) (.slice 4 .no ys)=E at dd;generalize lF:gf (b+1) (M++ .agg [.int .i64 a,.int .i64 bU,.str s,.slice 4 .no ys]::R)=X at dd jc⊢;have gh:K+1+1+1<=(bd bj ys (K+1+1+1)).2:=jJ ..;simp only at J;have cx:=wM (K+1+1) Ω;have lM:∀h,(X[i]'h)= .agg [.int .i64 a,.int .i64 bU,.str s,E]:=fun h=>by rw[cF h]at dd;exact gq dd
  clear dd;simp[az,lM,jc];(with_reducible repeat' first|refine aA ?_|refine a8 cx ?_|refine ba cx ?_|simp[lM,jc,az]);have s8:dtL ys:=hZ.dtL gF;have aL:=bo ys (by have:=yb hm;omega) gF (K+1+1+1) (b+1+b2 M) ε Ω Ω;have qy:(bd bj ys (K+1+1+1)).1.length=ys.length:=lQ ..;have uu:b2 (bd bj ys (K+1+1+1)).1=b2 ys:=rb ..;generalize bd bj ys (K+1+1+1)=Q at qy uu aL bs fa J gh;have gE:bC E=E:=by rw[<-cm];exact tv
  rw[gE];subst cm;refine CallDo.sub (ε:=ε) (b:=b+1) (l:=M) (r:=R) (y:= .agg [.int .i64 a,.int .i64 bU,.str s,.slice 4 .no ys]) (y':= .agg [.int .i64 K,.int .i64 (K+1),.str (bj (K+1+1)),.slice 4 .no Q.1]) (by simp[b0,Pv.dtL,s8]) (by rw[yC,yC];exact ra qy uu) (by simp only[dR,RT];exact aL) (fun k o h=>?_) ?_ (fun gr aG hu=>?_)
  ·obtain⟨m,rfl,fc,cv⟩:=rZ _ _ _ _ _ h;simp only[Pv.look];rw[bq (by simp;omega)];exact h
  ·rw[yC];simp only[kinL,Pv.kin,and_true];exact pP _ _ (by simp only[b0];exact⟨Ω,s8⟩)
  ·have jD:=hu (.obj b) (fun⟨m,e,fc,cv⟩=>by cases e;omega);simp only[Pv.look,if_true]at jD;simp;(with_reducible repeat' first|refine aA ?_|simp);refine b9.rng () az ?_ ?_
   ·trivial
   rw[show(bd bj (xs.take (i+1)) k).2=Q.2 from bs];refine lj _ _ (by simp[Pv.kin,fu]) fun k o h=>?_;rw[fa,oy Ψ]at h;simp only[Pv.look]at h;split at h
   ·rename_i e;subst e;rw[jD,<-h,<-lF,<-yH qy,<-GU (b+1+b2 M) K (K+1) (bj (K+1+1)),GQ hS (by rw[yC,yC];exact ra qy uu),<-pS bj xs k (i+1),fa]
   ·exact aG k o h
theorem NG:∀(n:Nat) (xs:List ae),iA xs<=n->(∀x∈xs,hZ x)->∀(k:Int) (b:Nat) (ε:Nat->Nat),0<=k->(bd bj xs k).2<=4611686018427387904->
  b7 aQ 93 [eh b (.slice 4 .no (bd bj xs k).1),.int .i64 k] (dR ε b (.slice 4 .no (bd bj xs k).1)) fun r ai=>r= .int .i64 (bd bj xs k).2/\ai=dR ε b (.slice 4 .no (bd bj xs k).1):=by
 intro n;induction n with
 |zero=>
  intro xs dq af k b ε bL aa;cases xs with
  |nil=>exact NH k b ε
  |cons x xs=>obtain⟨a,bU,s,ys,_,_,e⟩:=(af x Ψ).inv;simp only[iA]at dq;omega
 |succ n bo=>
 intro xs dq af k b ε bL aa;have aF:dtL (bd bj xs k).1:=n3 _ _ _ (hZ.dtL af);have jT:b0 (.slice 4 .no (bd bj xs k).1):=by simp only[b0];exact⟨Ω,aF⟩
 have aq:h8 (dR ε b (.slice 4 .no (bd bj xs k).1)):=nR jT;by_cases b4:xs=[]
 ·subst b4;exact NH k b ε
 have mN:(bd bj xs k).1.length=xs.length:=lQ ..;have mP:(bd bj xs k).1≠[]:=fun e=>b4 (List.length_eq_zero_iff.1 (by rw[<-mN,e];rfl));have Bo:=BV bj (xs:=xs) k fun x h=>by obtain⟨a,bU,s,ys,rfl,_⟩:=(af x h).inv;exact⟨_,_,_,rfl⟩
 have fu:rng b (b+bO (.slice 4 .no (bd bj xs k).1)) (.obj b):=⟨b,rfl,cq _,by revert mP;cases (bd bj xs k).1 with|nil=>exact fun h=>absurd rfl h|cons x xs=>intro _;simp only[bO];omega⟩;have lj:=fun(t':List (Nat×ae)) (st:aS)=>hH.to (t':=t') (st:=st) (ε:=ε) (b:=b) jT rfl;refine b7.mk mixed nF M8 QH Ψ aq.obj fun aN b3=>?_;unfold Gg;rw[yG mP,mN];simp;(with_reducible repeat' first|refine aA ?_|simp);refine gu (fun i (_:Unit)=>⟨[(0,.row 4 (.obj b) xs.length),(1,.int .i64 (bd bj (xs.take i) k).2),(5,.int .i64 i)],[],dc ε b (.slice 4 .no (bd bj xs k).1),0,ec (dR ε b (.slice 4 .no (bd bj xs k).1))⟩) xs.length (fun _ _=>True) () ?_ trivial (fun _ _ _=>?_) (fun i _ az _ _=>?_)
 ·refine lj _ _ ?_ (fun k o h=>h);simp[Pv.kin,fu,bd]
 ·rw[j4];simp;(with_reducible repeat' first|refine aA ?_|simp);refine cW.at (dR ε b (.slice 4 .no (bd bj xs k).1)) Ψ aq (qk rfl) (fun k cs h=>by simp[Pv.look]at h) (fun k o h=>h) ?_;simp[du,Rh,a1,be,aV]
 ·obtain⟨x,fF⟩:∃x,xs[i]? =some x:=⟨_,cF az⟩;have hm:=fJ fF;have I:k<=(bd bj (xs.take i) k).2:=jJ _ _ _;have J:=zt bj xs k (i+1);have bs:=zs bj k fF;have ch:=I5 bj k fF;have hS:(bd bj (xs.take i) k).1.length=i:=by rw[lQ];simp;omega
  rw[bs]at J;generalize vE:(bd bj xs k).1=Y at*;have ju:=oy (ε:=ε) (b:=b) (sz:=4) (t:= .no) mP;rw[mN]at ju;rw[ju];generalize oO:(bd bj (xs.take i) k).1=M at hS ch;generalize cG:(bd bj (xs.take i) k).2=K at bs ch I J⊢;obtain⟨a,bU,s,ys,rfl,gF,HZ⟩:=(af x hm).inv;rw[Ql]at bs ch J;simp only at J;generalize (bd bj (xs.drop (i+1)) _).1=R at ch;have dd:=yF (b:=b+1) (r:=R) (x:= .agg [.int .i64 K,.int .i64 (K+1),.str (bj (K+1+1)),.slice 4 .no (bd bj ys (K+1+1+1)).1]) hS;rw[<-ch,GU]at dd;have jc:(gf (b+1) Y).length=xs.length:=by rw[qt,mN]
  generalize cm:eh (b+1+b2 M) (.slice 4 .no (bd bj ys (K+1+1+1)).1)=E at dd;generalize lF:gf (b+1) Y=X at dd jc ju⊢;have gh:K+1+1+1<=(bd bj ys (K+1+1+1)).2:=jJ ..;have cx:=wM (K+1+1) Ω;have lM:∀h,(X[i]'h)= .agg [.int .i64 K,.int .i64 (K+1),.str (bj (K+1+1)),E]:=fun h=>by rw[cF h]at dd;exact gq dd
  clear dd;have aL:=bo ys (by have:=yb hm;omega) gF (K+1+1+1) (b+1+b2 M) ε Ω Ω;have s8:dtL (bd bj ys (K+1+1+1)).1:=n3 _ _ _ (hZ.dtL gF);generalize bd bj ys (K+1+1+1)=Q at s8 cm aL bs ch J gh;simp[az,lM,jc];(with_reducible repeat' first|refine aA ?_|refine a8 cx ?_|refine ba cx ?_|simp[lM,jc,az]);have gE:bC E=E:=by rw[<-cm];exact tv
  rw[gE];subst cm;refine CallDo.sub (ε:=ε) (b:=b+1) (l:=M) (r:=R) (y:= .agg [.int .i64 K,.int .i64 (K+1),.str (bj (K+1+1)),.slice 4 .no Q.1]) (y':= .agg [.int .i64 K,.int .i64 (K+1),.str (bj (K+1+1)),.slice 4 .no Q.1]) (by simp[b0,Pv.dtL,s8]) rfl (by simp only[dR,RT];exact aL) (fun k o h=>?_) ?_ (fun gr aG hu=>?_)
  ·rw[<-ch]at h;obtain⟨m,rfl,fc,cv⟩:=rZ _ _ _ _ _ h;simp only[Pv.look];rw[bq (by simp;omega)];exact h
  ·rw[yC];simp only[kinL,Pv.kin,and_true];exact pP _ _ (by simp only[b0];exact⟨Ω,s8⟩)
  ·have jD:=hu (.obj b) (fun⟨m,e,fc,cv⟩=>by cases e;omega);simp only[Pv.look,if_true]at jD;have vS:¬(Q.2<0):=Ω
   simp[vS];(with_reducible repeat' first|refine aA ?_|simp[vS]);refine b9.rng () az ?_ ?_
   ·trivial
   rw[show(bd bj (xs.take (i+1)) k).2=Q.2 from bs];have Bt:aC.obj b::(fG ε (b+1) Y).map (fun x=>x.1)=ec (dR ε b (.slice 4 .no Y)):=by simp[oy mP]
   rw[Bt,<-ju];refine lj _ _ ?_ (fun k o h=>?_)
   ·simp[Pv.kin,fu]
   rw[oy mP,mN,lF]at h;simp only[Pv.look]at h;split at h
   ·rename_i e;subst e;rw[jD,<-h]
   ·rw[<-ch]at aG;exact aG k o h
inductive jq:ae->Prop
 |mk (a:Int) (s:List al) (ts gs:List ae):(∀t∈ts,hZ t)->(∀g∈gs,jq g)->jq (.agg [.int .i64 a,.str s,.slice 4 .no ts,.slice 4 .no gs])
theorem jq.inv{p:ae}(h:jq p):∃a s ts gs,p= .agg [.int .i64 a,.str s,.slice 4 .no ts,.slice 4 .no gs]/\(∀t∈ts,hZ t)/\(∀g∈gs,jq g)/\si p=1+(iA ts+iA gs):=by
 cases h with
 |mk a s ts gs I J=>exact⟨a,s,ts,gs,rfl,I,J,by simp[si,iA]⟩
theorem jq.dt':∀(n:Nat),(∀p,si p<=n->jq p->b0 p)/\(∀a6,iA a6<=n->(∀p∈a6,jq p)->Pv.dtL a6)
 |0=>by
  refine⟨fun p aU h=>?_,fun a6 aU h=>?_⟩
  ·obtain⟨a,s,ts,gs,_,_,_,e⟩:=h.inv;omega
  ·cases a6 with
   |nil=>simp[Pv.dtL]
   |cons p a6=>obtain⟨a,s,ts,gs,_,_,_,e⟩:=(h p Ψ).inv;simp only[iA]at aU;omega
 |n+1=>by
  obtain⟨_,bo⟩:=jq.dt' n;have I:∀p,si p<=n+1->jq p->b0 p:=fun p aU h=>by obtain⟨a,s,ts,gs,rfl,aD,aR,e⟩:=h.inv;simp only[b0,Pv.dtL,true_and,and_true];exact⟨⟨Ω,hZ.dtL aD⟩,Ω,bo gs Ω aR⟩
  refine⟨I,fun a6 aU h=>Di.2 fun x af=>I x ?_ (h x af)⟩;have:=yb af;omega
theorem jq.dtL{a6:List ae}(h:∀p∈a6,jq p):Pv.dtL a6:=(jq.dt' _).2 a6 (cq _) h
theorem GR(c:Nat)(a:Int)(s:List al)(t t':h9)(ts gs:List ae):eh c (.agg [.int .i64 a,.str s,.slice 4 t ts,.slice 4 t' gs])= .agg [.int .i64 a,.str s,eh c (.slice 4 t ts),eh (c+bO (.slice 4 t ts)) (.slice 4 t' gs)]:=rfl
theorem Qk(b5:Int->List al)(a:Int)(s:List al)(t t':h9)(ts gs:List ae)(k:Int):dp b5 (.agg [.int .i64 a,.str s,.slice 4 t ts,.slice 4 t' gs]) k=(.agg [.int .i64 k,.str (b5 (k+1)),.slice 4 t (bd b5 ts (k+1+1)).1,.slice 4 t' (bd b5 gs (bd b5 ts (k+1+1)).2).1],(bd b5 gs (bd b5 ts (k+1+1)).2).2):=by simp[dp,bd]
theorem acX(ε:Nat->Nat)(c:Nat)(a:Int)(s:List al)(t t':h9)(ts gs:List ae):dc ε c (.agg [.int .i64 a,.str s,.slice 4 t ts,.slice 4 t' gs])=dc ε c (.slice 4 t ts)++dc ε (c+bO (.slice 4 t ts)) (.slice 4 t' gs):=by show []++([]++(dc ε (c+0+0) (.slice 4 t ts)++(dc ε (c+0+0+bO (.slice 4 t ts)) (.slice 4 t' gs)++[])))=_;simp
theorem GD(a:Int)(s:List al)(t t':h9)(ts gs:List ae):bO (.agg [.int .i64 a,.str s,.slice 4 t ts,.slice 4 t' gs])=bO (.slice 4 t ts)+bO (.slice 4 t' gs):=by show 0+(0+(bO (.slice 4 t ts)+(bO (.slice 4 t' gs)+0)))=_;omega
theorem Fp(ε:Nat->Nat)(c:Nat)(M R:List ae)(a:Int)(s:List al)(t t':h9)(ts gs:List ae):fG ε c (M++ .agg [.int .i64 a,.str s,.slice 4 t ts,.slice 4 t' gs]::R)=fG ε c (M++ .slice 4 t ts:: .slice 4 t' gs::R):=by rw[x2,x2];simp only[fG];rw[acX,GD,kE,Nat.add_assoc (c+b2 M)]
theorem C8(M:List ae)(a:Int)(s:List al)(t t':h9)(ts gs:List ae):b2 (M++[.slice 4 t ts])=b2 M+bO (.slice 4 t ts):=by rw[C9];simp[b2]
theorem aen(k:Int):b6 aQ 181 [.slice 4 .no [],.int .i64 k] (.int .i64 k):=by refine bQ nF M9 QI fun aN=>?_;unfold Gh;simp;(with_reducible repeat' first|refine aA ?_|simp);refine gu (fun i (_:Unit)=>⟨[(0,.slice 4 .no []),(1,.int .i64 k),(5,.int .i64 i)],[],[],0,[]⟩) 0 (fun _ _=>True) () dw trivial (fun _ _ _=>?_) (fun i _ az _ _=>Ω);exact cw
theorem NI(k:Int)(b:Nat)(ε:Nat->Nat):b7 aQ 181 [eh b (.slice 4 .no []),.int .i64 k] (dR ε b (.slice 4 .no [])) fun r ai=>r= .int .i64 k/\ai=dR ε b (.slice 4 .no []):=aen k
theorem ad6(k:Int):b6 aQ 182 [.slice 4 .no [],.int .i64 k] (.int .i64 k):=by refine bQ nF M6 QF fun aN=>?_;unfold Ge;simp;(with_reducible repeat' first|refine aA ?_|simp);refine gu (fun i (_:Unit)=>⟨[(0,.slice 4 .no []),(1,.int .i64 k),(5,.int .i64 i)],[],[],0,[]⟩) 0 (fun _ _=>True) () dw trivial (fun _ _ _=>?_) (fun i _ az _ _=>Ω);exact cw
theorem NF(k:Int)(b:Nat)(ε:Nat->Nat):b7 aQ 182 [eh b (.slice 4 .no []),.int .i64 k] (dR ε b (.slice 4 .no [])) fun r ai=>r= .int .i64 k/\ai=dR ε b (.slice 4 .no []):=ad6 k
theorem Xj:∀(n:Nat) (xs:List ae),iA xs<=n->(∀x∈xs,jq x)->∀(k:Int) (b:Nat) (ε:Nat->Nat),0<=k->(bd bj xs k).2<=4611686018427387904->
  b7 aQ 181 [eh b (.slice 4 .no xs),.int .i64 k] (dR ε b (.slice 4 .no xs)) fun r ai=>r= .int .i64 (bd bj xs k).2/\ai=dR ε b (.slice 4 .no (bd bj xs k).1):=by
 intro n;induction n with
 |zero=>
  intro xs dq af k b ε bL aa;cases xs with
  |nil=>exact NI k b ε
  |cons x xs=>obtain⟨a,s,ts,gs,_,_,_,e⟩:=(af x Ψ).inv;simp only[iA]at dq;omega
 |succ n bo=>
 intro xs dq af k b ε bL aa;have aF:Pv.dtL xs:=jq.dtL af;have aq:h8 (dR ε b (.slice 4 .no xs)):=nR (by simp[b0,aF]);by_cases b4:xs=[]
 ·subst b4;exact NI k b ε
 have rF:∀i,bO (.slice 4 .no (jY bj xs k i))=bO (.slice 4 .no xs):=fun i=>ra (pS ..) (IZ ..);have jT:∀i,b0 (.slice 4 .no (jY bj xs k i)):=fun i=>by simp only[b0];exact⟨Ω,I0 _ _ _ aF⟩
 have fu:rng b (b+bO (.slice 4 .no xs)) (.obj b):=⟨b,rfl,cq _,by cases xs with|nil=>exact absurd rfl b4|cons x xs=>simp only[bO];omega⟩;refine b7.mk mixed nF M9 QI Ψ aq.obj fun aN b3=>?_;unfold Gh;rw[yG b4];simp;(with_reducible repeat' first|refine aA ?_|simp);refine gu (fun i (_:Unit)=>⟨[(0,.row 4 (.obj b) xs.length),(1,.int .i64 (bd bj (xs.take i) k).2),(5,.int .i64 i)],[],dc ε b (.slice 4 .no (jY bj xs k i)),0,ec (dR ε b (.slice 4 .no xs))⟩) xs.length (fun _ _=>True) () ?_ trivial (fun _ _ _=>?_) (fun i _ az _ _=>?_)
 ·refine hH.to (jT _) (rF _) ?_ (fun k o h=>by rw[I2]at h;exact h);simp[Pv.kin,fu,bd]
 ·rw[uI,j4];simp;(with_reducible repeat' first|refine aA ?_|simp);refine cW.at (dR ε b (.slice 4 .no (bd bj xs k).1)) Ψ (nR (by rw[<-uI];exact jT _)) (qk (by rw[<-uI];exact rF _)) (fun k cs h=>by simp[Pv.look]at h) (fun k o h=>h) ?_;simp[du,Ri,a1,be,aV]
 ·obtain⟨x,fF⟩:∃x,xs[i]? =some x:=⟨_,cF az⟩;have hm:=fJ fF;have I:k<=(bd bj (xs.take i) k).2:=jJ _ _ _;have J:=zt bj xs k (i+1);have bs:=zs bj k fF;have ch:=IY bj k fF;have fa:=I1 bj k fF;have hS:(bd bj (xs.take i) k).1.length=i:=by rw[lQ];simp;omega
  have lj:=fun(t':List (Nat×ae)) (st:aS)=>hH.to (t':=t') (st:=st) (ε:=ε) (b:=b) (jT (i+1)) (rF (i+1));rw[bs]at J;have hlen:((bd bj (xs.take i) k).1++x::xs.drop (i+1)).length=xs.length:=by rw[<-ch];exact pS ..
  have Bo:=BV bj (xs:=xs) k fun x h=>by obtain⟨a,s,ts,gs,rfl,_⟩:=(af x h).inv;exact⟨_,_,_,rfl⟩
  have b1:aY ((i:Int)+1):=by unfold aY;omega
  have Zn:=yb hm;have mM:=pS bj xs k (i+1);rw[ch,oy (xs:=_++x::_) Ψ,hlen];rw[fa]at mM;generalize oO:(bd bj (xs.take i) k).1=M at hS ch fa mM⊢;generalize cG:(bd bj (xs.take i) k).2=K at bs fa I J mM⊢;generalize bu:xs.drop (i+1)=R at ch fa mM⊢;obtain⟨a,s,ts,gs,rfl,rT,gg,HZ⟩:=(af x hm).inv;have dd:=yF (b:=b+1) (r:=R) (x:= .agg [.int .i64 a,.str s,.slice 4 .no ts,.slice 4 .no gs]) hS;have jc:(gf (b+1) (M++ .agg [.int .i64 a,.str s,.slice 4 .no ts,.slice 4 .no gs]::R)).length=xs.length:=by rw[qt,<-ch];exact pS ..
  rw[GR]at dd;rw[Qk]at bs fa J mM;have xE:Pv.dtL ts:=hZ.dtL rT;have Bg:Pv.dtL gs:=jq.dtL gg;have gh:K+1+1<=(bd bj ts (K+1+1)).2:=jJ ..;have hC:(bd bj ts (K+1+1)).2<=(bd bj gs (bd bj ts (K+1+1)).2).2:=jJ ..;simp only at J;have cx:=wM (K+1) Ω;have lH:=NJ (iA ts) ts (cq _) rT (K+1+1) (b+1+b2 M) ε Ω Ω;have qy:(bd bj ts (K+1+1)).1.length=ts.length:=lQ ..;have uu:b2 (bd bj ts (K+1+1)).1=b2 ts:=rb ..;have rE:Pv.dtL (bd bj ts (K+1+1)).1:=n3 _ _ _ xE;generalize bd bj ts (K+1+1)=Q at qy uu rE lH bs fa J gh hC mM;have jS:bO (.slice 4 .no Q.1)=bO (.slice 4 .no ts):=ra qy uu;have iL:=bo gs Ω gg Q.2 (b+1+b2 (M++[.slice 4 .no Q.1])) ε Ω Ω;have je:b+1+b2 (M++[.slice 4 .no Q.1])=b+1+b2 M+bO (.slice 4 .no ts):=by rw[C8 M 0 [] .no .no Q.1 [],jS];omega
  have fm:(bd bj gs Q.2).1.length=gs.length:=lQ ..;have Bv:b2 (bd bj gs Q.2).1=b2 gs:=rb ..;generalize bd bj gs Q.2=U at fm Bv iL bs fa J hC mM;have kL:bO (.slice 4 .no U.1)=bO (.slice 4 .no gs):=ra fm Bv;generalize cm:eh (b+1+b2 M) (.slice 4 .no ts)=E at dd lH;generalize mG:eh (b+1+b2 M+bO (.slice 4 .no ts)) (.slice 4 .no gs)=hQ at dd;generalize lF:gf (b+1) (M++ .agg [.int .i64 a,.str s,.slice 4 .no ts,.slice 4 .no gs]::R)=X at dd jc⊢;have lM:∀h,(X[i]'h)= .agg [.int .i64 a,.str s,E,hQ]:=fun h=>by rw[cF h]at dd;exact gq dd
  clear dd;rw[Fp];simp[az,lM,jc];(with_reducible repeat' first|refine aA ?_|refine a8 cx ?_|refine ba cx ?_|simp[lM,jc,az]);have gE:bC E=E:=by rw[<-cm];exact tv
  rw[gE];refine CallDo.sub (ε:=ε) (b:=b+1) (l:=M) (r:= .slice 4 .no gs::R) (y:= .slice 4 .no ts) (y':= .slice 4 .no Q.1) (by simp only[b0];exact⟨Ω,xE⟩) jS lH (fun k o h=>?_) ?_ (fun gr aG hu=>?_)
  ·obtain⟨m,rfl,fc,cv⟩:=rZ _ _ _ _ _ h;simp only[Pv.look];rw[bq (by simp;omega)];exact h
  ·rw[<-cm];simp only[kinL,Pv.kin,and_true];exact pP _ _ (by simp only[b0];exact⟨Ω,xE⟩)
  have jD:=hu (.obj b) (fun⟨m,e,fc,cv⟩=>by cases e;omega);simp only[Pv.look,if_true]at jD;have XT:i<X.length:=Ω
  have eQ:∀h,((X.set i (.agg [.int .i64 K,.str (bj (K+1)),E,hQ]))[i]'h)= .agg [.int .i64 K,.str (bj (K+1)),E,hQ]:=fun h=>by simp
  simp[jD];(with_reducible repeat' first|refine aA ?_|simp[jD,eQ,jc,az]);have xD:bC hQ=hQ:=by rw[<-mG];exact tv
  rw[xD];rw[je,mG]at iL;refine CallDo.sub (ε:=ε) (b:=b+1) (l:=M++[.slice 4 .no Q.1]) (r:=R) (y:= .slice 4 .no gs) (y':= .slice 4 .no U.1) (by simp only[b0];exact⟨Ω,Bg⟩) kL (by rw[je];exact iL) (fun k o h=>?_) ?_ (fun aJ hl xF=>?_)
  ·rw[kE]at h;exact aG k o h
  ·rw[je,<-mG];simp only[kinL,Pv.kin,and_true];exact pP _ _ (by simp only[b0];exact⟨Ω,Bg⟩)
  have rV:=xF (.obj b) (fun⟨m,e,fc,cv⟩=>by cases e;omega);rw[jD]at rV;simp;(with_reducible repeat' first|refine aA ?_|simp[b1]);refine b9.rng () az ?_ ?_
  ·trivial
  rw[show(bd bj (xs.take (i+1)) k).2=U.2 from bs];refine lj _ _ (by simp[Pv.kin,fu]) fun k o h=>?_;rw[fa,oy Ψ]at h;simp only[Pv.look]at h;split at h
  ·rename_i e;subst e;rw[rV,<-h,<-lF,<-cm,<-mG,<-yH qy,<-yH (sz:=4) (t:= .no) fm,<-jS,<-GR (b+1+b2 M) K (bj (K+1)),GQ hS (by rw[GD,GD,jS,kL]),mM]
  ·rw[Fp]at h;refine hl k o ?_;rw[kE];exact h
theorem Xd:∀(n:Nat) (xs:List ae),iA xs<=n->(∀x∈xs,jq x)->∀(k:Int) (b:Nat) (ε:Nat->Nat),0<=k->(bd bj xs k).2<=4611686018427387904->
  b7 aQ 182 [eh b (.slice 4 .no (bd bj xs k).1),.int .i64 k] (dR ε b (.slice 4 .no (bd bj xs k).1)) fun r ai=>r= .int .i64 (bd bj xs k).2/\ai=dR ε b (.slice 4 .no (bd bj xs k).1):=by
 intro n;induction n with
 |zero=>
  intro xs dq af k b ε bL aa;cases xs with
  |nil=>exact NF k b ε
  |cons x xs=>obtain⟨a,s,ts,gs,_,_,_,e⟩:=(af x Ψ).inv;simp only[iA]at dq;omega
 |succ n bo=>
 intro xs dq af k b ε bL aa;have aF:Pv.dtL (bd bj xs k).1:=n3 _ _ _ (jq.dtL af);have jT:b0 (.slice 4 .no (bd bj xs k).1):=by simp only[b0];exact⟨Ω,aF⟩
 have aq:h8 (dR ε b (.slice 4 .no (bd bj xs k).1)):=nR jT;by_cases b4:xs=[]
 ·subst b4;exact NF k b ε
 have mN:(bd bj xs k).1.length=xs.length:=lQ ..;have mP:(bd bj xs k).1≠[]:=fun e=>b4 (List.length_eq_zero_iff.1 (by rw[<-mN,e];rfl));have Bo:=BV bj (xs:=xs) k fun x h=>by obtain⟨a,s,ts,gs,rfl,_⟩:=(af x h).inv;exact⟨_,_,_,rfl⟩
 have fu:rng b (b+bO (.slice 4 .no (bd bj xs k).1)) (.obj b):=⟨b,rfl,cq _,by revert mP;cases (bd bj xs k).1 with|nil=>exact fun h=>absurd rfl h|cons x xs=>intro _;simp only[bO];omega⟩;have lj:=fun(t':List (Nat×ae)) (st:aS)=>hH.to (t':=t') (st:=st) (ε:=ε) (b:=b) jT rfl;refine b7.mk mixed nF M6 QF Ψ aq.obj fun aN b3=>?_;unfold Ge;rw[yG mP,mN];simp;(with_reducible repeat' first|refine aA ?_|simp);refine gu (fun i (_:Unit)=>⟨[(0,.row 4 (.obj b) xs.length),(1,.int .i64 (bd bj (xs.take i) k).2),(5,.int .i64 i)],[],dc ε b (.slice 4 .no (bd bj xs k).1),0,ec (dR ε b (.slice 4 .no (bd bj xs k).1))⟩) xs.length (fun _ _=>True) () ?_ trivial (fun _ _ _=>?_) (fun i _ az _ _=>?_)
 ·refine lj _ _ ?_ (fun k o h=>h);simp[Pv.kin,fu,bd]
 ·rw[j4];simp;(with_reducible repeat' first|refine aA ?_|simp);refine cW.at (dR ε b (.slice 4 .no (bd bj xs k).1)) Ψ aq (qk rfl) (fun k cs h=>by simp[Pv.look]at h) (fun k o h=>h) ?_;simp[du,Re,a1,be,aV]
 ·obtain⟨x,fF⟩:∃x,xs[i]? =some x:=⟨_,cF az⟩;have hm:=fJ fF;have Zn:=yb hm;have I:k<=(bd bj (xs.take i) k).2:=jJ _ _ _;have J:=zt bj xs k (i+1);have bs:=zs bj k fF;have ch:=I5 bj k fF;have b1:aY ((i:Int)+1):=by unfold aY;omega
  have hS:(bd bj (xs.take i) k).1.length=i:=by rw[lQ];simp;omega
  rw[bs]at J;generalize vE:(bd bj xs k).1=Y at*;have ju:=oy (ε:=ε) (b:=b) (sz:=4) (t:= .no) mP;rw[mN]at ju;rw[ju];generalize oO:(bd bj (xs.take i) k).1=M at hS ch;generalize cG:(bd bj (xs.take i) k).2=K at bs ch I J⊢;obtain⟨a,s,ts,gs,rfl,rT,gg,HZ⟩:=(af x hm).inv;rw[Qk]at bs ch J;simp only at J;generalize (bd bj (xs.drop (i+1)) _).1=R at ch;have dd:=yF (b:=b+1) (r:=R) (x:= .agg [.int .i64 K,.str (bj (K+1)),.slice 4 .no (bd bj ts (K+1+1)).1,.slice 4 .no (bd bj gs (bd bj ts (K+1+1)).2).1]) hS;rw[<-ch,GR]at dd;have jc:(gf (b+1) Y).length=xs.length:=by rw[qt,mN]
  have gh:K+1+1<=(bd bj ts (K+1+1)).2:=jJ ..;have hC:(bd bj ts (K+1+1)).2<=(bd bj gs (bd bj ts (K+1+1)).2).2:=jJ ..;have cx:=wM (K+1) Ω;have lH:=NG (iA ts) ts (cq _) rT (K+1+1) (b+1+b2 M) ε Ω Ω;have rE:Pv.dtL (bd bj ts (K+1+1)).1:=n3 _ _ _ (hZ.dtL rT);generalize bd bj ts (K+1+1)=Q at rE lH bs ch dd J gh hC;have iL:=bo gs Ω gg Q.2 (b+1+b2 (M++[.slice 4 .no Q.1])) ε Ω Ω;have xm:Pv.dtL (bd bj gs Q.2).1:=n3 _ _ _ (jq.dtL gg);have je:b+1+b2 (M++[.slice 4 .no Q.1])=b+1+b2 M+bO (.slice 4 .no Q.1):=by rw[C8 M 0 [] .no .no Q.1 []];omega
  generalize bd bj gs Q.2=U at xm iL bs ch dd J hC;generalize cm:eh (b+1+b2 M) (.slice 4 .no Q.1)=E at dd lH;generalize mG:eh (b+1+b2 M+bO (.slice 4 .no Q.1)) (.slice 4 .no U.1)=hQ at dd;generalize lF:gf (b+1) Y=X at dd jc ju⊢;have lM:∀h,(X[i]'h)= .agg [.int .i64 K,.str (bj (K+1)),E,hQ]:=fun h=>by rw[cF h]at dd;exact gq dd
  clear dd;simp[az,lM,jc];(with_reducible repeat' first|refine aA ?_|refine a8 cx ?_|refine ba cx ?_|simp[lM,jc,az]);have gE:bC E=E:=by rw[<-cm];exact tv
  have xD:bC hQ=hQ:=by rw[<-mG];exact tv
  rw[gE];refine CallDo.sub (ε:=ε) (b:=b+1) (l:=M) (r:= .slice 4 .no U.1::R) (y:= .slice 4 .no Q.1) (y':= .slice 4 .no Q.1) (by simp only[b0];exact⟨Ω,rE⟩) rfl lH (fun k o h=>?_) ?_ (fun gr aG hu=>?_)
  ·rw[<-Fp ε (b+1) M R K (bj (K+1)),<-ch]at h;obtain⟨m,rfl,fc,cv⟩:=rZ _ _ _ _ _ h;simp only[Pv.look];rw[bq (by simp;omega)];exact h
  ·rw[<-cm];simp only[kinL,Pv.kin,and_true];exact pP _ _ (by simp only[b0];exact⟨Ω,rE⟩)
  have jD:=hu (.obj b) (fun⟨m,e,fc,cv⟩=>by cases e;omega);simp only[Pv.look,if_true]at jD;have vS:¬(Q.2<0):=Ω
  simp[jD,vS];(with_reducible repeat' first|refine aA ?_|simp[jD,lM,jc,az,vS]);rw[xD];rw[je,mG]at iL;refine CallDo.sub (ε:=ε) (b:=b+1) (l:=M++[.slice 4 .no Q.1]) (r:=R) (y:= .slice 4 .no U.1) (y':= .slice 4 .no U.1) (by simp only[b0];exact⟨Ω,xm⟩) rfl (by rw[je];exact iL) (fun k o h=>?_) ?_ (fun aJ hl xF=>?_)
  ·rw[kE]at h;exact aG k o h
  ·rw[je,<-mG];simp only[kinL,Pv.kin,and_true];exact pP _ _ (by simp only[b0];exact⟨Ω,xm⟩)
  have rV:=xF (.obj b) (fun⟨m,e,fc,cv⟩=>by cases e;omega);rw[jD]at rV;have rU:¬(U.2<0):=Ω
  simp[rU];(with_reducible repeat' first|refine aA ?_|simp[rU,b1]);refine b9.rng () az ?_ ?_
  ·trivial
  rw[show(bd bj (xs.take (i+1)) k).2=U.2 from bs];have Bt:aC.obj b::(fG ε (b+1) Y).map (fun x=>x.1)=ec (dR ε b (.slice 4 .no Y)):=by simp[oy mP]
  rw[Bt,<-ju];refine lj _ _ ?_ (fun k o h=>?_)
  ·simp[Pv.kin,fu]
  rw[oy mP,mN,lF]at h;simp only[Pv.look]at h;split at h
  ·rename_i e;subst e;rw[rV,<-h]
  ·rw[ch,Fp]at h;refine hl k o ?_;rw[kE];exact h
def pk(p:ae):Prop:= ∃(hW:List al) (a0 bB a:Int) (s:List al) (ts gs:List ae),p= .agg [.str hW,.int .i64 a0,.int .i64 bB,.int .i64 a,.str s,.slice 4 .no ts,.slice 4 .no gs]/\(∀t∈ts,hZ t)/\(∀g∈gs,jq g)
theorem pk.dtL{a6:List ae}(h:∀p∈a6,pk p):Pv.dtL a6:=Di.2 fun x af=>by obtain⟨hW,a0,bB,a,s,ts,gs,rfl,aD,aR⟩:=h x af;simp only[b0,Pv.dtL,true_and,and_true];exact⟨⟨Ω,hZ.dtL aD⟩,Ω,jq.dtL aR⟩
theorem GS(c:Nat)(hW:List al)(a0 bB a:Int)(s:List al)(t t':h9)(ts gs:List ae):eh c (.agg [.str hW,.int .i64 a0,.int .i64 bB,.int .i64 a,.str s,.slice 4 t ts,.slice 4 t' gs])= .agg [.str hW,.int .i64 a0,.int .i64 bB,.int .i64 a,.str s,eh c (.slice 4 t ts),eh (c+bO (.slice 4 t ts)) (.slice 4 t' gs)]:=rfl
theorem I4(b5:Int->List al)(hW:List al)(a0 bB a:Int)(s:List al)(t t':h9)(ts gs:List ae)(k:Int):dp b5 (.agg [.str hW,.int .i64 a0,.int .i64 bB,.int .i64 a,.str s,.slice 4 t ts,.slice 4 t' gs]) k=(.agg [.str (b5 k),.int .i64 (k+1),.int .i64 (k+1+1),.int .i64 (k+1+1+1),.str (b5 (k+1+1+1+1)),.slice 4 t (bd b5 ts (k+1+1+1+1+1)).1,.slice 4 t' (bd b5 gs (bd b5 ts (k+1+1+1+1+1)).2).1],(bd b5 gs (bd b5 ts (k+1+1+1+1+1)).2).2):=by simp[dp,bd]
theorem acY(ε:Nat->Nat)(c:Nat)(hW:List al)(a0 bB a:Int)(s:List al)(t t':h9)(ts gs:List ae):dc ε c (.agg [.str hW,.int .i64 a0,.int .i64 bB,.int .i64 a,.str s,.slice 4 t ts,.slice 4 t' gs])=dc ε c (.slice 4 t ts)++dc ε (c+bO (.slice 4 t ts)) (.slice 4 t' gs):=by show []++([]++([]++([]++([]++(dc ε (c+0+0+0+0+0) (.slice 4 t ts)++(dc ε (c+0+0+0+0+0+bO (.slice 4 t ts)) (.slice 4 t' gs)++[]))))))=_;simp
theorem GF(hW:List al)(a0 bB a:Int)(s:List al)(t t':h9)(ts gs:List ae):bO (.agg [.str hW,.int .i64 a0,.int .i64 bB,.int .i64 a,.str s,.slice 4 t ts,.slice 4 t' gs])=bO (.slice 4 t ts)+bO (.slice 4 t' gs):=by show 0+(0+(0+(0+(0+(bO (.slice 4 t ts)+(bO (.slice 4 t' gs)+0))))))=_;omega
theorem Fq(ε:Nat->Nat)(c:Nat)(M R:List ae)(hW:List al)(a0 bB a:Int)(s:List al)(t t':h9)(ts gs:List ae):fG ε c (M++ .agg [.str hW,.int .i64 a0,.int .i64 bB,.int .i64 a,.str s,.slice 4 t ts,.slice 4 t' gs]::R)=fG ε c (M++ .slice 4 t ts:: .slice 4 t' gs::R):=by rw[x2,x2];simp only[fG];rw[acY,GF,kE,Nat.add_assoc (c+b2 M)]
theorem I3(b5:Int->List al):∀{xs:List ae} (k:Int),(∀x∈xs,pk x)->k+xs.length<=(bd b5 xs k).2
 |[],k,_=>by simp[bd]
 |x::xs,k,h=>by
  obtain⟨hW,a0,bB,a,s,ts,gs,rfl,_⟩:=h x Ψ;have I:=I3 b5 (xs:=xs) (dp b5 (.agg [.str hW,.int .i64 a0,.int .i64 bB,.int .i64 a,.str s,.slice 4 .no ts,.slice 4 .no gs]) k).2 fun y bA=>h y (by simp[bA]);have J:k+1<=(dp b5 (.agg [.str hW,.int .i64 a0,.int .i64 bB,.int .i64 a,.str s,.slice 4 .no ts,.slice 4 .no gs]) k).2:=by rw[I4];have bB:=jJ b5 ts (k+1+1+1+1+1);have a2:=jJ b5 gs (bd b5 ts (k+1+1+1+1+1)).2;simp only;omega
  simp only[bd,lx];omega
theorem aeo(k:Int):b6 aQ 112 [.slice 7 .no [],.int .i64 k] (.int .i64 k):=by refine bQ nF Na QJ fun aN=>?_;unfold Gi;simp;(with_reducible repeat' first|refine aA ?_|simp);refine gu (fun i (_:Unit)=>⟨[(0,.slice 7 .no []),(1,.int .i64 k),(5,.int .i64 i)],[],[],0,[]⟩) 0 (fun _ _=>True) () dw trivial (fun _ _ _=>?_) (fun i _ az _ _=>Ω);exact cw
theorem Xm(k:Int)(b:Nat)(ε:Nat->Nat):b7 aQ 112 [eh b (.slice 7 .no []),.int .i64 k] (dR ε b (.slice 7 .no [])) fun r ai=>r= .int .i64 k/\ai=dR ε b (.slice 7 .no []):=aeo k
theorem ad7(k:Int):b6 aQ 113 [.slice 7 .no [],.int .i64 k] (.int .i64 k):=by refine bQ nF M7 QG fun aN=>?_;unfold Gf;simp;(with_reducible repeat' first|refine aA ?_|simp);refine gu (fun i (_:Unit)=>⟨[(0,.slice 7 .no []),(1,.int .i64 k),(5,.int .i64 i)],[],[],0,[]⟩) 0 (fun _ _=>True) () dw trivial (fun _ _ _=>?_) (fun i _ az _ _=>Ω);exact cw
theorem Xg(k:Int)(b:Nat)(ε:Nat->Nat):b7 aQ 113 [eh b (.slice 7 .no []),.int .i64 k] (dR ε b (.slice 7 .no [])) fun r ai=>r= .int .i64 k/\ai=dR ε b (.slice 7 .no []):=ad7 k
theorem Xl(xs:List ae)(af:∀x∈xs,pk x)(k:Int)(b:Nat)(ε:Nat->Nat)(bL:0<=k)(aa:(bd bj xs k).2<=4611686018427387904):
  b7 aQ 112 [eh b (.slice 7 .no xs),.int .i64 k] (dR ε b (.slice 7 .no xs)) fun r ai=>r= .int .i64 (bd bj xs k).2/\ai=dR ε b (.slice 7 .no (bd bj xs k).1):=by
 have aF:Pv.dtL xs:=pk.dtL af;have aq:h8 (dR ε b (.slice 7 .no xs)):=nR (by simp[b0,aF]);by_cases b4:xs=[]
 ·subst b4;exact Xm k b ε
 have rF:∀i,bO (.slice 7 .no (jY bj xs k i))=bO (.slice 7 .no xs):=fun i=>ra (pS ..) (IZ ..);have jT:∀i,b0 (.slice 7 .no (jY bj xs k i)):=fun i=>by simp only[b0];exact⟨Ω,I0 _ _ _ aF⟩
 have fu:rng b (b+bO (.slice 7 .no xs)) (.obj b):=⟨b,rfl,cq _,by cases xs with|nil=>exact absurd rfl b4|cons x xs=>simp only[bO];omega⟩;refine b7.mk mixed nF Na QJ Ψ aq.obj fun aN b3=>?_;unfold Gi;rw[yG b4];simp;(with_reducible repeat' first|refine aA ?_|simp);refine gu (fun i (_:Unit)=>⟨[(0,.row 7 (.obj b) xs.length),(1,.int .i64 (bd bj (xs.take i) k).2),(5,.int .i64 i)],[],dc ε b (.slice 7 .no (jY bj xs k i)),0,ec (dR ε b (.slice 7 .no xs))⟩) xs.length (fun _ _=>True) () ?_ trivial (fun _ _ _=>?_) (fun i _ az _ _=>?_)
 ·refine hH.to (jT _) (rF _) ?_ (fun k o h=>by rw[I2]at h;exact h);simp[Pv.kin,fu,bd]
 ·rw[uI,j4];simp;(with_reducible repeat' first|refine aA ?_|simp);refine cW.at (dR ε b (.slice 7 .no (bd bj xs k).1)) Ψ (nR (by rw[<-uI];exact jT _)) (qk (by rw[<-uI];exact rF _)) (fun k cs h=>by simp[Pv.look]at h) (fun k o h=>h) ?_;simp[du,Rk,a1,be,aV]
 ·obtain⟨x,fF⟩:∃x,xs[i]? =some x:=⟨_,cF az⟩;have hm:=fJ fF;have I:k<=(bd bj (xs.take i) k).2:=jJ _ _ _;have J:=zt bj xs k (i+1);have bs:=zs bj k fF;have ch:=IY bj k fF;have fa:=I1 bj k fF;have hS:(bd bj (xs.take i) k).1.length=i:=by rw[lQ];simp;omega
  have lj:=fun(t':List (Nat×ae)) (st:aS)=>hH.to (t':=t') (st:=st) (ε:=ε) (b:=b) (jT (i+1)) (rF (i+1));rw[bs]at J;have hlen:((bd bj (xs.take i) k).1++x::xs.drop (i+1)).length=xs.length:=by rw[<-ch];exact pS ..
  have Bo:=I3 bj (xs:=xs) k af;have b1:aY ((i:Int)+1):=by unfold aY;omega
  have mM:=pS bj xs k (i+1);rw[ch,oy (xs:=_++x::_) Ψ,hlen];rw[fa]at mM;generalize oO:(bd bj (xs.take i) k).1=M at hS ch fa mM⊢;generalize cG:(bd bj (xs.take i) k).2=K at bs fa I J mM⊢;generalize bu:xs.drop (i+1)=R at ch fa mM⊢;obtain⟨hW,a0,bB,a,s,ts,gs,rfl,rT,gg⟩:=af x hm;have dd:=yF (b:=b+1) (r:=R) (x:= .agg [.str hW,.int .i64 a0,.int .i64 bB,.int .i64 a,.str s,.slice 4 .no ts,.slice 4 .no gs]) hS;have jc:(gf (b+1) (M++ .agg [.str hW,.int .i64 a0,.int .i64 bB,.int .i64 a,.str s,.slice 4 .no ts,.slice 4 .no gs]::R)).length=xs.length:=by rw[qt,<-ch];exact pS ..
  rw[GS]at dd;rw[I4]at bs fa J mM;have xE:Pv.dtL ts:=hZ.dtL rT;have Bg:Pv.dtL gs:=jq.dtL gg;have gh:K+1+1+1+1+1<=(bd bj ts (K+1+1+1+1+1)).2:=jJ ..;have hC:(bd bj ts (K+1+1+1+1+1)).2<=(bd bj gs (bd bj ts (K+1+1+1+1+1)).2).2:=jJ ..;simp only at J;have cx:=wM K Ω;have BQ:=wM (K+1+1+1+1) Ω;have lH:=NJ (iA ts) ts (cq _) rT (K+1+1+1+1+1) (b+1+b2 M) ε Ω Ω;have qy:(bd bj ts (K+1+1+1+1+1)).1.length=ts.length:=lQ ..;have uu:b2 (bd bj ts (K+1+1+1+1+1)).1=b2 ts:=rb ..;have rE:Pv.dtL (bd bj ts (K+1+1+1+1+1)).1:=n3 _ _ _ xE;generalize bd bj ts (K+1+1+1+1+1)=Q at qy uu rE lH bs fa J gh hC mM;have jS:bO (.slice 4 .no Q.1)=bO (.slice 4 .no ts):=ra qy uu;have iL:=Xj (iA gs) gs (cq _) gg Q.2 (b+1+b2 (M++[.slice 4 .no Q.1])) ε Ω Ω;have je:b+1+b2 (M++[.slice 4 .no Q.1])=b+1+b2 M+bO (.slice 4 .no ts):=by rw[C8 M 0 [] .no .no Q.1 [],jS];omega
  have fm:(bd bj gs Q.2).1.length=gs.length:=lQ ..;have Bv:b2 (bd bj gs Q.2).1=b2 gs:=rb ..;generalize bd bj gs Q.2=U at fm Bv iL bs fa J hC mM;have kL:bO (.slice 4 .no U.1)=bO (.slice 4 .no gs):=ra fm Bv;generalize cm:eh (b+1+b2 M) (.slice 4 .no ts)=E at dd lH;generalize mG:eh (b+1+b2 M+bO (.slice 4 .no ts)) (.slice 4 .no gs)=hQ at dd;generalize lF:gf (b+1) (M++ .agg [.str hW,.int .i64 a0,.int .i64 bB,.int .i64 a,.str s,.slice 4 .no ts,.slice 4 .no gs]::R)=X at dd jc⊢;have lM:∀h,(X[i]'h)= .agg [.str hW,.int .i64 a0,.int .i64 bB,.int .i64 a,.str s,E,hQ]:=fun h=>by rw[cF h]at dd;exact gq dd
  clear dd;rw[Fq];simp[az,lM,jc];(with_reducible repeat' first|refine aA ?_|refine a8 cx ?_|refine ba cx ?_|refine a8 BQ ?_|refine ba BQ ?_|simp[lM,jc,az]);have gE:bC E=E:=by rw[<-cm];exact tv
  rw[gE];refine CallDo.sub (ε:=ε) (b:=b+1) (l:=M) (r:= .slice 4 .no gs::R) (y:= .slice 4 .no ts) (y':= .slice 4 .no Q.1) (by simp only[b0];exact⟨Ω,xE⟩) jS lH (fun k o h=>?_) ?_ (fun gr aG hu=>?_)
  ·obtain⟨m,rfl,fc,cv⟩:=rZ _ _ _ _ _ h;simp only[Pv.look];rw[bq (by simp;omega)];exact h
  ·rw[<-cm];simp only[kinL,Pv.kin,and_true];exact pP _ _ (by simp only[b0];exact⟨Ω,xE⟩)
  have jD:=hu (.obj b) (fun⟨m,e,fc,cv⟩=>by cases e;omega);simp only[Pv.look,if_true]at jD;have XT:i<X.length:=Ω
  have eQ:∀h,((X.set i (.agg [.str (bj K),.int .i64 (K+1),.int .i64 (K+1+1),.int .i64 (K+1+1+1),.str (bj (K+1+1+1+1)),E,hQ]))[i]'h)= .agg [.str (bj K),.int .i64 (K+1),.int .i64 (K+1+1),.int .i64 (K+1+1+1),.str (bj (K+1+1+1+1)),E,hQ]:=fun h=>by simp
  simp[jD];(with_reducible repeat' first|refine aA ?_|simp[jD,eQ,jc,az]);have xD:bC hQ=hQ:=by rw[<-mG];exact tv
  rw[xD];rw[je,mG]at iL;refine CallDo.sub (ε:=ε) (b:=b+1) (l:=M++[.slice 4 .no Q.1]) (r:=R) (y:= .slice 4 .no gs) (y':= .slice 4 .no U.1) (by simp only[b0];exact⟨Ω,Bg⟩) kL (by rw[je];exact iL) (fun k o h=>?_) ?_ (fun aJ hl xF=>?_)
  ·rw[kE]at h;exact aG k o h
  ·rw[je,<-mG];simp only[kinL,Pv.kin,and_true];exact pP _ _ (by simp only[b0];exact⟨Ω,Bg⟩)
  have rV:=xF (.obj b) (fun⟨m,e,fc,cv⟩=>by cases e;omega);rw[jD]at rV;simp;(with_reducible repeat' first|refine aA ?_|simp[b1]);refine b9.rng () az ?_ ?_
  ·trivial
  rw[show(bd bj (xs.take (i+1)) k).2=U.2 from bs];refine lj _ _ (by simp[Pv.kin,fu]) fun k o h=>?_;rw[fa,oy Ψ]at h;simp only[Pv.look]at h;split at h
  ·rename_i e;subst e;rw[rV,<-h,<-lF,<-cm,<-mG,<-yH qy,<-yH (sz:=4) (t:= .no) fm,<-jS,<-GS (b+1+b2 M) (bj K) (K+1) (K+1+1) (K+1+1+1) (bj (K+1+1+1+1)),GQ hS (by rw[GF,GF,jS,kL]),mM]
  ·rw[Fq]at h;refine hl k o ?_;rw[kE];exact h
theorem Xf(xs:List ae)(af:∀x∈xs,pk x)(k:Int)(b:Nat)(ε:Nat->Nat)(bL:0<=k)(aa:(bd bj xs k).2<=4611686018427387904):
  b7 aQ 113 [eh b (.slice 7 .no (bd bj xs k).1),.int .i64 k] (dR ε b (.slice 7 .no (bd bj xs k).1)) fun r ai=>r= .int .i64 (bd bj xs k).2/\ai=dR ε b (.slice 7 .no (bd bj xs k).1):=by
 have aF:Pv.dtL (bd bj xs k).1:=n3 _ _ _ (pk.dtL af);have jT:b0 (.slice 7 .no (bd bj xs k).1):=by simp only[b0];exact⟨Ω,aF⟩
 have aq:h8 (dR ε b (.slice 7 .no (bd bj xs k).1)):=nR jT;by_cases b4:xs=[]
 ·subst b4;exact Xg k b ε
 have mN:(bd bj xs k).1.length=xs.length:=lQ ..;have mP:(bd bj xs k).1≠[]:=fun e=>b4 (List.length_eq_zero_iff.1 (by rw[<-mN,e];rfl));have Bo:=I3 bj (xs:=xs) k af;have fu:rng b (b+bO (.slice 7 .no (bd bj xs k).1)) (.obj b):=⟨b,rfl,cq _,by revert mP;cases (bd bj xs k).1 with|nil=>exact fun h=>absurd rfl h|cons x xs=>intro _;simp only[bO];omega⟩;have lj:=fun(t':List (Nat×ae)) (st:aS)=>hH.to (t':=t') (st:=st) (ε:=ε) (b:=b) jT rfl;refine b7.mk mixed nF M7 QG Ψ aq.obj fun aN b3=>?_;unfold Gf;rw[yG mP,mN];simp;(with_reducible repeat' first|refine aA ?_|simp);refine gu (fun i (_:Unit)=>⟨[(0,.row 7 (.obj b) xs.length),(1,.int .i64 (bd bj (xs.take i) k).2),(5,.int .i64 i)],[],dc ε b (.slice 7 .no (bd bj xs k).1),0,ec (dR ε b (.slice 7 .no (bd bj xs k).1))⟩) xs.length (fun _ _=>True) () ?_ trivial (fun _ _ _=>?_) (fun i _ az _ _=>?_)
 ·refine lj _ _ ?_ (fun k o h=>h);simp[Pv.kin,fu,bd]
 ·rw[j4];simp;(with_reducible repeat' first|refine aA ?_|simp);refine cW.at (dR ε b (.slice 7 .no (bd bj xs k).1)) Ψ aq (qk rfl) (fun k cs h=>by simp[Pv.look]at h) (fun k o h=>h) ?_;simp[du,Rg,a1,be,aV]
 ·obtain⟨x,fF⟩:∃x,xs[i]? =some x:=⟨_,cF az⟩;have hm:=fJ fF;have I:k<=(bd bj (xs.take i) k).2:=jJ _ _ _;have J:=zt bj xs k (i+1);have bs:=zs bj k fF;have ch:=I5 bj k fF;have b1:aY ((i:Int)+1):=by unfold aY;omega
  have hS:(bd bj (xs.take i) k).1.length=i:=by rw[lQ];simp;omega
  rw[bs]at J;generalize vE:(bd bj xs k).1=Y at*;have ju:=oy (ε:=ε) (b:=b) (sz:=7) (t:= .no) mP;rw[mN]at ju;rw[ju];generalize oO:(bd bj (xs.take i) k).1=M at hS ch;generalize cG:(bd bj (xs.take i) k).2=K at bs ch I J⊢;obtain⟨hW,a0,bB,a,s,ts,gs,rfl,rT,gg⟩:=af x hm;rw[I4]at bs ch J;simp only at J;generalize (bd bj (xs.drop (i+1)) _).1=R at ch;have dd:=yF (b:=b+1) (r:=R) (x:= .agg [.str (bj K),.int .i64 (K+1),.int .i64 (K+1+1),.int .i64 (K+1+1+1),.str (bj (K+1+1+1+1)),.slice 4 .no (bd bj ts (K+1+1+1+1+1)).1,.slice 4 .no (bd bj gs (bd bj ts (K+1+1+1+1+1)).2).1]) hS;rw[<-ch,GS]at dd;have jc:(gf (b+1) Y).length=xs.length:=by rw[qt,mN]
  have gh:K+1+1+1+1+1<=(bd bj ts (K+1+1+1+1+1)).2:=jJ ..;have hC:(bd bj ts (K+1+1+1+1+1)).2<=(bd bj gs (bd bj ts (K+1+1+1+1+1)).2).2:=jJ ..;have cx:=wM K Ω;have BQ:=wM (K+1+1+1+1) Ω;have lH:=NG (iA ts) ts (cq _) rT (K+1+1+1+1+1) (b+1+b2 M) ε Ω Ω;have rE:Pv.dtL (bd bj ts (K+1+1+1+1+1)).1:=n3 _ _ _ (hZ.dtL rT);generalize bd bj ts (K+1+1+1+1+1)=Q at rE lH bs ch dd J gh hC;have iL:=Xd (iA gs) gs (cq _) gg Q.2 (b+1+b2 (M++[.slice 4 .no Q.1])) ε Ω Ω;have xm:Pv.dtL (bd bj gs Q.2).1:=n3 _ _ _ (jq.dtL gg);have je:b+1+b2 (M++[.slice 4 .no Q.1])=b+1+b2 M+bO (.slice 4 .no Q.1):=by rw[C8 M 0 [] .no .no Q.1 []];omega
  generalize bd bj gs Q.2=U at xm iL bs ch dd J hC;generalize cm:eh (b+1+b2 M) (.slice 4 .no Q.1)=E at dd lH;generalize mG:eh (b+1+b2 M+bO (.slice 4 .no Q.1)) (.slice 4 .no U.1)=hQ at dd;generalize lF:gf (b+1) Y=X at dd jc ju⊢;have lM:∀h,(X[i]'h)= .agg [.str (bj K),.int .i64 (K+1),.int .i64 (K+1+1),.int .i64 (K+1+1+1),.str (bj (K+1+1+1+1)),E,hQ]:=fun h=>by rw[cF h]at dd;exact gq dd
  clear dd;simp[az,lM,jc];(with_reducible repeat' first|refine aA ?_|refine a8 cx ?_|refine ba cx ?_|refine a8 BQ ?_|refine ba BQ ?_|simp[lM,jc,az]);have gE:bC E=E:=by rw[<-cm];exact tv
  have xD:bC hQ=hQ:=by rw[<-mG];exact tv
  rw[gE];refine CallDo.sub (ε:=ε) (b:=b+1) (l:=M) (r:= .slice 4 .no U.1::R) (y:= .slice 4 .no Q.1) (y':= .slice 4 .no Q.1) (by simp only[b0];exact⟨Ω,rE⟩) rfl lH (fun k o h=>?_) ?_ (fun gr aG hu=>?_)
  ·rw[<-Fq ε (b+1) M R (bj K) (K+1) (K+1+1) (K+1+1+1) (bj (K+1+1+1+1)),<-ch]at h;obtain⟨m,rfl,fc,cv⟩:=rZ _ _ _ _ _ h;simp only[Pv.look];rw[bq (by simp;omega)];exact h
  ·rw[<-cm];simp only[kinL,Pv.kin,and_true];exact pP _ _ (by simp only[b0];exact⟨Ω,rE⟩)
  have jD:=hu (.obj b) (fun⟨m,e,fc,cv⟩=>by cases e;omega);simp only[Pv.look,if_true]at jD;have vS:¬(Q.2<0):=Ω
  simp[jD,vS];(with_reducible repeat' first|refine aA ?_|simp[jD,lM,jc,az,vS]);rw[xD];rw[je,mG]at iL;refine CallDo.sub (ε:=ε) (b:=b+1) (l:=M++[.slice 4 .no Q.1]) (r:=R) (y:= .slice 4 .no U.1) (y':= .slice 4 .no U.1) (by simp only[b0];exact⟨Ω,xm⟩) rfl (by rw[je];exact iL) (fun k o h=>?_) ?_ (fun aJ hl xF=>?_)
  ·rw[kE]at h;exact aG k o h
  ·rw[je,<-mG];simp only[kinL,Pv.kin,and_true];exact pP _ _ (by simp only[b0];exact⟨Ω,xm⟩)
  have rV:=xF (.obj b) (fun⟨m,e,fc,cv⟩=>by cases e;omega);rw[jD]at rV;have rU:¬(U.2<0):=Ω
  simp[rU];(with_reducible repeat' first|refine aA ?_|simp[rU,b1]);refine b9.rng () az ?_ ?_
  ·trivial
  rw[show(bd bj (xs.take (i+1)) k).2=U.2 from bs];have Bt:aC.obj b::(fG ε (b+1) Y).map (fun x=>x.1)=ec (dR ε b (.slice 7 .no Y)):=by simp[oy mP]
  rw[Bt,<-ju];refine lj _ _ ?_ (fun k o h=>?_)
  ·simp[Pv.kin,fu]
  rw[oy mP,mN,lF]at h;simp only[Pv.look]at h;split at h
  ·rename_i e;subst e;rw[rV,<-h]
  ·rw[ch,Fq]at h;refine hl k o ?_;rw[kE];exact h
theorem B8(b sz:Nat)(ys:List ae):gn [eh b (.slice sz .no ys)]=true:=by
 cases ys with
 |nil=>rfl
 |cons y ys=>rfl
theorem AR(c:Nat)(t:h9)(ys:List ae):eh c (.agg [.slice 7 t ys])= .agg [eh c (.slice 7 t ys)]:=rfl
theorem RS(ε:Nat->Nat)(c:Nat)(t:h9)(ys:List ae):dc ε c (.agg [.slice 7 t ys])=dc ε c (.slice 7 t ys):=by show dc ε c (.slice 7 t ys)++[]=_;simp
theorem Mw(t:h9)(ys:List ae):bO (.agg [.slice 7 t ys])=bO (.slice 7 t ys):=by show bO (.slice 7 t ys)+0=_;omega
theorem Xk(ys:List ae)(bA:∀y∈ys,pk y)(k:Int)(b:Nat)(ε:Nat->Nat)(bL:0<=k)(aa:(bd bj ys k).2<=4611686018427387904):
  b7 aQ 40 [eh b (.agg [.slice 7 .no ys]),.int .i64 k] (dR ε b (.agg [.slice 7 .no ys])) fun r ai=>r= .int .i64 (bd bj ys k).2/\ai=dR ε b (.agg [.slice 7 .no (bd bj ys k).1]):=by
 have s8:Pv.dtL ys:=pk.dtL bA;have aF:b0 (.slice 7 .no ys):=by simp only[b0];exact⟨Ω,s8⟩
 have oQ:b0 (.slice 7 .no (bd bj ys k).1):=GN bj (.slice 7 .no ys) k aF;have aL:=Xl ys bA k b ε bL aa;have bn:bO (.slice 7 .no (bd bj ys k).1)=bO (.slice 7 .no ys):=ra (lQ ..) (rb ..);simp only[dR,RS];rw[AR];have aq:h8 (dR ε b (.slice 7 .no ys)):=nR aF;generalize bd bj ys k=Q at aL bn oQ;refine b7.mk mixed nF Wv aby Ψ aq.obj fun aN b3=>?_;unfold LY;simp;((with_reducible repeat' first|refine aA ?_|simp|((first|apply dG|apply dJ|apply dI)<;>intro h<;>try simp at h))<;>(try exact ev));try refine⟨B8 _ _ _,?_⟩
 refine CallDo.ob aL aq (fun k cs h=>by simp[Pv.look]at h) (fun k o h=>?_) ?_ ?_
 ·exact h
 ·simp only[kinL,and_true];exact⟨K7 aF,by simp[Pv.kin]⟩
 rintro r ai ⟨rfl,rfl⟩;refine⟨qk bn,?_⟩;simp;(with_reducible repeat' first|refine aA ?_|simp);refine cW.at (dR ε b (.slice 7 .no Q.1)) Ψ (nR oQ) (qk bn) (fun k cs h=>by simp[Pv.look]at h) (fun k o h=>?_) ?_
 ·rw[wO];exact h
 simp[du,Rj,a1,be,aV]
theorem Xe(ys:List ae)(bA:∀y∈ys,pk y)(k:Int)(b:Nat)(ε:Nat->Nat)(bL:0<=k)(aa:(bd bj ys k).2<=4611686018427387904):
  b7 aQ 41 [eh b (.agg [.slice 7 .no (bd bj ys k).1]),.int .i64 k] (dR ε b (.agg [.slice 7 .no (bd bj ys k).1])) fun r ai=>r= .int .i64 (bd bj ys k).2/\ai=dR ε b (.agg [.slice 7 .no (bd bj ys k).1]):=by
 have s8:Pv.dtL ys:=pk.dtL bA;have aF:b0 (.slice 7 .no ys):=by simp only[b0];exact⟨Ω,s8⟩
 have oQ:b0 (.slice 7 .no (bd bj ys k).1):=GN bj (.slice 7 .no ys) k aF;have aL:=Xf ys bA k b ε bL aa;have hle:k<=(bd bj ys k).2:=jJ ..;simp only[dR,RS];rw[AR];have aq:h8 (dR ε b (.slice 7 .no (bd bj ys k).1)):=nR oQ;generalize bd bj ys k=Q at aL oQ aq hle;have aK:¬Q.2<0:=Ω
 refine b7.mk mixed nF Wu abx Ψ aq.obj fun aN b3=>?_;unfold LX;simp;((with_reducible repeat' first|refine aA ?_|simp|((first|apply dG|apply dJ|apply dI)<;>intro h<;>try simp at h))<;>(try exact ev));try refine⟨B8 _ _ _,?_⟩
 refine CallDo.ob aL aq (fun k cs h=>by simp[Pv.look]at h) (fun k o h=>?_) ?_ ?_
 ·exact h
 ·simp only[kinL,and_true];exact⟨K7 oQ,by simp[Pv.kin]⟩
 rintro r ai ⟨rfl,rfl⟩;refine⟨qk rfl,?_⟩;simp[aK];(with_reducible repeat' first|refine aA ?_|simp[aK]);refine cW.at (dR ε b (.slice 7 .no Q.1)) Ψ (nR oQ) (qk rfl) (fun k cs h=>by simp[Pv.look]at h) (fun k o h=>?_) ?_
 ·rw[wO];exact h
 simp[du,Rf,a1,be,aV]
end
end Go.Proofs.YtlnndmgfngfeiaaGreatDoor
namespace Go.Pv
section
open Go
inductive aX where
 |mk (kind n:Int) (name:List al) (args:List aX)
def aX.kind:aX->Int| .mk k _ _ _=>k
def aX.num:aX->Int| .mk _ n _ _=>n
def aX.name:aX->List al| .mk _ _ s _=>s
def aX.args:aX->List aX| .mk _ _ _ a=>a
mutual
def enc:aX->ae
 | .mk k n s a=>.agg [.int .i64 k,.int .i64 n,.str s,.slice 4 .no (ma a)]
def ma:List aX->List ae
 |[]=>[]
 |x::xs=>enc x::ma xs
end
theorem AS:∀l,ma l=l.map enc
 |[]=>rfl
 |x::xs=>by simp[ma,AS xs]
theorem yJ(t:aX):enc t= .agg [.int .i64 t.kind,.int .i64 t.num,.str t.name,.slice 4 .no (t.args.map enc)]:=by cases t;simp[enc,AS,aX.kind,aX.num,aX.name,aX.args]
mutual
theorem PT(S:aC->Prop):∀t:aX,kin S (enc t)
 | .mk k n s a=>by simp[enc,kin,kinL,IA S a]
theorem IA(S:aC->Prop):∀l:List aX,kinL S (ma l)
 |[]=>by simp[ma,kinL]
 |x::xs=>by simp[ma,kinL,PT S x,IA S xs]
end
mutual
theorem Sc:∀t:aX,bC (enc t)=enc t
 | .mk k n s a=>by simp[enc,bC,bz,J9 a]
theorem J9:∀l:List aX,bz (ma l)=ma l
 |[]=>by simp[ma,bz]
 |x::xs=>by simp[ma,bz,Sc x,J9 xs]
end
@[simp]theorem ahs(S:aC->Prop)(t:aX):kin S (enc t)=True:=eq_true (PT S t)
@[simp]theorem aho(S:aC->Prop)(l:List aX):kinL S (l.map enc)=True:=by rw[<-AS];exact eq_true (IA S l)
theorem adu(l:List aX):bz (l.map enc)=l.map enc:=by rw[<-AS];exact J9 l
attribute [simp] Sc adu
@[simp]theorem air(t:aX):eD (enc t)=true:=by rw[yJ];rfl
@[simp]theorem afK(t:aX):cells (enc t)=[.int .i64 t.kind,.int .i64 t.num,.str t.name,.slice 4 .no (t.args.map enc)]:=by rw[yJ];rfl
@[simp]theorem ae8(t:aX):ae.agg [.int .i64 t.kind,.int .i64 t.num,.str t.name,.slice 4 .no (t.args.map enc)]=enc t:=(yJ t).symm
@[simp]theorem agi(off:Nat)(eR:Bool)(sz:Nat)(t:aX):n7 off eR sz (.eptr (enc t))=if eR then some (off+sz<=4,.eptr (.agg (([.int .i64 t.kind,.int .i64 t.num,.str t.name,.slice 4 .no (t.args.map enc)].drop off).take sz)))else(([.int .i64 t.kind,.int .i64 t.num,.str t.name,.slice 4 .no (t.args.map enc)]:List ae)[off]?).map fun p=>(eD p=true/\cells p=[p],.eptr p):=by rw[yJ];rfl
@[simp]theorem ahc(t:aX):Pv.isAgg 4 (enc t):=by rw[yJ];exact⟨_,rfl,rfl⟩
inductive T where
 |nil
 |var (n:Int)
 |sym (s:List al)
 |num (n:Int)
 |pair (a b:T)
 deriving DecidableEq,Inhabited
def T.tm:T->aX
 | .nil=>.mk 0 0 [] []
 | .var n=>.mk 1 n [] []
 | .sym s=>.mk 2 0 s []
 | .num n=>.mk 3 n [] []
 | .pair a b=>.mk 4 0 [] [a.tm,b.tm]
def T.e:T->ae
 | .nil=>.agg [.int .i64 0,.int .i64 0,.str [],.slice 4 .no []]
 | .var n=>.agg [.int .i64 1,.int .i64 n,.str [],.slice 4 .no []]
 | .sym s=>.agg [.int .i64 2,.int .i64 0,.str s,.slice 4 .no []]
 | .num n=>.agg [.int .i64 3,.int .i64 n,.str [],.slice 4 .no []]
 | .pair a b=>.agg [.int .i64 4,.int .i64 0,.str [],.slice 4 .no [a.e,b.e]]
theorem tX:∀t:T,enc t.tm=t.e
 | .nil| .var _| .sym _| .num _=>rfl
 | .pair a b=>by simp[T.tm,enc,ma,T.e,tX a,tX b]
def T.kind:T->Int
 | .nil=>0| .var _=>1| .sym _=>2| .num _=>3| .pair _ _=>4
def T.int:T->Int
 | .var n=>n| .num n=>n|_=>0
def T.name:T->List al
 | .sym s=>s|_=>[]
def T.args:T->List T
 | .pair a b=>[a,b]|_=>[]
theorem T.e_eq(t:T):t.e= .agg [.int .i64 t.kind,.int .i64 t.int,.str t.name,.slice 4 .no (t.args.map T.e)]:=by cases t<;>rfl
@[simp]theorem ae7(t:T):ae.agg [.int .i64 t.kind,.int .i64 t.int,.str t.name,.slice 4 .no (t.args.map T.e)]=t.e:=(T.e_eq t).symm
@[simp]theorem afc:ae.agg [.int .i64 0,.int .i64 0,.str [],.slice 4 .no []]=T.nil.e:=rfl
@[simp]theorem afj(n:Int):ae.agg [.int .i64 1,.int .i64 n,.str [],.slice 4 .no []]=(T.var n).e:=rfl
@[simp]theorem afi(s:List al):ae.agg [.int .i64 2,.int .i64 0,.str s,.slice 4 .no []]=(T.sym s).e:=rfl
@[simp]theorem afd(n:Int):ae.agg [.int .i64 3,.int .i64 n,.str [],.slice 4 .no []]=(T.num n).e:=rfl
@[simp]theorem afe(a b:T):ae.agg [.int .i64 4,.int .i64 0,.str [],.slice 4 .no [a.e,b.e]]=(T.pair a b).e:=rfl
@[simp]theorem ahv:(T.nil).kind=0:=rfl
@[simp]theorem ag3:(T.nil).int=0:=rfl
@[simp]theorem ahQ:(T.nil).name=[]:=rfl
@[simp]theorem afk:(T.nil).args=[]:=rfl
@[simp]theorem ahz(n:Int):(T.var n).kind=1:=rfl
@[simp]theorem ag7(n:Int):(T.var n).int=n:=rfl
@[simp]theorem ahU(n:Int):(T.var n).name=[]:=rfl
@[simp]theorem afo(n:Int):(T.var n).args=[]:=rfl
@[simp]theorem ahy(s:List al):(T.sym s).kind=2:=rfl
@[simp]theorem ag6(s:List al):(T.sym s).int=0:=rfl
@[simp]theorem ahT(s:List al):(T.sym s).name=s:=rfl
@[simp]theorem afn(s:List al):(T.sym s).args=[]:=rfl
@[simp]theorem ahw(n:Int):(T.num n).kind=3:=rfl
@[simp]theorem ag4(n:Int):(T.num n).int=n:=rfl
@[simp]theorem ahR(n:Int):(T.num n).name=[]:=rfl
@[simp]theorem afl(n:Int):(T.num n).args=[]:=rfl
@[simp]theorem ahx(a b:T):(T.pair a b).kind=4:=rfl
@[simp]theorem ag5(a b:T):(T.pair a b).int=0:=rfl
@[simp]theorem ahS(a b:T):(T.pair a b).name=[]:=rfl
@[simp]theorem afm(a b:T):(T.pair a b).args=[a,b]:=rfl
@[simp]theorem ahr(S:aC->Prop)(t:T):kin S t.e=True:=by rw[<-tX];simp
@[simp]theorem aiN(t:T):bC t.e=t.e:=by rw[<-tX];simp
theorem PR(S:aC->Prop):∀l:List T,kinL S (l.map T.e)
 |[]=>by simp[kinL]
 |x::xs=>by simp[kinL,PR S xs]
@[simp]theorem ahn(S:aC->Prop)(l:List T):kinL S (l.map T.e)=True:=eq_true (PR S l)
@[simp]theorem adt:∀l:List T,bz (l.map T.e)=l.map T.e
 |[]=>rfl
 |x::xs=>by simp[bz,adt xs]
@[simp]theorem aiq(t:T):eD t.e=true:=by rw[T.e_eq];rfl
@[simp]theorem TY(t:T):cells t.e=[.int .i64 t.kind,.int .i64 t.int,.str t.name,.slice 4 .no (t.args.map T.e)]:=by rw[T.e_eq];rfl
@[simp]theorem ahb(t:T):Pv.isAgg 4 t.e:=by rw[T.e_eq];exact⟨_,rfl,rfl⟩
def T.size:T->Nat
 | .pair a b=>1+a.size+b.size
 |_=>1
theorem T.size_pos(t:T):1<=t.size:=by cases t<;>simp[T.size]<;>omega
def low(b:al):Bool:=decide (97<=b.toNat/\b.toNat<=122)
def lk(b:al):Bool:=low b||decide (48<=b.toNat/\b.toNat<=57)||b.toNat==45
def fM(s:List al):Bool:=decide (1<=s.length/\s.length<=12)&&low (s.getD 0 0)&&(s.drop 1).all lk
def T.ok:T->Bool
 | .nil=>true
 | .var n=>decide (0<=n/\n<=100000)
 | .sym s=>fM s
 | .num n=>decide (-1000000000<=n/\n<=1000000000)
 | .pair a b=>a.ok&&b.ok
def kV(k n:Int)(s:List al):Bool:=if k=0 then n==0&&s==[]else if k=1 then decide (0<=n/\n<=100000)&&s==[]else if k=2 then n==0&&fM s else if k=3 then decide (-1000000000<=n/\n<=1000000000)&&s==[]else false
def fy:aX->Int->Int
 | .mk k n s [a,b],room=>if room<1\/k≠4\/n≠0\/s≠[]then-1 else if fy a (room-1)<0 then-1 else if fy b (room-1-fy a (room-1))<0 then-1 else 1+fy a (room-1)+fy b (room-1-fy a (room-1))
 | .mk k n s args,room=>if room<1\/k=4\/args≠[]\/kV k n s=false then-1 else 1
theorem Jb(k n:Int)(s:List al)(args:List aX)(room:Int):fy (.mk k n s args) room=if room<1 then-1 else if k≠4 then(if args≠[]then-1 else if kV k n s then 1 else-1)else if n≠0\/s≠[]then-1 else match args with
  |[a,b]=>if fy a (room-1)<0 then-1 else if fy b (room-1-fy a (room-1))<0 then-1 else 1+fy a (room-1)+fy b (room-1-fy a (room-1))
  |_=> -1:=by
 match args with
 |[]=>simp only[fy];by_cases I:room<1<;>by_cases J:k=4<;>by_cases ao:kV k n s=true<;>simp[I,J,ao]
 |[a]=>simp[fy]
 |[a,b]=>simp only[fy];by_cases I:room<1<;>by_cases J:k=4<;>simp[I,J]
 |a::b::c::r=>simp[fy]
theorem Ja:∀(t:T) (room:Int),fy t.tm room=if t.ok=true/\(t.size:Int)<=room then(t.size:Int)else-1
 | .nil,room=>by simp[T.tm,fy,T.ok,T.size,kV];split<;>rename_i h<;>simp_all<;>omega
 | .var n,room=>by simp[T.tm,fy,T.ok,T.size,kV];split<;>split<;>simp_all<;>omega
 | .sym s,room=>by simp[T.tm,fy,T.ok,T.size,kV];by_cases I:room<1<;>by_cases J:fM s=true<;>simp[I,J]<;>omega
 | .num n,room=>by simp[T.tm,fy,T.ok,T.size,kV];split<;>split<;>simp_all<;>omega
 | .pair a b,room=>by
  have bF:=a.size_pos;have ah:=b.size_pos;simp only[T.tm,fy,Ja a,Ja b,T.ok,T.size,bM];by_cases I:room<1
  ·simp[I];omega
  ·by_cases J:a.ok=true/\(a.size:Int)<=room-1
   ·rw[if_pos J];by_cases ao:b.ok=true/\(b.size:Int)<=room-1-a.size
    ·rw[if_pos ao];simp[I,J.1,ao.1];split<;>omega
    ·rw[bq ao];simp[I,J.1];intro mI;have:=ao;simp[mI]at this;omega
   ·rw[bq J];simp[I];intro XU;have:=J;simp[XU]at this;omega
theorem EN:∀(t:aX) (room:Int),fy t room= -1\/1<=fy t room
 | .mk k n s [a,b],room=>by
  simp only[fy];split
  ·exact .inl rfl
  ·split
   ·exact .inl rfl
   ·split
    ·exact .inl rfl
    ·right;omega
 | .mk k n s [],room=>by simp only[fy];split<;>simp
 | .mk k n s [a],room=>by simp[fy]
 | .mk k n s (a::b::c::r),room=>by simp[fy]
theorem Jd:∀(t:aX) (room:Int),0<fy t room->∃x:T,x.tm=t
 | .mk k n s [a,b],room,h=>by
  simp only[fy]at h;split at h
  ·omega
  ·rename_i I;simp only[not_or,Int.not_lt,ne_eq,aiY]at I;obtain⟨I,rfl,rfl,rfl⟩:=I;split at h
   ·omega
   ·split at h
    ·omega
    ·obtain⟨x,rfl⟩:=Jd a (room-1) (by rcases EN a (room-1)with h|h<;>omega);obtain⟨y,rfl⟩:=Jd b (room-1-fy x.tm (room-1)) (by rcases EN b (room-1-fy x.tm (room-1))with h|h<;>omega);exact⟨.pair x y,rfl⟩
 | .mk k n s [],room,h=>by
  simp only[fy]at h;split at h
  ·omega
  ·rename_i I;simp only[not_or,ne_eq,not_true_eq_false,not_false_eq_true,true_and,Bool.not_eq_false]at I;obtain⟨_,_,I⟩:=I;unfold kV at I;split at I
   ·rename_i e;subst e;simp at I;obtain⟨rfl,rfl⟩:=I;exact⟨.nil,rfl⟩
   ·split at I
    ·rename_i e;subst e;simp at I;obtain⟨_,rfl⟩:=I;exact⟨.var n,rfl⟩
    ·split at I
     ·rename_i e;subst e;simp at I;obtain⟨rfl,_⟩:=I;exact⟨.sym s,rfl⟩
     ·split at I
      ·rename_i e;subst e;simp at I;obtain⟨_,rfl⟩:=I;exact⟨.num n,rfl⟩
      ·cases I
 | .mk k n s [a],room,h=>by simp[fy]at h
 | .mk k n s (a::b::c::r),room,h=>by simp[fy]at h
theorem Jc:∀(t:aX) (room:Int),fy t room<=room\/fy t room= -1
 | .mk k n s [a,b],room=>by
  simp only[fy];split
  ·exact .inr rfl
  ·split
   ·exact .inr rfl
   ·split
    ·exact .inr rfl
    ·rcases Jc b (room-1-fy a (room-1))with h|h<;>omega
 | .mk k n s [],room=>by simp only[fy];split<;>simp;rename_i h;omega
 | .mk k n s [a],room=>by simp[fy]
 | .mk k n s (a::b::c::r),room=>by simp[fy]
mutual
def aX.sz:aX->Nat
 | .mk _ _ _ a=>1+aX.szL a
def aX.szL:List aX->Nat
 |[]=>0
 |x::xs=>x.sz+aX.szL xs
end
theorem Sg:∀{l:List aX} {x:aX},x∈l->x.sz<=aX.szL l
 |y::l,x,h=>by
  rcases gp.1 h with rfl|h
  ·simp[aX.szL]
  ·have:=Sg h;simp[aX.szL];omega
theorem Si{t x:aX}(h:x∈t.args):x.sz<t.sz:=by cases t;simp[aX.args]at h;have:=Sg h;simp[aX.sz];omega
def T.fit(t:T):Bool:=t.ok&&decide (t.size<=5000)
def aX.fits(t:aX):Bool:=decide (0<fy t 5000)
theorem aX.fits_T(t:T):t.tm.fits=t.fit:=by
 unfold aX.fits T.fit;rw[Ja];have:=t.size_pos;by_cases I:t.ok=true<;>by_cases J:t.size<=5000
 ·rw[if_pos ⟨I,Ω⟩];simp[I,J];omega
 ·rw[bq Ω];simp[J]
 ·rw[bq (by simp[I])];simp[I]
 ·rw[bq (by simp[I])];simp[I]
theorem aX.fits_ex{t:aX}(h:t.fits=true):∃x:T,x.tm=t/\x.fit=true:=by obtain⟨x,rfl⟩:=Jd t 5000 (by simpa[aX.fits]using h);exact⟨x,rfl,by rw[<-aX.fits_T];exact h⟩
structure jn where
 v:Int
 t:T
 deriving DecidableEq,Inhabited
def jn.e(b:jn):ae:= .agg [.int .i64 b.v,.int .i64 b.t.kind,.int .i64 b.t.int,.str b.t.name,.slice 4 .no (b.t.args.map T.e)]
@[simp]theorem jn.eta(b:jn):jn.mk b.v b.t=b:=rfl
@[simp]theorem aeZ(v:Int)(t:T):ae.agg [.int .i64 v,.int .i64 t.kind,.int .i64 t.int,.str t.name,.slice 4 .no (t.args.map T.e)]=(jn.mk v t).e:=rfl
@[simp]theorem ae0(v:Int):ae.agg [.int .i64 v,.int .i64 0,.int .i64 0,.str [],.slice 4 .no []]=(jn.mk v .nil).e:=rfl
@[simp]theorem ae4(v n:Int):ae.agg [.int .i64 v,.int .i64 1,.int .i64 n,.str [],.slice 4 .no []]=(jn.mk v (.var n)).e:=rfl
@[simp]theorem ae3(v:Int)(s:List al):ae.agg [.int .i64 v,.int .i64 2,.int .i64 0,.str s,.slice 4 .no []]=(jn.mk v (.sym s)).e:=rfl
@[simp]theorem ae1(v n:Int):ae.agg [.int .i64 v,.int .i64 3,.int .i64 n,.str [],.slice 4 .no []]=(jn.mk v (.num n)).e:=rfl
@[simp]theorem ae2(v:Int)(a b:T):ae.agg [.int .i64 v,.int .i64 4,.int .i64 0,.str [],.slice 4 .no [a.e,b.e]]=(jn.mk v (.pair a b)).e:=rfl
@[simp]theorem aik(b:jn):eD b.e=true:=rfl
@[simp]theorem afG(b:jn):cells b.e=[.int .i64 b.v,.int .i64 b.t.kind,.int .i64 b.t.int,.str b.t.name,.slice 4 .no (b.t.args.map T.e)]:=rfl
@[simp]theorem agr(off:Nat)(eR:Bool)(sz:Nat)(b:jn):rn off eR sz b.e=if eR then some (off+sz<=5,.agg (([.int .i64 b.v,.int .i64 b.t.kind,.int .i64 b.t.int,.str b.t.name,.slice 4 .no (b.t.args.map T.e)].drop off).take sz))else(([.int .i64 b.v,.int .i64 b.t.kind,.int .i64 b.t.int,.str b.t.name,.slice 4 .no (b.t.args.map T.e)]:List ae)[off]?).map fun p=>(True,p):=rfl
@[simp]theorem age(off:Nat)(eR:Bool)(sz:Nat)(b:jn):n7 off eR sz (.eptr b.e)=if eR then some (off+sz<=5,.eptr (.agg (([.int .i64 b.v,.int .i64 b.t.kind,.int .i64 b.t.int,.str b.t.name,.slice 4 .no (b.t.args.map T.e)].drop off).take sz)))else(([.int .i64 b.v,.int .i64 b.t.kind,.int .i64 b.t.int,.str b.t.name,.slice 4 .no (b.t.args.map T.e)]:List ae)[off]?).map fun p=>(eD p=true/\cells p=[p],.eptr p):=rfl
def T.occ(v:Int):T->Bool
 | .var n=>n==v
 | .pair a b=>a.occ v||b.occ v
 |_=>false
structure q4 where
 v:Int
 t:aX
def q4.e(b:q4):ae:= .agg [.int .i64 b.v,.int .i64 b.t.kind,.int .i64 b.t.num,.str b.t.name,.slice 4 .no (b.t.args.map enc)]
def jn.b(b:jn):q4:=⟨b.v,b.t.tm⟩
@[simp]theorem q4.eta(b:q4):q4.mk b.v b.t=b:=rfl
@[simp]theorem ae5(v:Int)(t:aX):ae.agg [.int .i64 v,.int .i64 t.kind,.int .i64 t.num,.str t.name,.slice 4 .no (t.args.map enc)]=(q4.mk v t).e:=rfl
@[simp]theorem aim(b:q4):eD b.e=true:=rfl
@[simp]theorem afI(b:q4):cells b.e=[.int .i64 b.v,.int .i64 b.t.kind,.int .i64 b.t.num,.str b.t.name,.slice 4 .no (b.t.args.map enc)]:=rfl
@[simp]theorem ags(off:Nat)(eR:Bool)(sz:Nat)(b:q4):rn off eR sz b.e=if eR then some (off+sz<=5,.agg (([.int .i64 b.v,.int .i64 b.t.kind,.int .i64 b.t.num,.str b.t.name,.slice 4 .no (b.t.args.map enc)].drop off).take sz))else(([.int .i64 b.v,.int .i64 b.t.kind,.int .i64 b.t.num,.str b.t.name,.slice 4 .no (b.t.args.map enc)]:List ae)[off]?).map fun p=>(True,p):=rfl
@[simp]theorem agf(off:Nat)(eR:Bool)(sz:Nat)(b:q4):n7 off eR sz (.eptr b.e)=if eR then some (off+sz<=5,.eptr (.agg (([.int .i64 b.v,.int .i64 b.t.kind,.int .i64 b.t.num,.str b.t.name,.slice 4 .no (b.t.args.map enc)].drop off).take sz)))else(([.int .i64 b.v,.int .i64 b.t.kind,.int .i64 b.t.num,.str b.t.name,.slice 4 .no (b.t.args.map enc)]:List ae)[off]?).map fun p=>(eD p=true/\cells p=[p],.eptr p):=rfl
def T.sub(f:Int->aT T):T->T
 | .var n=>match f n with|some x=>x|none=>.var n
 | .pair a b=>.pair (a.sub f) (b.sub f)
 |t=>t
def TK(l:List jn)(v:Int):aT T:=(l.find? fun b=>b.v==v).map (·.t)
end
end Go.Pv
namespace Go.Proofs.YtlnndmgfngfeiaaGreatDoor
section
open Go Go.Pv
def ZP(s:List al)(k:Nat)(st:aS):Prop:=∃i:Nat,1<=i/\i<=s.length/\k=s.length-i/\((s.drop 1).all lk=(s.drop i).all lk)/\st=⟨[(0,.str s),(3,.int .i64 i)],[],[],0,[]⟩
theorem CK(s:List al):b6 aQ 170 [.str s] (.bool (fM s)):=by
 refine b6.mk mixed p4 V5 aa7 Ψ (by simp[kin]) fun ah=>?_;unfold Lw;simp;(with_reducible repeat' first|((first|refine dG (fun h=>?_) fun h=>?_|refine dJ (fun h=>?_) fun h=>?_|refine dI (fun h=>?_) fun h=>?_)<;>try simp at h)|refine aA ?_|simp);case refine_1.refine_1.refine_1.refine_2=>
  have nu:fM s=(s.drop 1).all lk:=by simp[fM,low];omega
  rw[nu];refine Dp (ZP s) (s.length-1) _ ⟨Ψ,by simp[o9],by simp[p3],Ψ⟩ ⟨1,Ω,Ω,rfl,rfl,rfl⟩ ?_;rintro k st ⟨i,mL,y5,aa,k9,rfl⟩ Og b3;rw[k9];simp;refine dG (fun bS=>?_) (fun il=>?_)
  ·simp at bS;have aF:s.drop i=s[i]?.getD 0::s.drop (i+1):=by rw[pd bS];simp[bS]
   simp;(with_reducible repeat' first|((first|refine dG (fun h=>?_) fun h=>?_|refine dJ (fun h=>?_) fun h=>?_|refine dI (fun h=>?_) fun h=>?_)<;>try simp at h)|refine aA ?_|simp);all_goals first
    |(simp[cg,E3,a1,be,aV,aF,lk,low];omega)
    |(simp only[Tl];refine⟨s.length-(i+1),_,Ω,⟨Ψ,by simp[o9],by simp[p3],Ψ⟩,i+1,Ω,Ω,rfl,?_,rfl⟩;rw[k9,aF];simp[lk,low];omega)
  ·simp at il;have:s.drop i=[]:=by simp;omega
   simp[cg,E3,a1,be,aV,this]
 all_goals simp[cg,E3,a1,be,aV,fM,low]
 all_goals omega
theorem aeq(m:Nat):∀(t:aX),t.sz<=m->∀(room:Int),0<=room/\room<=10000->b6 aQ 150 [enc t,.int .i64 room] (.int .i64 (fy t room)):=by
 induction m with
 |zero=>intro t aD;cases t;simp[aX.sz]at aD
 |succ m bo=>
 rintro⟨k,n,s,args⟩ aD room ny;refine bQ p4 Wd abf fun aN=>?_;unfold LF;simp[aX.kind,aX.num,aX.name,aX.args];(with_reducible repeat' first|((first|refine dG (fun h=>?_) fun h=>?_|refine dJ (fun h=>?_) fun h=>?_|refine dI (fun h=>?_) fun h=>?_)<;>try simp at h)|refine aA ?_|simp);all_goals try refine CallDo.val Ψ (CK _) ?_
 all_goals try simp
 (with_reducible repeat' first|((first|refine dG (fun h=>?_) fun h=>?_|refine dJ (fun h=>?_) fun h=>?_|refine dI (fun h=>?_) fun h=>?_)<;>try simp at h)|refine aA ?_|simp);all_goals try simp[cg,E5,a1,be,aV]
 case succ.refine_2.refine_2.refine_1.refine_1.refine_2=>
  rename_i bL I J ao;match args,h with
  |[a,b],_=>
  simp[aX.sz,aX.szL]at aD;subst I J ao;simp;(with_reducible repeat' first|((first|refine dG (fun h=>?_) fun h=>?_|refine dJ (fun h=>?_) fun h=>?_|refine dI (fun h=>?_) fun h=>?_)<;>try simp at h)|refine aA ?_|simp);refine CallDo.val Ψ (bo a Ω (room-1) Ω) ?_;simp;have bF:=Jc a (room-1);have y1:=EN a (room-1);(with_reducible repeat' first|((first|refine dG (fun h=>?_) fun h=>?_|refine dJ (fun h=>?_) fun h=>?_|refine dI (fun h=>?_) fun h=>?_)<;>try simp at h)|refine aA ?_|simp)
  ·simp[cg,E5,a1,be,aV];rw[Jb];simp;omega
  ·refine CallDo.val Ψ (bo b Ω (room-1-fy a (room-1)) Ω) ?_;simp;have ah:=Jc b (room-1-fy a (room-1));have eT:=EN b (room-1-fy a (room-1));(with_reducible repeat' first|((first|refine dG (fun h=>?_) fun h=>?_|refine dJ (fun h=>?_) fun h=>?_|refine dI (fun h=>?_) fun h=>?_)<;>try simp at h)|refine aA ?_|simp);all_goals simp[cg,E5,a1,be,aV]
   all_goals rw[Jb];simp;omega
 all_goals rw[Jb]
 all_goals simp_all[kV]
 all_goals first|omega|(split<;>simp at h⊢)
theorem SJ(t:aX):b6 aQ 77 [enc t] (.bool t.fits):=by refine bQ p4 V6 aa8 fun aN=>?_;unfold Lx;simp;refine CallDo.val Ψ (aeq t.sz t (cq _) 5000 Ω) ?_;simp;simp[cg,Q5,a1,be,aV];simp[aX.fits]
def Lz:C:=(ag [gb 1 0,nI 2 1] (ag [dY (.mkmap 4 (some 304)),dY (.alloc 3 (some 305) (.junk)),bE 1 3 4] (ag [ck 5 4 1,bk 6 (.mkf 158 [.t 3]),eZ 7 157 5 6] (ag [bf 8 1 3,cK 9 160 8,ab 2 9] .ret))))
@[simp] def Q6:List cr:=[.tmp 2]
def F6:C:=(ag [bD 2 false] (.seq (ag [ab 3 0] (.block 0 (.seq (ag [bk 5 (.bin .eql false (.t 3) (.c (.str [116,114,117,101]))),ab 4 5] (bh 4 .skip (ag [bk 6 (.bin .eql false (.t 3) (.c (.str [102,97,105,108]))),ab 4 6] (bh 4 .skip (ag [bk 7 (.bin .eql false (.t 3) (.c (.str [115,121,109,98,111,108]))),ab 4 7] (bh 4 .skip (ag [bk 8 (.bin .eql false (.t 3) (.c (.str [110,117,109,98,101,114]))),ab 4 8] (bh 4 .skip (ag [bk 9 (.bin .eql false (.t 3) (.c (.str [97,98,115,101,110,116]))),ab 4 9] (bh 4 .skip (ag [bk 10 (.bin .eql false (.t 3) (.c (.str [97,110,100]))),ab 4 10] (bh 4 .skip (ag [bk 11 (.bin .eql false (.t 3) (.c (.str [111,114]))),ab 4 11] (bh 4 .skip (ag [bk 12 (.bin .eql false (.t 3) (.c (.str [110,111,116]))),ab 4 12] (bh 4 .skip (.region [bk 13 (.bin .eql false (.t 3) (.c (.str [100,101,102,105,110,101]))),ab 4 13]))))))))))))))))) (bh 4 (ag [bD 2 false] .ret) .skip)))) (ag [ab 14 0,cK 15 170 14,ab 2 15] .ret)))
@[simp] def ab6:List cr:=[.tmp 2]
def qp:C:=(ag [gb 2 0,cd 4 0] (.seq (ag [ab 10 1,bc 11 .lss 10 1,ab 12 11,aI 12 false (bm 13 2 1 2),aI 12 false (bf 14 1 13),aI 12 false (cK 15 183 14),aI 12 false (dB 16 15),dk 17 12 16] (bh 17 (ag [cd 4 (-1)] .ret) .skip)) (ag [dY (.mkmap 18 none),dY (.mput .i (.t 18) (da 2) (da 2)),dY (.mput .i (.t 18) (da 3) (da 2)),dY (.mput .i (.t 18) (da 4) (da 1)),dY (.mput .i (.t 18) (da 5) (da 1)),dY (.mput .i (.t 18) (da 6) (da 2)),ab 19 18,bm 20 0 1 2,bf 21 1 20,bk 22 (.mget .i (.int .i64 0) false (.t 19) (.t 21)),ab 5 22] (.seq (ag [bm 23 0 1 2,bf 24 1 23] (.block 0 (.seq (ag [bc 26 .eql 24 0,ab 25 26] (bh 25 .skip (ag [bc 27 .eql 24 1,ab 25 27] (bh 25 .skip (ag [bc 28 .eql 24 2,ab 25 28] (bh 25 .skip (ag [bc 29 .eql 24 3,ab 25 29] (bh 25 .skip (ag [bc 30 .eql 24 4,ab 25 30] (bh 25 .skip (ag [bc 31 .eql 24 5,ab 25 31] (bh 25 .skip (.region [bc 32 .eql 24 6,ab 25 32]))))))))))))) (bh 25 (.seq (ag [bm 33 1 1 2,bf 34 1 33,bk 35 (.bin .neq false (.t 34) (.c (.str []))),ab 36 35,aI 36 false (bm 37 3 1 2),aI 36 false (bf 38 1 37),aI 36 false (c7 39 38),aI 36 false (bc 40 .neq 39 0),dk 41 36 40,ab 42 41,aI 42 false (bm 43 2 1 2),aI 42 false (bf 44 1 43),aI 42 false (c7 45 44),bP 42 false 46 5,aI 42 false (cz 47 .neq 45 46),dk 48 42 47,ab 49 48,aI 49 false (bm 50 0 1 2),aI 49 false (bf 51 1 50),aI 49 false (bc 52 .eql 51 6),bP 49 false 53 52,aI 53 true (bm 54 2 1 2),aI 53 true (bf 55 1 54),aI 53 true (p7 56 4 55 0),aI 53 true (bm 57 0 1 56),aI 53 true (bf 58 1 57),aI 53 true (bc 59 .neq 58 2),aI 49 false (e7 60 53 59),dk 61 49 60] (bh 61 (ag [cd 4 (-1)] .ret) .skip)) (ag [cd 4 1] .ret)) (ag [bc 63 .eql 24 9,ab 62 63] (bh 62 (.seq (ag [bm 64 1 1 2,bf 65 1 64,cK 66 103 65,dB 67 66,ab 68 67,aI 68 false (bm 69 3 1 2),aI 68 false (bf 70 1 69),aI 68 false (c7 71 70),aI 68 false (bc 72 .neq 71 0),dk 73 68 72,ab 74 73,aI 74 false (bm 75 2 1 2),aI 74 false (bf 76 1 75),aI 74 false (c7 77 76),aI 74 false (bc 78 .gtr 77 4),dk 79 74 78] (bh 79 (ag [cd 4 (-1)] .ret) .skip)) (ag [cd 4 1] .ret)) (.seq (ag [bc 81 .eql 24 7,ab 80 81] (bh 80 .skip (.region [bc 82 .eql 24 8,ab 80 82]))) (bh 80 (ag [bm 83 1 1 2,bf 84 1 83,bk 85 (.bin .neq false (.t 84) (.c (.str []))),ab 86 85,aI 86 false (bm 87 2 1 2),aI 86 false (bf 88 1 87),aI 86 false (c7 89 88),aI 86 false (bc 90 .neq 89 0),dk 91 86 90,ab 92 91,aI 92 false (bm 93 3 1 2),aI 92 false (bf 94 1 93),aI 92 false (c7 95 94),aI 92 false (bc 96 .gtr 95 8),dk 97 92 96] (bh 97 (ag [cd 4 (-1)] .ret) .skip)) (ag [bc 99 .eql 24 10,ab 98 99] (bh 98 (ag [bm 100 1 1 2,bf 101 1 100,bk 102 (.bin .neq false (.t 101) (.c (.str []))),ab 103 102,aI 103 false (bm 104 2 1 2),aI 103 false (bf 105 1 104),aI 103 false (c7 106 105),aI 103 false (bc 107 .neq 106 0),dk 108 103 107,ab 109 108,aI 109 false (bm 110 3 1 2),aI 109 false (bf 111 1 110),aI 109 false (c7 112 111),aI 109 false (bc 113 .neq 112 1),dk 114 109 113,ab 115 114,aI 115 false (bm 116 3 1 2),aI 115 false (bf 117 1 116),aI 115 false (p7 118 4 117 0),aI 115 false (bm 119 0 1 118),aI 115 false (bf 120 1 119),aI 115 false (bc 121 .neq 120 9),dk 122 115 121] (bh 122 (ag [cd 4 (-1)] .ret) .skip)) (ag [cd 4 (-1)] .ret))))))))))) (ag [cd 6 1] (.seq (ag [bm 123 3 1 2,bf 124 1 123,c7 125 124,cd 126 0] (.block 1 (.loop (ag [cz 127 .lss 126 125] (.seq (bh 127 .skip (.exit 1)) (.seq (.block 2 (ag [cQ 128 4 124 126,ck 129 4 128,dY (.alloc 8 none (.agg [.int .i64 0,.str [],.slice 4 .nil [],.slice 4 .nil []])),bE 4 8 129] (ag [ck 130 4 8,ab 131 1,ab 132 6,cz 133 .sub 131 132,eZ 134 117 130 133,ab 9 134] (.seq (ag [ab 135 9,bc 136 .lss 135 0] (bh 136 (ag [cd 4 (-1)] .ret) .skip)) (.region [ab 137 6,ab 138 9,cz 139 .add 137 138,ab 6 139]))))) (.region [bc 140 .add 126 1,ab 126 140]))))))) (ag [ab 141 6,ab 4 141] .ret)))))))
@[simp] def tl:List cr:=[.tmp 4]
def LO:C:=(ag [gb 2 0,bD 4 false] (.seq (ag [ck 7 4 2,cK 8 90 7,c7 9 8,cd 10 0] (lX 11 10 9 (.seq (.block 1 (ag [cQ 12 1 8 10,bf 13 1 12,ab 6 13] (ag [ab 14 6,ab 15 1,cz 16 .geq 14 15] (bh 16 (ag [bD 4 false] .ret) .skip)))) (.region [bc 17 .add 10 1,ab 10 17])))) (ag [bD 4 true] .ret)))
@[simp] def ack:List cr:=[.tmp 4]
def Ga:C:=(ag [gb 2 0] (ag [ab 6 1,ck 7 4 2,Tc 8 6 [.t 7]] (ag [bm 9 3 1 2,bf 10 1 9,c7 11 10,cd 12 0] (lX 13 12 11 (.seq (.block 1 (ag [cQ 14 4 10 12,ck 15 4 14,dY (.alloc 5 none (.agg [.int .i64 0,.str [],.slice 4 .nil [],.slice 4 .nil []])),bE 4 5 15] (.region [ck 16 4 5,ab 17 1,eZ 18 157 16 17]))) (.region [bc 19 .add 12 1,ab 12 19]))))))
@[simp] def Ju:List cr:=[]
def LA:C:=(ag [gb 2 0] (ag [bm 5 2 1 2,bf 6 1 5,c7 7 6,cd 8 0] (lX 9 8 7 (.seq (.block 1 (ag [cQ 10 4 6 8,ck 11 4 10,ht 4 cU,bE 4 4 11] (.region [ck 12 4 4,bk 13 (.mkf 159 [.t 1]),eZ 14 79 12 13]))) (.region [bc 15 .add 8 1,ab 8 15])))))
@[simp] def Q7:List cr:=[]
def LB:C:=(.region [bf 3 1 1,ab 4 0,dY (.mput .i (.t 3) (.t 4) (.c (.bool true)))])
@[simp] def Q8:List cr:=[]
def wI:List (Nat×cJ):=[
 (3,⟨1,8,.int .i64,.int .i64 0⟩),
 (9,⟨1,16,.str,.str []⟩),
 (38,⟨1,24,.slice 40,.slice 4 .nil []⟩),
 (40,⟨4,56,.struct [(0,3),(1,3),(2,9),(3,38)],.agg [.int .i64 0,.int .i64 0,.str [],.slice 4 .nil []]⟩),
 (63,⟨1,24,.slice 65,.slice 4 .nil []⟩),
 (65,⟨4,72,.struct [(0,3),(1,9),(2,38),(3,63)],.agg [.int .i64 0,.str [],.slice 4 .nil [],.slice 4 .nil []]⟩),
 (70,⟨1,24,.slice 9,.slice 1 .nil []⟩),
 (136,⟨1,24,.slice 3,.slice 1 .nil []⟩),
 (180,⟨1,8,.map 3 9,.junk⟩),
 (199,⟨1,8,.map 3 4,.junk⟩),
 (219,⟨1,8,.map 3 3,.junk⟩)]
theorem lV:ez aQ wI=true:=by kernel_rfl
theorem aba:c8 wI Lz Q6 1 Tryz.f90=true:=by kernel_rfl
theorem V8:aQ.funcs[(90:Nat)]? =some Tryz.f90:=Tryz.func90
theorem QA:c8 wI F6 ab6 1 Tryz.f103=true:=by kernel_rfl
theorem M1:aQ.funcs[(103:Nat)]? =some Tryz.f103:=Tryz.func103
theorem r5:c8 wI qp tl 2 Tryz.f117=true:=by kernel_rfl
theorem rl:aQ.funcs[(117:Nat)]? =some Tryz.f117:=Tryz.func117
theorem abo:c8 wI LO ack 2 Tryz.f120=true:=by kernel_rfl
theorem Wm:aQ.funcs[(120:Nat)]? =some Tryz.f120:=Tryz.func120
theorem QE:c8 wI Ga Ju 2 Tryz.f157=true:=by kernel_rfl
theorem M5:aQ.funcs[(157:Nat)]? =some Tryz.f157:=Tryz.func157
theorem abb:c8 wI LA Q7 2 Tryz.f158=true:=by kernel_rfl
theorem V9:aQ.funcs[(158:Nat)]? =some Tryz.f158:=Tryz.func158
theorem abc:c8 wI LB Q8 2 Tryz.f159=true:=by kernel_rfl
theorem Wa:aQ.funcs[(159:Nat)]? =some Tryz.f159:=Tryz.func159
end
end Go.Proofs.YtlnndmgfngfeiaaGreatDoor
namespace Go.Pv
section
open Go Go.Lib
theorem QU:∀(a b:List al) (acc:Nat),parseUint10 acc (a++b)=match parseUint10 acc a with| .ok v=>parseUint10 v b|x=>x
 |[],b,acc=>rfl
 |c::r,b,acc=>by
  simp only[dm,parseUint10];split
  ·split
   ·rfl
   ·split
    ·rfl
    ·exact QU r b _
  ·rfl
theorem sM{u:Nat}(h:u<10):decDigits u=[nL (48+u)]:=by rw[decDigits,dif_pos h]
theorem vn{u:Nat}(h:10<=u):decDigits u=decDigits (u/10)++[nL (48+u%10)]:=by rw[decDigits,dif_neg Ω]
theorem AO{d:Nat}(h:d<10):(nL (48+d)).toNat=48+d:=by rw[UInt8.toNat_ofNat'];omega
theorem abX(u:Nat)(h:u<18446744073709551616):parseUint10 0 (decDigits u)= .ok u:=by
 induction u using Nat.strongRecOn with
 |_ u bo=>
  have step:∀v d,d<10->v*10+d<18446744073709551616->parseUint10 v [nL (48+d)]= .ok (v*10+d):=by intro v d aF aM;simp only[parseUint10,AO aF];rw[if_pos Ω,bq Ω,bq Ω];congr 1;omega
  by_cases hu:u<10
  ·rw[sM hu,step 0 u hu Ω];congr 1;omega
  ·rw[vn Ω,QU,bo (u/10) Ω Ω];simp only;rw[step _ _ (Nat.mod_lt _ Ω) Ω];congr 1;omega
theorem n1(u:Nat):decDigits u≠[]:=by
 by_cases hu:u<10
 ·rw[sM hu];simp
 ·rw[vn Ω];simp
theorem AN(u:Nat):∀c∈decDigits u,48<=c.toNat/\c.toNat<=57:=by
 induction u using Nat.strongRecOn with
 |_ u bo=>
  by_cases hu:u<10
  ·rw[sM hu];intro c aE;rw[List.mem_singleton.1 aE,AO hu];omega
  ·rw[vn Ω];intro c aE;rcases hv.1 aE with h|h
   ·exact bo _ Ω c h
   ·rw[List.mem_singleton.1 h,AO (Nat.mod_lt _ Ω)];omega
theorem QT{u:Nat}(h:u<18446744073709551616):parseMag (decDigits u)= .ok u:=by unfold parseMag;rw[bq (n1 u)];exact abX u h
theorem TF{n:Int}(h:aY n):atoiAll (itoa n)= .ok n:=by
 unfold aY at h;unfold itoa;by_cases aK:n<0
 ·rw[if_pos aK];simp only[atoiAll];rw[if_pos Ψ,QT Ω];simp only;rw[bq Ψ,bq (by simp;omega),if_pos Ψ];congr 1;omega
 ·rw[bq aK];obtain⟨c,r,aE⟩:∃c r,decDigits n.toNat=c::r:=by
   cases aF:decDigits n.toNat with
   |nil=>exact absurd aF (n1 _)
   |cons c r=>exact⟨c,r,rfl⟩
  have hm:=AN n.toNat c (by rw[aE];simp);have aU:=QT (u:=n.toNat) Ω;rw[aE]at aU⊢;simp only[atoiAll];rw[bq Ω,aU];simp only;rw[bq Ω,bq Ω,bq Ω];congr 1;omega
theorem TE{s:List al}{n:Int}(h:atoiAll s= .ok n):aY n:=by
 unfold atoiAll at h;unfold aY;split at h
 ·cases h
 ·rename_i c r;simp only at h;split at h
  ·cases h
  ·cases h
  ·split at h
   ·cases h
   ·split at h
    ·cases h
    ·injection h with h;split at h<;>omega
def fQ(s:List al):aT Int:=match atoiAll s with
 | .ok n=>if itoa n=s then some n else none
 |_=>none
theorem xV{s:List al}{n:Int}:fQ s=some n↔aY n/\itoa n=s:=by
 unfold fQ;constructor
 ·intro h;rcases bF:atoiAll s with m|_|_
  ·rw[bF]at h;simp only at h;split at h
   ·rename_i e;cases h;exact⟨TE bF,e⟩
   ·cases h
  ·rw[bF]at h;cases h
  ·rw[bF]at h;cases h
 ·rintro⟨I,rfl⟩;rw[TF I];simp
theorem r6{s:List al}(h:∀n,aY n->itoa n≠s):fQ s=none:=by
 cases aU:fQ s with
 |none=>rfl
 |some n=>exact absurd (xV.1 aU).2 (h n (xV.1 aU).1)
theorem En(n:Int):∀c∈itoa n,c.toNat=45\/48<=c.toNat/\c.toNat<=57:=by
 intro c aE;unfold itoa at aE;split at aE
 ·rcases gp.1 aE with rfl|aE
  ·exact .inl rfl
  ·exact .inr (AN _ c aE)
 ·exact .inr (AN _ c aE)
theorem Im(n:Int):itoa n≠[]:=by
 unfold itoa;split
 ·simp
 ·exact n1 _
theorem Db:∀(k u:Nat),u<10 ^ k->(decDigits u).length<=max k 1
 |0,u,h=>by rw[sM (by simpa using Nat.lt_of_lt_of_le h Ψ)];simp
 |k+1,u,h=>by
  by_cases hu:u<10
  ·rw[sM hu];simp
  ·rw[vn Ω];have:=Db k (u/10) (by rw[Nat.pow_succ]at h;omega);simp;have:k≠0:=fun e=>by subst e;simp at h;omega
   omega
theorem zg{n:Int}(h:aY n):(itoa n).length<=20:=by
 unfold aY at h;unfold itoa;split
 ·have:=Db 19 n.natAbs Ω;simp;omega
 ·have:=Db 19 n.toNat Ω;omega
def nY(c:al):Bool:=c==32||c==10||c==40||c==41||c==59
def o4(c:al):Bool:= !(c==10)
def h3(c:al):Bool:= !nY c
theorem Dh{α:Type}(p:α->Bool):∀l:List α,(l.dropWhile p).length<=l.length
 |[]=>by simp
 |x::r=>by
  simp only[List.dropWhile];split
  ·have:=Dh p r;simp;omega
  ·simp
def gV:List al->List (List al)
 |[]=>[]
 |c::r=>if c=32\/c=10 then gV r else if c=59 then gV (r.dropWhile o4)else if c=40\/c=41 then [c]::gV r else(c::r.takeWhile h3)::gV (r.dropWhile h3)
termination_by l=>l.length
decreasing_by
 all_goals simp
 all_goals exact Nat.lt_succ_of_le (Dh _ _)
theorem FF:gV []=[]:=by rw[gV]
theorem FE(c:al)(r:List al):gV (c::r)=if c=32\/c=10 then gV r else if c=59 then gV (r.dropWhile o4)else if c=40\/c=41 then [c]::gV r else(c::r.takeWhile h3)::gV (r.dropWhile h3):=by rw[gV]
def r4(c:al):Bool:=c==10||(decide (32<=c.toNat)&&decide (c.toNat<=126))
def iB(s:List al):aT (List (List al)):=if s.length<=100000/\(∀c∈s,r4 c=true)/\(gV s).length<=20000 then some (gV s)else none
theorem fi{α:Type}{l:List α}{i:Nat}{x:α}(h:l[i]? =some x):l.drop i=x::l.drop (i+1):=by obtain⟨az,rfl⟩:=e3.1 h;exact pd az
theorem z7:∀(n:Nat) (s:List al),s.length<=n->∀t∈gV s,t≠[]
 |_,[],_=>by simp[FF]
 |0,_::_,h=>by simp at h
 |n+1,c::r,h=>by
  rw[FE];simp at h;have I:=Dh o4 r;have J:=Dh h3 r;split
  ·exact z7 n r h
  ·split
   ·exact z7 n _ Ω
   ·split
    ·intro t aD;rcases gp.1 aD with rfl|aD
     ·simp
     ·exact z7 n r h t aD
    ·intro t aD;rcases gp.1 aD with rfl|aD
     ·simp
     ·exact z7 n _ Ω t aD
def e9:List T->T->T
 |[],t=>t
 |x::r,t=>.pair x (e9 r t)
theorem P4(a b:List T)(t:T):e9 (a++b) t=e9 a (e9 b t):=by
 induction a with
 |nil=>rfl
 |cons x r bo=>simp[e9,bo]
def eg(w:List al):aT T:=
 match w with
 |63::r=>match fQ r with
  |some n=>if 0<=n/\n<=100000 then some (.var n)else none
  |none=>none
 |w=>if fM w then some (.sym w)else(fQ w).map .num
mutual
def rd(at':List al->aT T):Nat->List (List al)->aT (T×List (List al))
 |0,_=>none
 |_+1,[]=>none
 |n+1,w::r=>if w=[40]then bH at' n r []else if w=[41]\/w=[46]then none else(at' w).map fun t=>(t,r)
def bH(at':List al->aT T):Nat->List (List al)->List T->aT (T×List (List al))
 |0,_,_=>none
 |_+1,[],_=>none
 |n+1,w::r,acc=>if w=[41]then some (e9 acc .nil,r)
  else if w=[46]then(if acc=[]then none else match rd at' n r with
   |some (t,v::cE)=>if v=[41]then some (e9 acc t,cE)else none
   |_=>none)
  else match rd at' n (w::r)with
   |some (t,cE)=>bH at' n cE (acc++[t])
   |none=>none
end
mutual
theorem pY{at':List al->aT T}:∀(n:Nat) (l:List (List al)) (t:T) (r:List (List al)),rd at' n l=some (t,r)->r<:+l/\r.length<l.length
 |0,_,_,_,h=>by simp[rd]at h
 |_+1,[],_,_,h=>by simp[rd]at h
 |n+1,w::l,t,r,h=>by
  simp only[rd]at h;split at h
  ·obtain⟨I,J⟩:=Pr n l [] t r h;exact⟨I.trans (List.suffix_cons _ _),by simp;omega⟩
  ·split at h
   ·cases h
   ·cases bF:at' w with
    |none=>rw[bF]at h;cases h
    |some x=>rw[bF]at h;cases h;exact⟨List.suffix_cons _ _,Ψ⟩
theorem Pr{at':List al->aT T}:∀(n:Nat) (l:List (List al)) (acc:List T) (t:T) (r:List (List al)),bH at' n l acc=some (t,r)->r<:+l/\r.length<l.length
 |0,_,_,_,_,h=>by simp[bH]at h
 |_+1,[],_,_,_,h=>by simp[bH]at h
 |n+1,w::l,acc,t,r,h=>by
  simp only[bH]at h;split at h
  ·cases h;exact⟨List.suffix_cons _ _,Ψ⟩
  ·split at h
   ·split at h
    ·cases h
    ·split at h
     ·rename_i x v cE hr;split at h
      ·cases h;obtain⟨I,J⟩:=pY n l x (v::r) hr;simp at J;exact⟨((List.suffix_cons _ _).trans I).trans (List.suffix_cons _ _),by simp;omega⟩
      ·cases h
     ·cases h
   ·split at h
    ·rename_i x cE hr;obtain⟨I,J⟩:=pY n (w::l) x cE hr;obtain⟨ao,aO⟩:=Pr n cE _ t r h;exact⟨ao.trans I,Ω⟩
    ·cases h
end
theorem UM{α:Type}{l r:List α}(h:r<:+l):l.drop (l.length-r.length)=r:=by obtain⟨p,rfl⟩:=h;simp
mutual
def MZ:T->List al
 | .nil=>[40,41]
 | .var n=>63::itoa n
 | .sym s=>s
 | .num n=>itoa n
 | .pair a b=>40::(MZ a++M0 b)
def M0:T->List al
 | .nil=>[41]
 | .pair a b=>32::(MZ a++M0 b)
 | .var n=>32::46::32::63::(itoa n++[41])
 | .sym s=>32::46::32::(s++[41])
 | .num n=>32::46::32::(itoa n++[41])
end
mutual
def hY:T->List (List al)
 | .nil=>[[40],[41]]
 | .var n=>[63::itoa n]
 | .sym s=>[s]
 | .num n=>[itoa n]
 | .pair a b=>[40]::(hY a++jx b)
def jx:T->List (List al)
 | .nil=>[[41]]
 | .pair a b=>hY a++jx b
 | .var n=>[[46],63::itoa n,[41]]
 | .sym s=>[[46],s,[41]]
 | .num n=>[[46],itoa n,[41]]
end
def w9:List al->Prop
 |[]=>True
 |c::_=>nY c=true
theorem ze(c:al):h3 c=true↔ ¬(c=32\/c=10)/\¬c=59/\¬(c=40\/c=41):=by unfold h3 nY;simp;grind
theorem Ii(n:Int):∀c∈itoa n,h3 c=true:=by intro c aE;rw[ze];have:=En n c aE;refine⟨?_,?_,?_⟩<;>(intro e;first|(rcases e with rfl|rfl<;>revert this<;>decide)|(subst e;revert this;decide))
theorem ZJ{c:al}(h:lk c=true):h3 c=true:=by rw[ze];refine⟨?_,?_,?_⟩<;>(intro e;first|(rcases e with rfl|rfl<;>revert h<;>decide)|(subst e;revert h;decide))
theorem aas{c:al}(h:low c=true):h3 c=true:=by rw[ze];refine⟨?_,?_,?_⟩<;>(intro e;first|(rcases e with rfl|rfl<;>revert h<;>decide)|(subst e;revert h;decide))
theorem BX{s:List al}(h:fM s=true):∃c r,s=c::r/\low c=true/\(∀x∈r,lk x=true)/\r.length<=11:=by
 unfold fM at h;simp only[bM,fK,jy]at h;cases s with
 |nil=>simp at h
 |cons c r=>exact⟨c,r,rfl,by simpa using h.1.2,by simpa using h.2,by have:=h.1.1.2;simp at this;omega⟩
theorem Ih{s:List al}(h:fM s=true):∀c∈s,h3 c=true:=by
 obtain⟨c,r,rfl,I,J,_⟩:=BX h;intro x af;rcases gp.1 af with rfl|af
 ·exact aas I
 ·exact ZJ (J x af)
theorem SY(n:Int):∀c∈63::itoa n,h3 c=true:=by
 intro c aE;rcases gp.1 aE with rfl|aE
 ·decide
 ·exact Ii n c aE
theorem TD{n:Int}(h:0<=n/\n<=100000):eg (63::itoa n)=some (.var n):=by have:fQ (itoa n)=some n:=xV.2 ⟨by unfold aY;omega,rfl⟩;simp[eg,this,h]
theorem Qq{s:List al}(h:fM s=true):∀r,s≠63::r:=by obtain⟨c,r,rfl,I,_⟩:=BX h;intro cE e;simp only[Ai]at e;obtain⟨rfl,_⟩:=e;revert I;decide
theorem TC{s:List al}(h:fM s=true):eg s=some (.sym s):=by
 have:=Qq h;unfold eg;split
 ·rename_i r;exact absurd rfl (this r)
 ·simp[h]
theorem aa0{n:Int}:fM (itoa n)=false:=by
 cases ah:fM (itoa n)with
 |false=>rfl
 |true=>obtain⟨c,r,I,J,_⟩:=BX ah;have:=En n c (by rw[I];simp);unfold low at J;simp at J;omega
theorem TB{n:Int}(h:aY n):eg (itoa n)=some (.num n):=by
 have I:∀r,itoa n≠63::r:=fun r e=>by have:=En n 63 (by rw[e];simp);revert this;decide
 have J:fQ (itoa n)=some n:=xV.2 ⟨h,rfl⟩;unfold eg;split
 ·rename_i r e;exact absurd e (I r)
 ·simp[aa0,J]
theorem xQ{w:List al}(h:∀c∈w,h3 c=true):w≠[40]/\w≠[41]:=by constructor<;>(rintro rfl;have:=h _ (List.mem_singleton.2 rfl);revert this;decide)
theorem Qt(n:Int):itoa n≠[46]:=fun e=>by have:=En n 46 (by rw[e];simp);revert this;decide
theorem Qp{s:List al}(h:fM s=true):s≠[46]:=by rintro rfl;revert h;decide
theorem KK:∀t:T,1<=(hY t).length
 | .nil=>by simp[hY]
 | .var _=>by simp[hY]
 | .sym _=>by simp[hY]
 | .num _=>by simp[hY]
 | .pair _ _=>by simp[hY]
theorem aeF:∀t:T,1<=(jx t).length
 | .nil=>by simp[jx]
 | .var _=>by simp[jx]
 | .sym _=>by simp[jx]
 | .num _=>by simp[jx]
 | .pair a _=>by have:=KK a;simp[jx];omega
mutual
theorem Ci:∀(t:T) (r:List (List al)) (n:Nat),t.ok=true->(hY t).length<=n->rd eg n (hY t++r)=some (t,r)
 | .nil,r,n,_,aK=>by obtain⟨n,rfl⟩:∃m,n=m+2:=⟨n-2,by simp[hY]at aK;omega⟩;simp[hY,rd,bH,e9]
 | .var m,r,n,h,aK=>by obtain⟨n,rfl⟩:∃m,n=m+1:=⟨n-1,by simp[hY]at aK;omega⟩;have I:=xQ (SY m);simp only[T.ok,fK]at h;simp[hY,rd,I,Im,TD h]
 | .sym s,r,n,h,aK=>by obtain⟨n,rfl⟩:∃m,n=m+1:=⟨n-1,by simp[hY]at aK;omega⟩;simp only[T.ok]at h;have I:=xQ (Ih h);simp[hY,rd,I,Qp h,TC h]
 | .num m,r,n,h,aK=>by obtain⟨n,rfl⟩:∃m,n=m+1:=⟨n-1,by simp[hY]at aK;omega⟩;simp only[T.ok,fK]at h;have I:=xQ (Ii m);simp[hY,rd,I,Qt,TB (n:=m) (by unfold aY;omega)]
 | .pair a b,r,n,h,aK=>by obtain⟨n,rfl⟩:∃m,n=m+1:=⟨n-1,by simp[hY]at aK;omega⟩;simp only[T.ok,bM]at h;have:=Ps a b [] r n h.1 h.2 (by simp[hY]at aK;omega);simp only[hY,dm,kE,rd,if_true];rw[this];simp[e9]
termination_by _ _ n=>(n,0)
theorem Ps:∀(a b:T) (acc:List T) (r:List (List al)) (n:Nat),a.ok=true->b.ok=true->(hY a).length+(jx b).length<=n->bH eg n (hY a++(jx b++r)) acc=some (e9 acc (.pair a b),r)
 |a,b,acc,r,n,bF,ah,aK=>by
  obtain⟨n,rfl⟩:∃m,n=m+1:=⟨n-1,by have:=KK a;omega⟩;obtain⟨w,l,hw,Zx,BH⟩:∃w l,hY a=w::l/\w≠[41]/\w≠[46]:=by
   cases a with
   |nil=>exact⟨_,_,rfl,by decide,by decide⟩
   |var m=>exact⟨_,_,rfl,(xQ (SY m)).2,by simp[Im]⟩
   |sym s=>exact⟨_,_,rfl,(xQ (Ih bF)).2,Qp bF⟩
   |num m=>exact⟨_,_,rfl,(xQ (Ii m)).2,Qt m⟩
   |pair x y=>exact⟨_,_,rfl,by decide,by decide⟩
  have I:=Ci a (jx b++r) n bF (by have:=aeF b;omega);rw[hw,dm]at I⊢;simp only[bH];rw[bq Zx,bq BH,I];simp only;rw[ZW b (acc++[a]) r n ah (by have:=KK a;omega) Ψ,P4];rfl
termination_by _ _ _ _ n=>(n,0)
theorem ZW:∀(b:T) (acc:List T) (r:List (List al)) (n:Nat),b.ok=true->(jx b).length<=n->acc≠[]->bH eg n (jx b++r) acc=some (e9 acc b,r)
 | .nil,acc,r,n,_,aK,_=>by obtain⟨n,rfl⟩:∃m,n=m+1:=⟨n-1,by simp[jx]at aK;omega⟩;simp[jx,bH]
 | .var m,acc,r,n,h,aK,bF=>by obtain⟨n,rfl⟩:∃m,n=m+1:=⟨n-1,by simp[jx]at aK;omega⟩;have I:=Ci (.var m) ([41]::r) n h (by simp[jx]at aK;simp[hY];omega);simp only[hY,List.singleton_append]at I;simp[jx,bH,bF,I]
 | .sym m,acc,r,n,h,aK,bF=>by obtain⟨n,rfl⟩:∃m,n=m+1:=⟨n-1,by simp[jx]at aK;omega⟩;have I:=Ci (.sym m) ([41]::r) n h (by simp[jx]at aK;simp[hY];omega);simp only[hY,List.singleton_append]at I;simp[jx,bH,bF,I]
 | .num m,acc,r,n,h,aK,bF=>by obtain⟨n,rfl⟩:∃m,n=m+1:=⟨n-1,by simp[jx]at aK;omega⟩;have I:=Ci (.num m) ([41]::r) n h (by simp[jx]at aK;simp[hY];omega);simp only[hY,List.singleton_append]at I;simp[jx,bH,bF,I]
 | .pair x y,acc,r,n,h,aK,bF=>by simp only[T.ok,bM]at h;simp only[jx,kE];exact Ps x y acc r n h.1 h.2 (by simp[jx]at aK;omega)
termination_by _ _ _ n=>(n,1)
end
end
end Go.Pv
