/- Terms written and read back. -/
import Derived.Test.YtlnndmgfngfeiaaGreatDoorProg
import Derived.Lib.ItoaNum
import Derived.Lib.AtoiAll
import Derived.Test.YtlnndmgfngfeiaaGreatDoorZn4
set_option linter.all false
set_option maxHeartbeats 4000000
set_option maxRecDepth 4000
open Bool renaming and_eq_true->bJ,not_eq_true'->sG
open Decidable renaming not_not->aqe
open Go renaming Program->bS
open Go.IntKind renaming i64->lL
open Go.IntWalk renaming i64_in->ou
open Go.Proofs.Tryz renaming prog->aF
open List renaming all_eq_true->ji,append_assoc->lr,cons_append->dF,drop_eq_getElem_cons->pR,getElem?_eq_getElem->cL,getElem?_eq_some_iff->fo,length_cons->gg,map_cons->fF,mem_append->hl,mem_append_right->k2,mem_cons->gy,mem_map->nj,mem_of_getElem?->e1,nodup_append->qC,take_add_one->k3,take_append_drop->ry,take_length->hE
open List.Pairwise renaming map->alB
open List.cons renaming injEq->sH
open Nat renaming le_refl->cc,lt_or_ge->mc
open Option renaming isSome_iff_exists->fv
open Option.some renaming inj->gB
open UInt8 renaming ofNat->oW
open _root_ renaming False->dr,Option->aW,UInt8->aj,decide_eq_true_eq->fs,if_neg->br
namespace Go.Pv
section
open Go Go.RowKit
def vK(N:List (aC×Nat))(l:List (Nat×ae)):List (Nat×ae):=l.map fun x=>(x.1,jA N x.2)
def uI(N:List (aC×Nat))(l:List (aC×List ae)):List (aC×List ae):=l.map fun x=>(x.1,oB N x.2)
def Eu:List (aC×List ae)->Prop
 |[]=>True
 |(_,cs)::r=>gO cs=true/\Eu r
theorem MH:∀{l:List (aC×List ae)} {k:aC} {cs:List ae},Eu l->look k l=some cs->gO cs=true
 |[],_,_,_,h=>by simp[look]at h
 |(j,p)::r,k,cs,h,ab=>by
  simp only[look]at ab;split at ab
  ·cases ab;exact h.1
  ·exact MH h.2 ab
def rk(st:aU)(s:Nat):ae:=match get s st.t with
 | .ptr k 0=>(match look k st.b with|some cs=>.agg cs|none=>.junk)
 |p=>p
def EZ(base n:Nat):List aC:=(List.range' base n).map .obj
def uh(st:aU)(p:ae)(base:Nat)(ε:Nat->Nat):aU:=⟨vK (tn p) st.t,uI (tn p) st.b,dB ε base (bD p),st.n,EZ base (bV (bD p))++st.o⟩
def ui(st:aU)(s base:Nat)(ε:Nat->Nat):aU:=match get s st.t with
 | .ptr k 0=>(match look k st.b with|some cs=>{uh st (.agg cs) base ε with b:=dj k (ha base (bC cs)) (uI (tn (.agg cs)) st.b)}|none=>uh st .junk base ε)
 |p=>{uh st p base ε with t:=put s (eB base (bD p)) (vK (tn p) st.t)}
def Cb(st:aU)(p:ae)(base:Nat):Prop:=dO p/\(tn p).Nodup/\(∀m,.obj m∈st.o->m<base)/\Eu st.b
theorem UH{base n:Nat}{k:aC}:k∈EZ base n↔∃m,k= .obj m/\base<=m/\m<base+n:=by simp only[EZ,nj,List.mem_range'_1];exact⟨fun⟨m,h,e⟩=>⟨m,e.symm,h⟩,fun⟨m,e,h⟩=>⟨m,h,e.symm⟩⟩
theorem YY(N:List (aC×Nat))(p:ae):(match jA N p with| .hdm _ _=>false| .hdi _ _ _=>false|_=>true)=true:=by
 cases p with
 |slice sz tag xs=>
  cases tag with
  |tr k j=>by_cases e:(k,j)∈N<;>simp[jA,e]
  |lo k=>by_cases e:(k,0)∈N<;>simp[jA,e]
  |_=>cases xs<;>rfl
 |_=>rfl
theorem ah9(N:List (aC×Nat)):∀cs,gO (oB N cs)=true
 |[]=>rfl
 |c::cs=>by have:=YY N c;simp only[oB];cases h:jA N c<;>simp_all[gO]
theorem ai3{C:eK}{st:aU}{a:Act}{w:World}{ν:aQ}(h:cm C st a w ν){k:aC}{cs cs':List ae}(ab:look k st.b=some cs)(aV:gO cs=true)
  (hr:∀bl us el,ν.bx k=some bl->w.heap[bl]? =some (.cells us el)->ck w ν cs us.toList->ck w ν cs' us.toList):cm C {st with b:=dj k cs' st.b} a w ν:=by
 have az:∀j,(look j (dj k cs' st.b)).isSome->(look j st.b).isSome:=fun j ai=>by
  rw[jK]at ai;split at ai
  ·rename_i e;subst e;simp[ab]
  ·exact ai
 refine⟨⟨h.good.alt,fun j ds ai=>?_,fun j eQ bl I J=>h.good.inj j eQ bl (az j I) (az eQ J),h.good.own,h.good.oinj,fun g j n v bl I J=>h.good.obx g j n v bl I (az j J),h.good.one,fun bl aE=>h.good.otr bl (aE.imp (fun⟨j,ao,aL⟩=>⟨j,az j ao,aL⟩) id)⟩,h.fr,h.defers,h.size,h.slot,h.new,h.ext,h.obk⟩;rw[jK]at ai;split at ai
 ·rename_i e;subst e;cases ai;obtain⟨bl,us,el,g1,g2,g3,g4,g5⟩:=h.good.box k cs ab;rw[l4 aV]at g5;rw[mB aV]at g4;have g6:=hr bl us _ g1 g4 g5;have ql:=vk g6;exact⟨bl,us,el,g1,g2,g3,by rw[mB ql];exact g4,by rw[l4 ql];exact g6⟩
 ·exact h.good.box j ds ai
theorem Xv{C:eK}{st:aU}{a:Act}{w:World}{ν:aQ}(h:cm C st a w ν)(hex:C.ex=[])(bz:∀b o,C.ν0.A b o->b<C.w0.heap.size){p:ae}{v:Value}{base:Nat}(aV:aJ w ν p v)(aH:Cb st p base):
  ∃ε ν',cm C (uh st p base ε) a w ν'/\aJ w ν' (eB base (bD p)) v/\ν'.bx=ν.bx:=by
 obtain⟨cF,c2,c3,c4⟩:=aH;obtain⟨ε,ω,E2,tr,akm⟩:=NV (bD p) _ v base (Hv h.fr.trd p v aV cF c2);have ka:∀m,base<=m->fresh st.n st.o (.obj m):=fun m hm=>⟨trivial,fun ab=>by have:=c3 m ab;omega⟩;have Ll:∀m x,ω m=some x->ν.bx (.obj m)=none/\ν.ow (.obj m)=none/\∀j b,¬ν.tr (.obj m) j b:=fun m x hm=>h.new _ (ka m ((E2.dom m).1 (by rw[hm];rfl)).1);have jn:∀m x,ω m=some x->(hN ν (tn p) ω).ow (.obj m)=some x:=fun m x hm=>by simp only[hN,hm]
 have hold:∀k n u,ν.ow k=some (n,u)->(hN ν (tn p) ω).ow k=some (n,u):=fun k n u ab=>by
  cases k with
  |loc m=>exact ab
  |obj m=>
   simp only[hN];cases hm:ω m with
   |none=>exact ab
   |some x=>rw[(Ll m x hm).2.1]at ab;cases ab
 have k9:∀k n u,(hN ν (tn p) ω).ow k=some (n,u)->ν.ow k=some (n,u)\/ ∃m,k= .obj m/\ω m=some (n,u):=fun k n u ab=>by
  cases k with
  |loc m=>exact .inl ab
  |obj m=>
   simp only[hN]at ab;cases hm:ω m with
   |none=>rw[hm]at ab;exact .inl ab
   |some x=>rw[hm]at ab;exact .inr ⟨m,rfl,by rw[<-ab];exact hm⟩
 have oE:∀bl,lh ν (tn p) bl->C.w0.heap.size<=bl:=fun bl ⟨k,j,ao,aL⟩=>by have ab:k≠cY:=U4 p cF _ ao;exact(h.fr.trb k j bl aL).1.resolve_left ab
 have fW:∀g o,look g (dB ε base (bD p))=some o->∃m,g= .obj m/\base<=m/\m<base+bV (bD p)/\∃u us,ω m=some (o.n,u)/\w.ownsRow 0 o.el o.sz u o.n us/\∃xs,o.xs=some xs/\xs.length=o.n/\cV w (hN ν (tn p) ω) o.sz xs us:=fun g o aS=>by
  obtain⟨m,e,fK,cR⟩:=vb ε _ base g o aS;obtain⟨u,us,b0,cS,dT⟩:=tr (hN ν (tn p) ω) jn g o aS;subst e;refine⟨m,rfl,fK,cR,u,us,?_,cS,dT⟩;rcases k9 _ _ _ b0 with q|⟨m',q,q'⟩
  ·rw[(h.new _ (ka m fK)).2.1]at q;cases q
  ·cases q;exact q'
 have hS:∀k cs,look k (uI (tn p) st.b)=some cs->∃ds,look k st.b=some ds/\cs=oB (tn p) ds:=fun k cs ab=>by
  rw[uI,Hd]at ab;cases aD:look k st.b with
  |none=>rw[aD]at ab;cases ab
  |some ds=>rw[aD]at ab;cases ab;exact⟨ds,rfl,rfl⟩
 have qY:∀k,(look k (uI (tn p) st.b)).isSome->(look k st.b).isSome:=fun k ab=>by obtain⟨cs,dc⟩:=fv.1 ab;obtain⟨ds,e,_⟩:=hS k cs dc;simp[e]
 have wx:∀g n v bl,(look g (dB ε base (bD p))).isSome->(hN ν (tn p) ω).ow g=some (n,v)->v.ownBlock=some bl->lh ν (tn p) bl:=fun g n v bl I J au=>by obtain⟨o,aq⟩:=fv.1 I;obtain⟨m,rfl,fK,cR,u,us,b0,cS,dT⟩:=fW g o aq;rw[jn m _ b0]at J;cases J;obtain⟨hx,ao,aL⟩:=E2.blk m _ _ b0;rw[au]at ao;cases ao;exact aL
 refine⟨ε,hN ν (tn p) ω,⟨⟨fun bl o bf=>h.good.alt bl o bf.1,fun k cs ab=>?_,fun k bn bl I J=>h.good.inj k bn bl (qY k I) (qY bn J),fun g o aS=>?_,fun g et n n' v v' bl I J au aP bA cy=>?_,fun g k n v bl I J au aP bA=>?_,fun k=>?_,fun bl aE k j ah=>?_⟩,
  ⟨h.fr.os,h.fr.tape,h.fr.output,h.fr.size,h.fr.block,fun b o bf=>⟨⟨(h.fr.keep b o bf).1,fun ah=>?_⟩,(h.fr.keep b o bf).2⟩,fun b o bf=>h.fr.fresh b o bf.1,h.fr.obj,h.fr.obn,fun m n u hm=>?_,h.fr.obr,fun k j bn eQ b I J=>h.fr.trd k j bn eQ b I.1 J.1,fun k j b ah=>h.fr.trb k j b ah.1,fun k j b ah=>⟨(h.fr.trn k j b ah.1).1,?_⟩,h.fr.sh,h.fr.nrow⟩,h.defers,h.size,fun i=>?_,fun k ab=>?_,fun x af=>(by rw[hex]at af;cases af),fun m hm aK=>h.obk m hm (rR (cc _) (fun _ h=>k2 _ h) aK)⟩,akm _ jn,rfl⟩
 ·obtain⟨ds,ao,rfl⟩:=hS k cs ab;obtain⟨bl,us,el,g1,g2,g3,g4,g5⟩:=h.good.box k ds ao;have ij:=MH c4 ao;rw[l4 ij]at g5;rw[mB ij]at g4;have g6:=IS (N:=tn p) (ω:=ω) h.fr.trd ds _ g5;have ql:=vk g6;exact⟨bl,us,el,g1,g2,fun o bf=>g3 o bf.1,by rw[mB ql];exact g4,by rw[l4 ql];exact g6⟩
 ·obtain⟨m,rfl,fK,cR,u,us,b0,cS,xs,dT,dY,di⟩:=fW g o aS;obtain⟨bl,ao,aL⟩:=E2.blk m _ _ b0;have hJ:∀hx,u.ownBlock=some hx->∀j,¬(hN ν (tn p) ω).A hx j:=fun hx ah j bf=>by rw[ao]at ah;cases ah;exact bf.2 aL
  exact⟨u,us,jn m _ b0,cS,fun hx ah=>⟨.inr (by rw[ao]at ah;cases ah;exact oE _ aL),fun j bf=>absurd bf (hJ hx ah j)⟩,fun xs' af=>by rw[dT]at af;cases af;exact⟨dY,di,hJ⟩⟩
 ·obtain⟨o,aq⟩:=fv.1 I;obtain⟨o',hK⟩:=fv.1 J;obtain⟨m,rfl,_,_,u,us,b0,_⟩:=fW g o aq;obtain⟨m',rfl,_,_,eJ,bE,VM,_⟩:=fW et o' hK;rw[jn m _ b0]at au;cases au;rw[jn m' _ VM]at aP;cases aP;rw[E2.inj m m' _ _ _ _ bl b0 VM bA cy]
 ·obtain⟨eN,Lw,_,aL⟩:=wx g n v bl I au aP;exact h.good.otr bl (.inl ⟨k,qY k J,bA⟩) eN Lw aL
 ·rcases h.good.one k with I|I
  ·exact .inl I
  ·cases ab:(hN ν (tn p) ω).ow k with
   |none=>exact .inr rfl
   |some x=>
    rcases k9 k x.1 x.2 ab with J|⟨m,rfl,J⟩
    ·rw[I]at J;cases J
    ·exact .inl (Ll m _ J).1
 ·rcases aE with⟨bn,ao,aL⟩|⟨g,n,v,ao,aL,bB⟩
  ·exact h.good.otr bl (.inl ⟨bn,qY bn ao,aL⟩) k j ah.1
  ·obtain⟨eN,Lw,f1,f2⟩:=wx g n v bl ao aL bB;obtain⟨rfl,rfl⟩:=h.fr.trd k j eN Lw bl ah.1 f2;exact ah.2 f1
 ·have:=oE b ah;have:=bz b o bf;omega
 ·obtain⟨n',eJ,ao,aL⟩:=h.fr.row m n u hm;exact⟨n',eJ,hold _ _ _ ao,aL⟩
 ·have e:=(h.fr.trn k j b ah.1).2;cases ab:(hN ν (tn p) ω).ow k with
  |none=>rfl
  |some x=>
   rcases k9 k x.1 x.2 ab with J|⟨m,rfl,J⟩
   ·rw[e]at J;cases J
   ·exact absurd ah.1 ((Ll m _ J).2.2 j b)
 ·show aJ w (hN ν (tn p) ω) (get i (vK (tn p) st.t)) _;rw[vK,J9 (by simp[jA])];exact IQ h.fr.trd _ _ (h.slot i)
 ·obtain⟨b0,cS⟩:=ab;have dT:k∉EZ base (bV (bD p))/\k∉st.o:=by simp only[uh,hl,not_or]at cS;exact cS
  obtain⟨m1,m2,m3⟩:=h.new k ⟨b0,dT.2⟩;refine⟨m1,?_,fun j b ah=>m3 j b ah.1⟩;cases ab:(hN ν (tn p) ω).ow k with
  |none=>rfl
  |some x=>
   rcases k9 k x.1 x.2 ab with J|⟨m,rfl,J⟩
   ·rw[m2]at J;cases J
   ·exact absurd (UH.2 ⟨m,rfl,(E2.dom m).1 (by rw[J];rfl)⟩) dT.1
theorem ake{C:eK}{st:aU}{a:Act}{w:World}{ν:aQ}(h:cm C st a w ν)(hex:C.ex=[])(bz:∀b o,C.ν0.A b o->b<C.w0.heap.size){s base:Nat}(aH:Cb st (rk st s) base):∃ε ν',cm C (ui st s base ε) a w ν':=by
 have W2:rk st s=get s st.t->∃ε ν',cm C {uh st (get s st.t) base ε with t:=put s (eB base (bD (get s st.t))) (vK (tn (get s st.t)) st.t)} a w ν':=fun e=>by rw[e]at aH;obtain⟨ε,ν',eZ,ey,_⟩:=Xv h hex bz (h.slot s) aH;exact⟨ε,ν',HR eZ ey⟩
 cases ab:get s st.t with
 |ptr k off=>
  cases off with
  |zero=>
   cases aD:look k st.b with
   |none=>simp only[rk,ab,aD]at aH;exact absurd aH.1 (by simp[dO])
   |some cs=>
    have ao:rk st s= .agg cs:=by simp only[rk,ab,aD]
    have aL:∀ε,ui st s base ε={uh st (.agg cs) base ε with b:=dj k (ha base (bC cs)) (uI (tn (.agg cs)) st.b)}:=fun ε=>by simp only[ui,ab,aD]
    rw[ao]at aH;simp only[aL];obtain⟨bl,us,el,g1,g2,g3,g4,g5⟩:=h.good.box k cs aD;have ij:=MH aH.2.2.2 aD;rw[l4 ij]at g5;rw[mB ij]at g4;obtain⟨ε,ν',eZ,ey,jg⟩:=Xv h hex bz (p:= .agg cs) (v:= .agg us) (by simp only[aJ];exact⟨us,rfl,g5⟩) aH;have fe:look k (uI (tn (.agg cs)) st.b)=some (oB (tn (.agg cs)) cs):=by rw[uI,Hd,aD];rfl
    refine⟨ε,ν',ai3 eZ fe (ah9 _ _) fun Y3 pN aah f1 f2 _=>?_⟩;rw[jg,g1]at f1;cases f1;rw[g4]at f2;cases f2;simp only[eB,bD,aJ]at ey;obtain⟨aqa,bB,b9⟩:=ey;cases bB;exact b9
  |succ off=>
   have ao:rk st s=get s st.t:=by simp only[rk,ab]
   have aL:∀ε,ui st s base ε={uh st (get s st.t) base ε with t:=put s (eB base (bD (get s st.t))) (vK (tn (get s st.t)) st.t)}:=fun ε=>by simp only[ui,ab]
   simp only[aL];exact W2 ao
 |_=>
  have ao:rk st s=get s st.t:=by simp only[rk,ab]
  have aL:∀ε,ui st s base ε={uh st (get s st.t) base ε with t:=put s (eB base (bD (get s st.t))) (vK (tn (get s st.t)) st.t)}:=fun ε=>by simp only[ui,ab]
  simp only[aL];exact W2 ao
end
section
open Go Go.RowKit
inductive iB where
 |of (c:C)
 |sq (c:C) (d:iB)
 |sl (d:iB)
 |th (s:Nat) (d:iB)
def pe(P:bS)(ob:List aC):iB->(Exit->aU->Prop)->aU->Prop
 | .of c,Q,st=>cQ P ob c Q st
 | .sq c d,Q,st=>cQ P ob c (fun e st'=>match e with| .normal=>pe P ob d Q st'|e=>Q e st') st
 | .sl d,Q,st=> ∃st',il ob st st'/\H7 st'/\pe P ob d Q (vn st')
 | .th s d,Q,st=> ∃st' base,il ob st st'/\Cb st' (rk st' s) base/\∀ε,pe P ob d Q (ui st' s base ε)
def y4(N:Nat)(bk:List (Nat×dh)):iB->Code->Bool
 | .of c,code=>gW N bk c code
 | .sq c d,.seq x y=>gW N bk c x&&y4 N bk d y
 | .sl d,code=>y4 N bk d code
 | .th _ d,code=>y4 N bk d code
 |_,_=>false
theorem FV{P:bS}(hm:P.follows .mixedOrders=true){bk:List (Nat×dh)}(aE:eW P bk=true){X:eK}(hex:X.ex=[])(bz:∀b o,X.ν0.A b o->b<X.w0.heap.size):∀(d:iB) (code:Code) (Q:Exit->aU->Prop) (st:aU),y4 X.N bk d code=true->pe P X.ob d Q st->Iz P X code Q st
 | .of c,code,Q,st,aq,he=>oD hm aE c code Q st aq he
 | .sq c d,code,Q,st,aq,he=>by
  cases code<;>try(simp[y4]at aq;done)
  rename_i rO ly;simp only[y4,bJ]at aq;intro a w ν hr;refine wp_seq ?_;refine wp_mono (oD hm aE c rO _ st aq.1 he a w ν hr) fun e ch w' bR=>?_;obtain⟨st',ν',bp,cp⟩:=bR;cases e with
  |normal=>exact FV hm aE hex bz d ly Q st' aq.2 bp ch w' ν' cp
  |_=>exact⟨st',ν',bp,cp⟩
 | .sl d,code,Q,st,aq,he=>fun a w ν hr=>by obtain⟨st',I,J,au⟩:=he;exact FV hm aE hex bz d code Q _ aq au a w _ (aju (hr.weaker I) hex J)
 | .th s d,code,Q,st,aq,he=>fun a w ν hr=>by obtain⟨st',base,hw,I,J⟩:=he;obtain⟨ε,ν',cp⟩:=ake (hr.weaker hw) hex bz I;exact FV hm aE hex bz d code Q _ aq (J ε) a w ν' cp
def F6(bk:List (Nat×dh))(d:iB)(dv:List ca)(Mi:Nat)(fn:Func):Bool:=
 match fn.body with
 |some code=>y4 fn.ntmps bk d code&&pH bk dv fn.results.toList&& !(fn.name== "runtime.NumGoroutine")&&decide (Mi<=fn.ntmps)
 |none=>false
theorem b3.mkD{P:bS}(hm:P.follows .mixedOrders=true){bk:List (Nat×dh)}(aE:eW P bk=true){f:FuncId}{fn:Func}(aK:P.funcs[f]? =some fn){d:iB}{dv:List ca}{n:Nat}(dM:F6 bk d dv n fn=true)
  {args:List ae} (aD:args.length<=n) {s:dJ} (lD:hV s) {Q:ae->dJ->Prop} (he:gr args->(∀j cs,look j s.b=some cs->gO cs=true->gu cs)->pe P (ev s) d (cO dv s Q) ⟨iy 0 args,s.b,s.e,0,ev s⟩):b3 P f args s Q:=by
 unfold F6 at dM;split at dM
 ·rename_i code ah;simp only[bJ,fs,sG]at dM;obtain⟨⟨⟨I,J⟩,au⟩,aP⟩:=dM;exact b3.ofW aE aK ah au J (Nat.le_trans aD aP) lD fun X mP la hex bz b0 cS=>FV hm aE hex bz d code _ _ (by rw[mP];exact I) (by rw[la];exact he b0 cS)
 ·cases dM
theorem bW.mkD{P:bS}(hm:P.follows .mixedOrders=true){bk:List (Nat×dh)}(aE:eW P bk=true){f:FuncId}{fn:Func}(aK:P.funcs[f]? =some fn){d:iB}{dv:List ca}{n:Nat}(dM:F6 bk d dv n fn=true)
  {args:List ae} (aD:args.length<=n) {r:ae} (hr:kin (fun _=>dr) r) (he:gr args->pe P [] d (cn dv r) ⟨iy 0 args,[],[],0,[]⟩):bW P f args r:=by
 refine b3.mkD hm aE aK dM aD r6 fun I _=>?_;rw[<-ON hr];exact he I
def Fj(P:bS)(ob:List aC)(d:iB)(Q:Exit->aU->Prop)(e:Exit)(st:aU):Prop:=match e with
 | .normal=>pe P ob d Q st
 |e=>Q e st
section
variable {P:bS} {ob:List aC} {st:aU} {Q:Exit->aU->Prop} {c:C} {d:iB}
@[simp]theorem alE:Fj P ob d Q .normal st=pe P ob d Q st:=rfl
@[simp]theorem alF:Fj P ob d Q .ret st=Q .ret st:=rfl
@[simp]theorem alD{n:Nat}:Fj P ob d Q (.exit n) st=Q (.exit n) st:=rfl
@[simp]theorem amT:pe P ob (.of c) Q st=cQ P ob c Q st:=rfl
@[simp]theorem amU:pe P ob (.sq c d) Q st=cQ P ob c (Fj P ob d Q) st:=by simp only[pe];congr 1
theorem aa6(st':aU)(hw:il ob st st')(aH:H7 st')(h:pe P ob d Q (vn st')):pe P ob (.sl d) Q st:=⟨st',hw,aH,h⟩
theorem Q3{s:Nat}(st':aU)(base:Nat)(hw:il ob st st')(aH:Cb st' (rk st' s) base)(h:∀ε,pe P ob d Q (ui st' s base ε)):pe P ob (.th s d) Q st:=⟨st',base,hw,aH,h⟩
end
end
section
open Go Go.RowKit
theorem FD:∀(xs ys:List ae),ct (xs++ys)=ct xs+ct ys
 |[],ys=>by simp[ct]
 |x::xs,ys=>by simp[ct,FD xs ys];omega
theorem FR:∀(b:Nat) (xs ys:List ae),ha b (xs++ys)=ha b xs++ha (b+ct xs) ys
 |b,[],ys=>by simp[ha,ct]
 |b,x::xs,ys=>by simp[ha,ct,FR _ xs ys,Nat.add_assoc]
theorem zV(ε:Nat->Nat):∀(b:Nat) (xs ys:List ae),gp ε b (xs++ys)=gp ε b xs++gp ε (b+ct xs) ys
 |b,[],ys=>by simp[gp,ct]
 |b,x::xs,ys=>by simp[gp,ct,zV ε _ xs ys,Nat.add_assoc]
mutual
theorem FL(ε:Nat->Nat):∀(p:ae) (b m:Nat),b<=m->m<b+bV p->∃o,look (.obj m) (dB ε b p)=some o
 | .slice sz t (x::xs),b,m,I,J=>by
  simp only[bV]at J;simp only[dB,look];by_cases e:b=m
  ·subst e;exact⟨_,if_pos rfl⟩
  ·rw[br (by simpa using e),nH];by_cases au:m<b+1+bV x
   ·obtain⟨o,aq⟩:=FL ε x (b+1) m Ω au;exact⟨o,by rw[aq]⟩
   ·obtain⟨o,aq⟩:=JH ε xs (b+1+bV x) m Ω Ω;cases af:look (.obj m) (dB ε (b+1) x)with
    |some y=>exact⟨y,rfl⟩
    |none=>exact⟨o,aq⟩
 | .agg cs,b,m,I,J=>by simp only[bV,dB]at J⊢;exact JH ε cs b m I J
 | .slice _ _ [],_,_,I,J=>by simp only[bV]at J;omega
 | .int _ _,_,_,I,J=>by simp only[bV]at J;omega
 | .bool _,_,_,I,J=>by simp only[bV]at J;omega
 | .str _,_,_,I,J=>by simp only[bV]at J;omega
 | .junk,_,_,I,J=>by simp only[bV]at J;omega
 | .ptr _ _,_,_,I,J=>by simp only[bV]at J;omega
 | .eptr _,_,_,I,J=>by simp only[bV]at J;omega
 | .iface _ _,_,_,I,J=>by simp only[bV]at J;omega
 | .nilp,_,_,I,J=>by simp only[bV]at J;omega
 | .tuple _,_,_,I,J=>by simp only[bV]at J;omega
 | .func _ _,_,_,I,J=>by simp only[bV]at J;omega
 | .gmap _,_,_,I,J=>by simp only[bV]at J;omega
 | .row _ _ _,_,_,I,J=>by simp only[bV]at J;omega
 | .rptr _ _ _ _ _,_,_,I,J=>by simp only[bV]at J;omega
 | .hdm _ _,_,_,I,J=>by simp only[bV]at J;omega
 | .hdi _ _ _,_,_,I,J=>by simp only[bV]at J;omega
 | .cst _,_,_,I,J=>by simp only[bV]at J;omega
theorem JH(ε:Nat->Nat):∀(bj:List ae) (b m:Nat),b<=m->m<b+ct bj->∃o,look (.obj m) (gp ε b bj)=some o
 |[],b,m,I,J=>by simp only[ct]at J;omega
 |x::xs,b,m,I,J=>by
  simp only[ct]at J;simp only[gp];rw[nH];by_cases au:m<b+bV x
  ·obtain⟨o,aq⟩:=FL ε x b m I au;exact⟨o,by rw[aq]⟩
  ·obtain⟨o,aq⟩:=JH ε xs (b+bV x) m Ω Ω;cases af:look (.obj m) (dB ε b x)with
   |some y=>exact⟨y,rfl⟩
   |none=>exact⟨o,aq⟩
end
theorem Bx{ε:Nat->Nat}{p:ae}{b m:Nat}(h:m<b\/b+bV p<=m):look (.obj m) (dB ε b p)=none:=by
 cases ab:look (.obj m) (dB ε b p)with
 |none=>rfl
 |some o=>obtain⟨m',e,fK,cR⟩:=vb ε p b _ o ab;cases e;omega
theorem Ux{ε:Nat->Nat}{p:List ae}{b m:Nat}(h:m<b\/b+ct p<=m):look (.obj m) (gp ε b p)=none:=by
 cases ab:look (.obj m) (gp ε b p)with
 |none=>rfl
 |some o=>obtain⟨m',e,fK,cR⟩:=tP ε p b _ o ab;cases e;omega
theorem age{ε:Nat->Nat}{l r:List ae}{y:ae}{b:Nat}{k:aC}{o:dn}(h:look k (dB ε (b+ct l) y)=some o):look k (gp ε b (l++y::r))=some o:=by obtain⟨m,rfl,fK,cR⟩:=vb ε y _ k o h;rw[zV,nH,Ux Ω];simp only[gp];rw[nH,h]
theorem agf{ε:Nat->Nat}{l r:List ae}{y y':ae}{b:Nat}(aH:bV y'=bV y){k:aC}{o:dn}(h:look k (gp ε b (l++y'::r))=some o):
  look k (dB ε (b+ct l) y')=some o\/(look k (dB ε (b+ct l) y)=none/\look k (dB ε (b+ct l) y')=none/\look k (gp ε b (l++y::r))=some o):=by
 obtain⟨m,rfl,fK,cR⟩:=tP ε _ _ k o h;simp only[zV,gp,nH,aH]at h⊢;by_cases I:m<b+ct l
 ·rw[Bx (p:=y) (.inl I),Bx (p:=y') (.inl I)];refine .inr ⟨rfl,rfl,?_⟩;rw[Bx (p:=y') (.inl I)]at h;exact h
 ·rw[Ux (p:=l) (.inr Ω)]at h⊢;by_cases J:m<b+ct l+bV y
  ·obtain⟨o',hK⟩:=FL ε y' (b+ct l) m Ω Ω;rw[hK]at h⊢;exact .inl h
  ·rw[Bx (p:=y) (.inr Ω),Bx (p:=y') (.inr Ω)];rw[Bx (p:=y') (.inr Ω)]at h;exact .inr ⟨rfl,rfl,h⟩
end
section
open Go Go.RowKit
section
variable (cx:Int->List aj)
mutual
def dN:ae->Int->ae×Int
 | .int dW _,k=>(.int dW k,k+1)
 | .str _,k=>(.str (cx k),k+1)
 | .slice sz t xs,k=>(.slice sz t (bo xs k).1,(bo xs k).2)
 | .agg cs,k=>(.agg (bo cs k).1,(bo cs k).2)
 |p,k=>(p,k)
def bo:List ae->Int->List ae×Int
 |[],k=>([],k)
 |x::xs,k=>((dN x k).1::(bo xs (dN x k).2).1,(bo xs (dN x k).2).2)
end
theorem mA:∀(xs:List ae) (k:Int),(bo cx xs k).1.length=xs.length
 |[],k=>by simp[bo]
 |x::xs,k=>by simp[bo,mA xs]
mutual
theorem Qz:∀(p:ae) (k:Int),bV (dN cx p k).1=bV p
 | .int _ _,k=>by simp[dN,bV]
 | .str _,k=>by simp[dN,bV]
 | .slice _ _ [],k=>by simp[dN,bo,bV]
 | .slice _ _ (x::xs),k=>by simp[dN,bo,bV,Qz x,rN xs]
 | .agg cs,k=>by simp[dN,bV,rN cs]
 | .bool _,k=>by simp[dN]
 | .junk,k=>by simp[dN]
 | .ptr _ _,k=>by simp[dN]
 | .eptr _,k=>by simp[dN]
 | .iface _ _,k=>by simp[dN]
 | .nilp,k=>by simp[dN]
 | .tuple _,k=>by simp[dN]
 | .func _ _,k=>by simp[dN]
 | .gmap _,k=>by simp[dN]
 | .row _ _ _,k=>by simp[dN]
 | .rptr _ _ _ _ _,k=>by simp[dN]
 | .hdm _ _,k=>by simp[dN]
 | .hdi _ _ _,k=>by simp[dN]
 | .cst _,k=>by simp[dN]
theorem rN:∀(bj:List ae) (k:Int),ct (bo cx bj k).1=ct bj
 |[],k=>by simp[bo]
 |x::xs,k=>by simp[bo,ct,Qz x,rN xs]
end
theorem Hj:∀(xs ys:List ae) (k:Int),bo cx (xs++ys) k=((bo cx xs k).1++(bo cx ys (bo cx xs k).2).1,(bo cx ys (bo cx xs k).2).2)
 |[],ys,k=>by simp[bo]
 |x::xs,ys,k=>by simp[bo,Hj xs ys]
mutual
theorem agr:∀(p:ae) (k:Int),k<=(dN cx p k).2
 | .int _ _,k=>by simp[dN];omega
 | .str _,k=>by simp[dN];omega
 | .slice _ _ xs,k=>by simp only[dN];exact kh xs k
 | .agg cs,k=>by simp only[dN];exact kh cs k
 | .bool _,k=>by simp[dN]
 | .junk,k=>by simp[dN]
 | .ptr _ _,k=>by simp[dN]
 | .eptr _,k=>by simp[dN]
 | .iface _ _,k=>by simp[dN]
 | .nilp,k=>by simp[dN]
 | .tuple _,k=>by simp[dN]
 | .func _ _,k=>by simp[dN]
 | .gmap _,k=>by simp[dN]
 | .row _ _ _,k=>by simp[dN]
 | .rptr _ _ _ _ _,k=>by simp[dN]
 | .hdm _ _,k=>by simp[dN]
 | .hdi _ _ _,k=>by simp[dN]
 | .cst _,k=>by simp[dN]
theorem kh:∀(bj:List ae) (k:Int),k<=(bo cx bj k).2
 |[],k=>by simp[bo]
 |x::xs,k=>by have I:=agr x k;have J:=kh xs (dN cx x k).2;simp only[bo];omega
end
end
end
section
open Go Go.RowKit
inductive iO:ae->Prop
 |mk (a b:Int) (s:List aj) (ys:List ae):(∀y∈ys,iO y)->iO (.agg [.int .i64 a,.int .i64 b,.str s,.slice 4 .no ys])
mutual
def lH:ae->Nat
 | .slice _ _ xs=>jv xs
 | .agg cs=>1+jv cs
 |_=>0
def jv:List ae->Nat
 |[]=>0
 |x::xs=>lH x+jv xs
end
theorem z8:∀{xs:List ae} {x:ae},x∈xs->lH x<=jv xs
 |y::ys,x,h=>by
  rcases gy.1 h with rfl|h
  ·simp only[jv];omega
  ·have:=z8 h;simp only[jv];omega
theorem iO.inv{p:ae}(h:iO p):∃a b s ys,p= .agg [.int .i64 a,.int .i64 b,.str s,.slice 4 .no ys]/\(∀y∈ys,iO y)/\lH p=1+jv ys:=by
 cases h with
 |mk a b s ys h=>exact⟨a,b,s,ys,rfl,h,by simp[lH,jv]⟩
theorem EP{ε:Nat->Nat}{p:ae}{b:Nat}(k:aC):(look k (dB ε b p)).isSome=true↔∃m,k= .obj m/\b<=m/\m<b+bV p:=by
 constructor
 ·intro h;obtain⟨o,aq⟩:=fv.1 h;exact vb ε p b k o aq
 ·rintro⟨m,rfl,I,J⟩;obtain⟨o,aq⟩:=FL ε p b m I J;rw[aq];rfl
def rng(b c:Nat)(k:aC):Prop:= ∃m,k= .obj m/\b<=m/\m<c
theorem B3{b c gV hY:Nat}(I:gV<=b)(J:c<=hY)(k:aC)(h:rng b c k):rng gV hY k:=by obtain⟨m,e,fK,cR⟩:=h;exact⟨m,e,Ω,Ω⟩
mutual
theorem qh:∀(p:ae) (b:Nat),cr p->kin (rng b (b+bV p)) (eB b p)
 | .slice sz t [],b,h=>by simp[eB,kin,kinL]
 | .slice sz t (x::xs),b,h=>by simp only[eB,kin,bV];exact⟨b,rfl,Ω,Ω⟩
 | .agg cs,b,h=>by simp only[eB,kin,bV,cr]at h⊢;exact LJ cs b h
 | .int _ _,_,_=>by simp[eB,kin]
 | .bool _,_,_=>by simp[eB,kin]
 | .str _,_,_=>by simp[eB,kin]
 | .junk,_,h=>by simp[cr]at h
 | .ptr _ _,_,h=>by simp[cr]at h
 | .eptr _,_,h=>by simp[cr]at h
 | .iface _ _,_,h=>by simp[cr]at h
 | .nilp,_,h=>by simp[cr]at h
 | .tuple _,_,h=>by simp[cr]at h
 | .func _ _,_,h=>by simp[cr]at h
 | .gmap _,_,h=>by simp[cr]at h
 | .row _ _ _,_,h=>by simp[cr]at h
 | .rptr _ _ _ _ _,_,h=>by simp[cr]at h
 | .hdm _ _,_,h=>by simp[cr]at h
 | .hdi _ _ _,_,h=>by simp[cr]at h
 | .cst _,_,h=>by simp[cr]at h
theorem LJ:∀(bj:List ae) (b:Nat),dtL bj->kinL (rng b (b+ct bj)) (ha b bj)
 |[],b,h=>by simp[ha,kinL]
 |x::xs,b,h=>by simp only[dtL]at h;simp only[ha,kinL,ct];exact⟨oQ (B3 Ω Ω) _ (qh x b h.1),oP (B3 Ω Ω) _ (LJ xs _ h.2)⟩
end
theorem D9{S T:aC->Prop}(h:∀k,S k->T k){o:dn}(ab:cw S o):cw T o:=fun xs af=>oP h _ (ab xs af)
mutual
theorem LP{ε:Nat->Nat}:∀(p:ae) (b:Nat),cr p->∀k o,look k (dB ε b p)=some o->cw (rng b (b+bV p)) o
 | .slice sz t (x::xs),b,h,k,o,ab=>by
  simp only[cr]at h;simp only[dB,look]at ab;simp only[bV];split at ab
  ·cases ab;intro ys bG;cases bG;have:=LJ (x::xs) (b+1) h.2;simp only[ct,ha]at this;exact oP (B3 Ω Ω) _ this
  ·have:=LO (ε:=ε) (x::xs) (b+1) h.2 k o (by simpa only[gp]using ab);simp only[ct]at this;exact D9 (B3 Ω Ω) this
 | .agg cs,b,h,k,o,ab=>by simp only[dB,bV,cr]at h ab⊢;exact LO cs b h k o ab
 | .slice _ _ [],_,_,_,_,h=>by simp[dB,look]at h
 | .int _ _,_,_,_,_,h=>by simp[dB,look]at h
 | .bool _,_,_,_,_,h=>by simp[dB,look]at h
 | .str _,_,_,_,_,h=>by simp[dB,look]at h
 | .junk,_,h,_,_,_=>by simp[cr]at h
 | .ptr _ _,_,h,_,_,_=>by simp[cr]at h
 | .eptr _,_,h,_,_,_=>by simp[cr]at h
 | .iface _ _,_,h,_,_,_=>by simp[cr]at h
 | .nilp,_,h,_,_,_=>by simp[cr]at h
 | .tuple _,_,h,_,_,_=>by simp[cr]at h
 | .func _ _,_,h,_,_,_=>by simp[cr]at h
 | .gmap _,_,h,_,_,_=>by simp[cr]at h
 | .row _ _ _,_,h,_,_,_=>by simp[cr]at h
 | .rptr _ _ _ _ _,_,h,_,_,_=>by simp[cr]at h
 | .hdm _ _,_,h,_,_,_=>by simp[cr]at h
 | .hdi _ _ _,_,h,_,_,_=>by simp[cr]at h
 | .cst _,_,h,_,_,_=>by simp[cr]at h
theorem LO{ε:Nat->Nat}:∀(bj:List ae) (b:Nat),dtL bj->∀k o,look k (gp ε b bj)=some o->cw (rng b (b+ct bj)) o
 |[],b,h,k,o,ab=>by simp[gp,look]at ab
 |x::xs,b,h,k,o,ab=>by
  simp only[dtL]at h;simp only[gp,nH]at ab;simp only[ct];cases I:look k (dB ε b x)with
  |some y=>rw[I]at ab;cases ab;exact D9 (B3 Ω Ω) (LP x b h.1 k _ I)
  |none=>rw[I]at ab;exact D9 (B3 Ω Ω) (LO xs _ h.2 k _ ab)
end
abbrev en(ε:Nat->Nat)(b:Nat)(p:ae):dJ:=⟨[],dB ε b p⟩
theorem CD{ε:Nat->Nat}{b:Nat}{p:ae}(k:aC):ak (en ε b p) k↔rng b (b+bV p) k:=by unfold ak rng;rw[EP];simp[look]
theorem OQ(ε:Nat->Nat)(b:Nat)(p:ae):hV (en ε b p):=by
 refine⟨fun m=>by simp[look],fun m=>?_⟩;cases h:look (.loc m) (dB ε b p)with
 |none=>rfl
 |some o=>obtain⟨m',e,_⟩:=vb ε p b _ o h;cases e
theorem o3{ε:Nat->Nat}{b:Nat}{p:ae}(h:cr p):hn (en ε b p):=⟨OQ ε b p,fun k cs ab=>by simp[look]at ab,fun k o ab=>D9 (fun k ab=>(CD k).2 ab) (LP p b h k o ab)⟩
theorem rH{ε:Nat->Nat}{b:Nat}{p q:ae}(h:bV q=bV p):Same (en ε b p) (en ε b q):=⟨fun k=>rfl,fun k=>by rw[Bool.eq_iff_iff,EP,EP,h]⟩
theorem OP{ε:Nat->Nat}{b:Nat}{p:ae}(h:cr p):kin (ak (en ε b p)) (eB b p):=oQ (fun k ab=>(CD k).2 ab) _ (qh p b h)
theorem YJ{ε:Nat->Nat}{b:Nat}{p:ae}{k:aC}:k∈ev (en ε b p)↔rng b (b+bV p) k:=by rw[<-CD (ε:=ε)];exact⟨Tv,fun h=>wO h⟩
theorem CallDo.sub{P:bS}{n:Nat}{args:List ae}{st:aU}{d:aW Nat}{K:aU->Prop}{ε:Nat->Nat}{b:Nat}{l r:List ae}{y y' rh:ae}(bG:cr y)(aH:bV y'=bV y)
  (aK:b3 P n args (en ε (b+ct l) y) fun cZ al=>cZ=rh/\al=en ε (b+ct l) y')
  (he:∀k o,look k (gp ε b (l++y::r))=some o->look k st.e=some o) (ab:kinL (rng (b+ct l) (b+ct l+bV y)) args)
  (h:∀hg,(∀k o,look k (gp ε b (l++y'::r))=some o->look k hg=some o)->(∀k,¬rng (b+ct l) (b+ct l+bV y) k->look k hg=look k st.e)->K ⟨fE d rh st.t,st.b,hg,st.n,st.o++ev (en ε (b+ct l) y')⟩):CallDo P n args st d K:=by
 refine CallDo.ob aK (o3 bG) (fun k cs ab=>by simp[look]at ab) (fun k o ab=>he k o (age ab)) (oP (fun k ab=>(CD k).2 ab) _ ab) ?_;rintro cZ al ⟨rfl,rfl⟩;refine⟨rH aH,?_⟩;simp only[Cl,List.append_nil];refine h _ (fun k o ab=>?_) fun k ab=>?_
 ·rw[nH,r2];rcases agf aH ab with I|⟨I,J,au⟩
  ·have:(look k (dB ε (b+ct l) y)).isSome=true:=by have:=EP (ε:=ε) (p:=y') (b:=b+ct l) k;rw[EP,<-aH,<-this,I];rfl
   rw[this];simp[I]
  ·rw[I];simp[he k o au]
 ·have I:look k (dB ε (b+ct l) y)=none:=by
   cases bR:look k (dB ε (b+ct l) y)with
   |none=>rfl
   |some o=>exact absurd (vb ε y _ k o bR) ab
  have J:look k (dB ε (b+ct l) y')=none:=by
   cases bR:look k (dB ε (b+ct l) y')with
   |none=>rfl
   |some o=>obtain⟨m,e,fK,cR⟩:=vb ε y' _ k o bR;exact absurd ⟨m,e,fK,Ω⟩ ab
  rw[nH,r2,I,J];simp;cases look k st.e<;>rfl
theorem iD.val{P:bS}{f:FuncId}{args:List ae}{r:Nat->ae}(h:iD P f args r)(ab:kin (fun _=>dr) (bD (r 0)):=by simp[bD,kin,kinL]):bW P f args (bD (r 0)):=by
 intro w ν vs gl I J au;have hm:∀(e:Ending) (w':World),(∃v cZ al ν',e= .returned v/\(cZ=r 0/\al=⟨[],[]⟩)/\aJ w' ν' cZ v/\Good (fun bl=>fY ν ⟨[],[]⟩ bl\/w.heap.size<=bl) w' ν' al.b al.e/\AP (some 0) ν' al/\hV al/\ox ⟨w,ν,fY ν ⟨[],[]⟩,0,ev ⟨[],[]⟩,gl,[]⟩ w' ν')->
   (∃v cZ al ν',e= .returned v/\(cZ=bD (r 0)/\al=⟨[],[]⟩)/\aJ w' ν' cZ v/\Good (fun bl=>fY ν ⟨[],[]⟩ bl\/w.heap.size<=bl) w' ν' al.b al.e/\qR ν' al/\hV al/\ox ⟨w,ν,fY ν ⟨[],[]⟩,0,ev ⟨[],[]⟩,gl,[]⟩ w' ν'):=by
  rintro e w' ⟨v,cZ,al,ν',bH,⟨rfl,rfl⟩,a3,a4,a5,Fk,o5⟩;have hi:∀k,ν.bx k=none:=fun k=>(J k).1 rfl;have gd:∀k,ν.ow k=none:=fun k=>(J k).2.1 rfl;refine⟨v,_,⟨[],[]⟩,ν'.cut fun _=>dr,bH,⟨rfl,rfl⟩,sb (nR.cut _ w' ν') _ _ ab (yn _ v a3),a4.cut (fun k cs bR=>by simp[look]at bR) (fun k o bR=>by simp[look]at bR) (fun bl aV _=>aV),fun k=>?_,r6,
   ⟨o5.os,o5.tape,o5.output,o5.size,o5.block,o5.keep,o5.fresh,fun n b ah=>?_,o5.obn,fun m n u hm=>?_,o5.obr,fun k j bn eQ b b0 _=>b0.1.elim,fun k j b ah=>ah.1.elim,fun k j b ah=>ah.1.elim,o5.sh,fun j n u b ao aL=>o5.nrow j n u b (aQ.cut_someO ao).2 aL⟩⟩
  ·obtain⟨b0,cS,dT⟩:=aQ.cut_no (ν:=ν') (S:=fun _=>dr) (k:=k) (fun h=>h);exact⟨fun _=>b0,fun _=>cS,dT⟩
  ·rw[hi]at ah;cases ah
  ·rw[gd]at hm;cases hm
 rcases h 0 w ν vs gl I J au with⟨xP,aH⟩|⟨v,w',aH,hr⟩
 ·exact .inl ⟨xP,aH.mono hm⟩
 ·exact .inr ⟨v,w',aH,hm _ _ hr⟩
def dq{α:Type}(f:α->Nat->ae)(l:List (α×Nat)):List ae:=l.map fun p=>f p.1 p.2
@[simp]theorem ao0{α:Type}(f:α->Nat->ae):dq f []=[]:=rfl
@[simp]theorem aoZ{α:Type}(f:α->Nat->ae)(l:List (α×Nat)):(dq f l).length=l.length:=by simp[dq]
@[simp]theorem Hp{α:Type}(f:α->Nat->ae)(l:List (α×Nat))(x:α)(n:Nat):dq f (l++[(x,n)])=dq f l++[f x n]:=by simp[dq]
theorem pE(n:Nat):aC.loc n≠cY:=fun e=>by unfold cY at e;cases e
structure ko {α:Type} (n:Nat) (l:List (α×Nat)):Prop where
 nd:(l.map (·.2)).Nodup
 lt:∀p∈l,p.2<n
theorem ko.nil{α:Type}(n:Nat):ko n ([]:List (α×Nat)):=⟨Ψ,Ψ⟩
theorem ko.mono{α:Type}{n m:Nat}{l:List (α×Nat)}(h:ko n l)(hm:n<=m):ko m l:=⟨h.nd,fun p aV=>by have:=h.lt p aV;omega⟩
theorem ko.snoc{α:Type}{n m n':Nat}{l:List (α×Nat)}(h:ko n l)(x:α)(I:n<=m)(J:m<n'):ko n' (l++[(x,m)]):=by
 refine⟨?_,fun p aV=>?_⟩
 ·rw[List.map_append,qC];refine⟨h.nd,Ψ,fun a bL b ah e=>?_⟩;simp at ah;subst ah;obtain⟨p,aV,rfl⟩:=nj.1 bL;have:=h.lt p aV;omega
 ·rcases hl.1 aV with aV|aV
  ·have:=h.lt p aV;omega
  ·simp at aV;subst aV;exact J
structure o0 {α:Type} (f:α->Nat->ae) (g:α->ae):Prop where
 tn:∀x n,tn (f x n)=[(.loc n,0)]
 ok:∀x n,dO (f x n)
 st:∀x n,bD (f x n)=g x
 ki:∀(S:aC->Prop) x n,S (.loc n)->kin S (f x n)
theorem o0.tnL{α:Type}{f:α->Nat->ae}{g:α->ae}(h:o0 f g):∀(l:List (α×Nat)),Pv.tnL (dq f l)=(l.map (·.2)).map fun m=>(aC.loc m,0)
 |[]=>by simp[dq,Pv.tnL]
 |x::l=>by have:=h.tnL l;unfold dq at this;simp[dq,Pv.tnL,h.tn,this]
theorem o0.nodup{α:Type}{f:α->Nat->ae}{g:α->ae}(h:o0 f g){n:Nat}{l:List (α×Nat)}(aD:ko n l):(Pv.tnL (dq f l)).Nodup:=by rw[h.tnL];refine alB _ (fun a b pn e=>pn ?_) aD.nd;simpa using e
theorem o0.okL{α:Type}{f:α->Nat->ae}{g:α->ae}(h:o0 f g):∀(l:List (α×Nat)),ed (dq f l)
 |[]=>by simp[dq,ed]
 |x::l=>by have:=h.okL l;unfold dq at this;simp[dq,ed,h.ok,this]
theorem o0.stL{α:Type}{f:α->Nat->ae}{g:α->ae}(h:o0 f g):∀(l:List (α×Nat)),bC (dq f l)=(l.map (·.1)).map g
 |[]=>by simp[dq,bC]
 |x::l=>by have:=h.stL l;unfold dq at this;simp[dq,bC,h.st,this]
theorem o0.kiL{α:Type}{f:α->Nat->ae}{g:α->ae}(h:o0 f g){S:aC->Prop}:∀(l:List (α×Nat)),(∀p∈l,S (.loc p.2))->kinL S (dq f l)
 |[],_=>by simp[dq,kinL]
 |x::l,ho=>by have:=h.kiL l fun p aV=>ho p (by simp[aV]);unfold dq at this;simp only[dq,fF,kinL];exact⟨h.ki S x.1 x.2 (ho x Ψ),this⟩
theorem o0.kin{α:Type}{f:α->Nat->ae}{g:α->ae}(h:o0 f g){n m:Nat}{l:List (α×Nat)}(aD:ko n l)(hm:n<=m)(o:List aC):kinL (fun k=> ¬fresh m o k) (dq f l)=True:=eq_true (h.kiL l fun p aV aK=>by have I:=aD.lt p aV;have J:m<=p.2:=aK.1;omega)
theorem JK:∀(a b:List ae),dtL (a++b)↔dtL a/\dtL b
 |[],b=>by simp[dtL]
 |x::a,b=>by simp[dtL,JK a b,and_assoc]
mutual
theorem JM(cx:Int->List aj):∀(p:ae) (k:Int),cr p->cr (dN cx p k).1
 | .int _ _,_,_=>by simp[dN,cr]
 | .bool _,_,_=>by simp[dN,cr]
 | .str _,_,_=>by simp[dN,cr]
 | .slice sz _ xs,k,h=>by simp only[dN,cr]at h⊢;exact⟨h.1,pc cx xs k h.2⟩
 | .agg cs,k,h=>by simp only[dN,cr]at h⊢;exact pc cx cs k h
 | .junk,_,h=>by simp[cr]at h
 | .ptr _ _,_,h=>by simp[cr]at h
 | .eptr _,_,h=>by simp[cr]at h
 | .iface _ _,_,h=>by simp[cr]at h
 | .nilp,_,h=>by simp[cr]at h
 | .tuple _,_,h=>by simp[cr]at h
 | .func _ _,_,h=>by simp[cr]at h
 | .gmap _,_,h=>by simp[cr]at h
 | .row _ _ _,_,h=>by simp[cr]at h
 | .rptr _ _ _ _ _,_,h=>by simp[cr]at h
 | .hdm _ _,_,h=>by simp[cr]at h
 | .hdi _ _ _,_,h=>by simp[cr]at h
 | .cst _,_,h=>by simp[cr]at h
theorem pc(cx:Int->List aj):∀(bj:List ae) (k:Int),dtL bj->dtL (bo cx bj k).1
 |[],k,h=>by simp[bo,dtL]
 |x::xs,k,h=>by simp only[bo,dtL]at h⊢;exact⟨JM cx x k h.1,pc cx xs _ h.2⟩
end
theorem pI{ε:Nat->Nat}{b sz:Nat}{t:iY}:∀{xs:List ae},xs≠[]->dB ε b (.slice sz t xs)=(.obj b,⟨xs.length,ε b,sz,some (ha (b+1) xs)⟩)::gp ε (b+1) xs
 |[],h=>absurd rfl h
 |_::_,_=>rfl
theorem AI{b sz:Nat}{t:iY}:∀{xs:List ae},xs≠[]->eB b (.slice sz t xs)= .row sz (.obj b) xs.length
 |[],h=>absurd rfl h
 |_::_,_=>rfl
theorem AJ{b sz:Nat}{t:iY}:∀{xs ys:List ae},xs.length=ys.length->eB b (.slice sz t xs)=eB b (.slice sz t ys)
 |[],[],_=>rfl
 |[],_::_,h=>by simp at h
 |_::_,[],h=>by simp at h
 |_::xs,_::ys,h=>by simp only[eB];simp at h;rw[h]
theorem AH{b:Nat}{l r:List ae}{x:ae}{i:Nat}(aw:l.length=i):(ha b (l++x::r))[i]? =some (eB (b+ct l) x):=by subst aw;rw[FR,List.getElem?_append_right (by rw[rQ];exact cc _)];simp[rQ,ha]
theorem JP{b:Nat}{l r:List ae}{x qz:ae}{i:Nat}(aw:l.length=i)(aH:bV qz=bV x):(ha b (l++x::r)).set i (eB (b+ct l) qz)=ha b (l++qz::r):=by subst aw;rw[FR,FR,List.set_append_right _ _ (by rw[rQ];exact cc _)];simp[rQ,ha,aH]
theorem UN(cx:Int->List aj)(l:List ae)(x:ae)(k:Int):bo cx (l++[x]) k=((bo cx l k).1++[(dN cx x (bo cx l k).2).1],(dN cx x (bo cx l k).2).2):=by rw[Hj];simp[bo]
theorem BA(cx:Int->List aj)(l:List ae)(k:Int)(i:Nat):(bo cx (l.take i) k).2<=(bo cx l k).2:=by have h:=Hj cx (l.take i) (l.drop i) k;rw[ry]at h;rw[h];exact kh cx _ _
def kS(cx:Int->List aj)(l:List ae)(k:Int)(i:Nat):List ae:=(bo cx (l.take i) k).1++l.drop i
theorem Mc(cx:Int->List aj)(l:List ae)(k:Int):kS cx l k 0=l:=by simp[kS,bo]
theorem wJ(cx:Int->List aj)(l:List ae)(k:Int):kS cx l k l.length=(bo cx l k).1:=by simp[kS]
theorem q7(cx:Int->List aj)(l:List ae)(k:Int)(i:Nat):(kS cx l k i).length=l.length:=by simp[kS,mA];omega
theorem L9(cx:Int->List aj)(l:List ae)(k:Int)(i:Nat):ct (kS cx l k i)=ct l:=by unfold kS;rw[FD,rN,<-FD,ry]
theorem Ma(cx:Int->List aj){l:List ae}(k:Int)(i:Nat)(h:dtL l):dtL (kS cx l k i):=by rw[<-ry i l,JK]at h;unfold kS;rw[JK];exact⟨pc cx _ _ h.1,h.2⟩
theorem L8(cx:Int->List aj){l:List ae}(k:Int){i:Nat}{x:ae}(h:l[i]? =some x):kS cx l k i=(bo cx (l.take i) k).1++x::l.drop (i+1):=by unfold kS;congr 1;obtain⟨aw,e⟩:=fo.1 h;rw[pR aw,e]
theorem Mb(cx:Int->List aj){l:List ae}(k:Int){i:Nat}{x:ae}(h:l[i]? =some x):kS cx l k (i+1)=(bo cx (l.take i) k).1++(dN cx x (bo cx (l.take i) k).2).1::l.drop (i+1):=by
 unfold kS;have:l.take (i+1)=l.take i++[x]:=by rw[k3,h];rfl
 rw[this,UN];simp
theorem Mf(cx:Int->List aj){l:List ae}(k:Int){i:Nat}{x:ae}(h:l[i]? =some x):(bo cx l k).1=(bo cx (l.take i) k).1++(dN cx x (bo cx (l.take i) k).2).1::(bo cx (l.drop (i+1)) (dN cx x (bo cx (l.take i) k).2).2).1:=by
 obtain⟨aw,e⟩:=fo.1 h;have I:l=l.take i++x::l.drop (i+1):=by rw[<-e,<-pR aw,ry]
 have J:=Hj cx (l.take i) (x::l.drop (i+1)) k;rw[<-I]at J;rw[J];simp only[bo]
theorem Bz(cx:Int->List aj){l:List ae}(k:Int){i:Nat}{x:ae}(h:l[i]? =some x):(bo cx (l.take (i+1)) k).2=(dN cx x (bo cx (l.take i) k).2).2:=by
 have:l.take (i+1)=l.take i++[x]:=by rw[k3,h];rfl
 rw[this,UN]
theorem Ed(cx:Int->List aj):∀{xs:List ae} (k:Int),(∀x∈xs,∃dW a cs,x= .agg (.int dW a::cs))->k+xs.length<=(bo cx xs k).2
 |[],k,_=>by simp[bo]
 |x::xs,k,h=>by
  obtain⟨dW,a,cs,rfl⟩:=h x Ψ;have I:=Ed cx (xs:=xs) (dN cx (.agg (.int dW a::cs)) k).2 fun y bG=>h y (by simp[bG]);have J:k+1<=(dN cx (.agg (.int dW a::cs)) k).2:=by simp only[dN,bo];exact kh cx cs (k+1)
  simp only[bo,gg];omega
theorem FN:∀{l:List ae},dtL l↔∀x∈l,cr x
 |[]=>by simp[dtL]
 |x::l=>by simp[dtL,FN (l:=l)]
theorem rM{sz:Nat}{t:iY}:∀{xs ys:List ae},xs.length=ys.length->ct xs=ct ys->bV (.slice sz t xs)=bV (.slice sz t ys)
 |[],[],_,_=>rfl
 |[],_::_,h,_=>by simp at h
 |_::_,[],h,_=>by simp at h
 |_::_,_::_,_,h=>by simp only[bV,ct]at h⊢;omega
@[simp]theorem vp{b sz:Nat}{t:iY}:∀{xs:List ae},bD (eB b (.slice sz t xs))=eB b (.slice sz t xs)
 |[]=>rfl
 |_::_=>rfl
@[simp]theorem ao2{ε:Nat->Nat}{b m:Nat}{p:ae}(x:dn):((aC.loc m,x)∈dB ε b p)=dr:=eq_false fun h=>by have:=x8 h;rw[(OQ ε b p).2 m]at this;cases this
theorem il.to{ε:Nat->Nat}{b:Nat}{p iv:ae}{st:aU}{t':List (Nat×ae)}(aI:cr p)(aH:bV p=bV iv)(aE:∀x∈t',get x.1 st.t=x.2/\kin (rng b (b+bV iv)) x.2)(he:∀k o,look k (dB ε b p)=some o->look k st.e=some o):
  il (ev (en ε b iv)) st ⟨t',[],dB ε b p,0,ev (en ε b iv)⟩:=by
 have ho:∀k,rng b (b+bV iv) k->¬fresh 0 (ev (en ε b iv)) k:=fun k ab aK=>aK.2 (YJ.2 ab);refine⟨fun x af=>⟨(aE x af).1,oQ ho _ (aE x af).2⟩,fun k cs ab=>by simp[look]at ab,fun k o ab=>⟨he k o ab,ho k ?_,D9 ho ?_⟩,fun m hm=>hm⟩
 ·rw[<-aH];exact vb ε p b k o ab
 ·rw[<-aH];exact LP p b aI k o ab
end
end Go.Pv
namespace Go.Proofs.YtlnndmgfngfeiaaGreatDoor
section
open Go Go.Pv
def Po:C:=(ag [fm 1 0,bK 2 false] (ag [bO 3 4 1,lq 4 150 [.t 3,(de 5000)],a7 5 .gtr 4 0,aa 2 5] .ret))
@[simp] def VQ:List ca:=[.tmp 2]
def Fu:C:=(ag [fm 2 0] (.seq (ag [a6 4 0 1 2,a8 5 1 4,a7 6 .eql 5 1] (bb 6 (.region [aa 7 1,a6 8 1 1 2,a8 9 1 8,Yp 10 7 [.t 9]]) .skip)) (ag [a6 11 0 1 2,a8 12 1 11,a7 13 .eql 12 4] (bb 13 (ag [a6 14 3 1 2,a8 15 1 14,ma 16 4 15 0,bO 17 4 16,aa 18 1,eb 19 79 17 18] (.region [a6 20 3 1 2,a8 21 1 20,ma 22 4 21 1,bO 23 4 22,aa 24 1,eb 25 79 23 24])) .skip))))
@[simp] def HI:List ca:=[]
def P8:C:=(ag [fm 2 0,fm 3 1,hv 4 dd] (ag [bO 5 4 2,bO 6 4 3,gU 7 4 40 [.t 5,.t 6],lJ 8 dd [(0,1,(de 4)),(3,1,(.t 7))],bF 4 4 8] .ret))
@[simp] def Wg:List ca:=[.cell 4 true 4]
def Px:C:=(ag [fm 2 0,bU 4 0] (.seq (ag [aa 7 1,a7 8 .lss 7 1] (bb 8 (ag [bU 4 (-1)] .ret) .skip)) (.seq (ag [a6 9 0 1 2,a8 10 1 9,a7 11 .neq 10 4] (bb 11 (.seq (ag [a6 12 3 1 2,a8 13 1 12,cT 14 13,a7 15 .neq 14 0] (bb 15 (ag [bU 4 (-1)] .ret) .skip)) (.seq (ag [a6 16 0 1 2,a8 17 1 16] (.block 0 (ag [a7 19 .eql 17 0,aa 18 19] (bb 18 (ag [a6 20 1 1 2,a8 21 1 20,a7 22 .neq 21 0,aa 23 22,aO 23 false (a6 24 2 1 2),aO 23 false (a8 25 1 24),mI 23 false 26 (.bin .neq false (.t 25) (.c (.str []))),dA 27 23 26] (bb 27 (ag [bU 4 (-1)] .ret) .skip)) (ag [a7 29 .eql 17 1,aa 28 29] (bb 28 (ag [a6 30 1 1 2,a8 31 1 30,a7 32 .lss 31 0,aa 33 32,aO 33 false (a6 34 1 1 2),aO 33 false (a8 35 1 34),aO 33 false (a7 36 .gtr 35 100000),dA 37 33 36,aa 38 37,aO 38 false (a6 39 2 1 2),aO 38 false (a8 40 1 39),mI 38 false 41 (.bin .neq false (.t 40) (.c (.str []))),dA 42 38 41] (bb 42 (ag [bU 4 (-1)] .ret) .skip)) (ag [a7 44 .eql 17 2,aa 43 44] (bb 43 (ag [a6 45 1 1 2,a8 46 1 45,a7 47 .neq 46 0,aa 48 47,aO 48 false (a6 49 2 1 2),aO 48 false (a8 50 1 49),aO 48 false (cl 51 170 50),aO 48 false (dK 52 51),dA 53 48 52] (bb 53 (ag [bU 4 (-1)] .ret) .skip)) (ag [a7 55 .eql 17 3,aa 54 55] (bb 54 (ag [a6 56 1 1 2,a8 57 1 56,a7 58 .lss 57 (-1000000000),aa 59 58,aO 59 false (a6 60 1 1 2),aO 59 false (a8 61 1 60),aO 59 false (a7 62 .gtr 61 1000000000),dA 63 59 62,aa 64 63,aO 64 false (a6 65 2 1 2),aO 64 false (a8 66 1 65),mI 64 false 67 (.bin .neq false (.t 66) (.c (.str []))),dA 68 64 67] (bb 68 (ag [bU 4 (-1)] .ret) .skip)) (ag [bU 4 (-1)] .ret))))))))))) (ag [bU 4 1] .ret))) .skip)) (.seq (ag [a6 69 1 1 2,a8 70 1 69,a7 71 .neq 70 0,aa 72 71,aO 72 false (a6 73 2 1 2),aO 72 false (a8 74 1 73),mI 72 false 75 (.bin .neq false (.t 74) (.c (.str []))),dA 76 72 75,aa 77 76,aO 77 false (a6 78 3 1 2),aO 77 false (a8 79 1 78),aO 77 false (cT 80 79),aO 77 false (a7 81 .neq 80 2),dA 82 77 81] (bb 82 (ag [bU 4 (-1)] .ret) .skip)) (ag [a6 83 3 1 2,a8 84 1 83,ma 85 4 84 0,bO 86 4 85,aa 87 1,a7 88 .sub 87 1,eb 89 150 86 88,aa 5 89] (.seq (ag [aa 90 5,a7 91 .lss 90 0] (bb 91 (ag [bU 4 (-1)] .ret) .skip)) (ag [a6 92 3 1 2,a8 93 1 92,ma 94 4 93 1,bO 95 4 94,aa 96 1,a7 97 .sub 96 1,aa 98 5,cj 99 .sub 97 98,eb 100 150 95 99,aa 6 100] (.seq (ag [aa 101 6,a7 102 .lss 101 0] (bb 102 (ag [bU 4 (-1)] .ret) .skip)) (ag [aa 103 5,bh 104 (.bin .add false (de 1) (.t 103)),aa 105 6,cj 106 .add 104 105,aa 4 106] .ret)))))))))
@[simp] def HJ:List ca:=[.tmp 4]
def PA:C:=(ag [ng 2 1] (ag [c7 (.bslm 5 (some 306) 1 3 []),aa 3 5] (.seq (ag [aa 6 0,c7 (.range 7 none (.t 6))] (.block 0 (.loop (ag [⟨none,.next 8 (.t 7)⟩,dZ 9 0 8] (.seq (bb 9 .skip (.exit 0)) (.block 1 (ag [bh 10 (.ment (.t 7)),dZ 11 0 10,aa 4 11] (.region [aa 12 3,aa 13 4,gU 14 1 3 [.t 13],c7 (.appm 15 none 1 3 (.t 12) (.t 14)),aa 3 15])))))))) (ag [aa 16 3,cl 17 213 16] (.seq (.pub 3 (.region [aa 18 3,aa 2 18])) .ret)))))
@[simp] def VW:List ca:=[.tmp 2]
def Pm:C:=(ag [bK 2 false] (.seq (ag [aa 4 0,bh 5 (.slen (.t 4)),a7 6 .lss 5 1,aa 7 6,b4 7 false 8 0,aO 7 false (bh 9 (.slen (.t 8))),aO 7 false (a7 10 .gtr 9 12),dA 11 7 10,aa 12 11,b4 12 false 13 0,aO 12 false (bh 14 (.sidx (.t 13) (de 0))),aO 12 false (bh 15 (.bin .lss false (.t 14) (.c (.int .u8 97)))),dA 16 12 15,aa 17 16,b4 17 false 18 0,aO 17 false (bh 19 (.sidx (.t 18) (de 0))),aO 17 false (bh 20 (.bin .gtr false (.t 19) (.c (.int .u8 122)))),dA 21 17 20] (bb 21 (ag [bK 2 false] .ret) .skip)) (.seq (ag [bU 3 1] (.block 0 (.loop (.seq (ag [aa 22 3,aa 23 0,bh 24 (.slen (.t 23)),cj 25 .lss 22 24] (bb 25 .skip (.exit 0))) (.seq (.block 1 (ag [aa 28 0,aa 29 3,bh 30 (.sidx (.t 28) (.t 29)),bh 31 (.bin .geq false (.t 30) (.c (.int .u8 97))),aa 32 31,b4 32 true 33 0,b4 32 true 34 3,aO 32 true (bh 35 (.sidx (.t 33) (.t 34))),aO 32 true (bh 36 (.bin .leq false (.t 35) (.c (.int .u8 122)))),fx 37 32 36,aa 38 37,b4 38 false 39 0,b4 38 false 40 3,aO 38 false (bh 41 (.sidx (.t 39) (.t 40))),aO 38 false (bh 42 (.bin .geq false (.t 41) (.c (.int .u8 48)))),b4 38 false 43 42,b4 43 true 44 0,b4 43 true 45 3,aO 43 true (bh 46 (.sidx (.t 44) (.t 45))),aO 43 true (bh 47 (.bin .leq false (.t 46) (.c (.int .u8 57)))),aO 38 false (fx 48 43 47),dA 49 38 48,aa 50 49,b4 50 false 51 0,b4 50 false 52 3,aO 50 false (bh 53 (.sidx (.t 51) (.t 52))),aO 50 false (bh 54 (.bin .eql false (.t 53) (.c (.int .u8 45)))),dA 55 50 54,dK 56 55] (bb 56 (ag [bK 2 false] .ret) .skip))) (.region [aa 26 3,a7 27 .add 26 1,aa 3 27])))))) (ag [bK 2 true] .ret))))
@[simp] def HH:List ca:=[.tmp 2]
def PC:C:=(ag [bK 2 false] (.seq (ag [aa 5 0,cT 6 5,bU 7 0] (k0 8 7 6 (.seq (.block 1 (ag [cP 9 4 5 7,bO 10 4 9,hv 4 dd,bF 4 4 10] (ag [bO 11 4 4,cl 12 77 11,dK 13 12] (bb 13 (ag [bK 2 false] .ret) .skip)))) (.region [a7 14 .add 7 1,aa 7 14])))) (ag [bK 2 true] .ret)))
@[simp] def ais:List ca:=[.tmp 2]
def CM:C:=(ag [fm 2 0,fm 3 1,hv 4 dd] (ag [bO 5 4 2,bO 6 4 3,gU 7 4 40 [.t 5,.t 6],lJ 8 dd [(0,1,(de 4)),(3,1,(.t 7))],bF 4 4 8] .ret))
@[simp] def VV:List ca:=[.cell 4 true 4]
def bk:List (Nat×dh):=[
 (3,⟨1,8,.int .i64,.int .i64 0⟩),
 (9,⟨1,16,.str,.str []⟩),
 (36,⟨1,24,.slice 120,.slice 5 .nil []⟩),
 (38,⟨1,24,.slice 40,.slice 4 .nil []⟩),
 (40,⟨4,56,.struct [(0,3),(1,3),(2,9),(3,38)],.agg [.int .i64 0,.int .i64 0,.str [],.slice 4 .nil []]⟩),
 (120,⟨5,64,.struct [(0,3),(1,40)],.agg [.int .i64 0,.int .i64 0,.int .i64 0,.str [],.slice 4 .nil []]⟩),
 (136,⟨1,24,.slice 3,.slice 1 .nil []⟩),
 (189,⟨1,8,.other,.junk⟩),
 (199,⟨1,8,.map 3 4,.junk⟩),
 (209,⟨1,8,.int .u64,.int .u64 0⟩)]
theorem mixed:aF.follows .mixedOrders=true:=by kernel_rfl
theorem bI{bk:List (Nat×dh)}(aE:eW aF bk=true){f:FuncId}{fn:Func}(aK:aF.funcs[f]? =some fn){c:C}{dv:List ca}{n:Nat}(dM:cJ bk c dv n fn=true){args:List ae}{r:ae}(he:gr args->cQ aF [] c (cn dv r) ⟨iy 0 args,[],[],0,[]⟩)(aD:args.length<=n:=by simp)(hr:kin (fun _=>dr) r:=by simp[kin]):bW aF f args r:=bW.mk mixed aE aK dM aD hr he
theorem rn:eW aF bk=true:=by kernel_rfl
theorem ag9:cJ bk Po VQ 1 Tryz.f77=true:=by kernel_rfl
theorem abw:aF.funcs[(77:Nat)]? =some Tryz.f77:=Tryz.func77
theorem MA:cJ bk Fu HI 2 Tryz.f79=true:=by kernel_rfl
theorem J3:aF.funcs[(79:Nat)]? =some Tryz.f79:=Tryz.func79
theorem ahR:cJ bk P8 Wg 2 Tryz.f141=true:=by kernel_rfl
theorem acf:aF.funcs[(141:Nat)]? =some Tryz.f141:=Tryz.func141
theorem ahh:cJ bk Px HJ 2 Tryz.f150=true:=by kernel_rfl
theorem abE:aF.funcs[(150:Nat)]? =some Tryz.f150:=Tryz.func150
theorem ahk:cJ bk PA VW 1 Tryz.f160=true:=by kernel_rfl
theorem abH:aF.funcs[(160:Nat)]? =some Tryz.f160:=Tryz.func160
theorem ag7:cJ bk Pm HH 1 Tryz.f170=true:=by kernel_rfl
theorem abu:aF.funcs[(170:Nat)]? =some Tryz.f170:=Tryz.func170
theorem ahm:cJ bk PC ais 1 Tryz.f183=true:=by kernel_rfl
theorem abJ:aF.funcs[(183:Nat)]? =some Tryz.f183:=Tryz.func183
theorem Hy:cJ bk CM VV 2 Tryz.f206=true:=by kernel_rfl
theorem F2:aF.funcs[(206:Nat)]? =some Tryz.f206:=Tryz.func206
def PQ:C:=(ag [fm 2 0,bU 4 0] (ag [a6 5 0 1 2,a8 6 1 5,aa 7 1,eb 8 112 6 7,aa 1 8] (ag [aa 9 1,aa 4 9] .ret)))
@[simp] def V4:List ca:=[.tmp 4]
def PO:C:=(ag [fm 2 0,bU 4 0] (ag [a6 5 0 1 2,a8 6 1 5,aa 7 1,eb 8 113 6 7,aa 1 8] (.seq (ag [aa 9 1,a7 10 .lss 9 0] (bb 10 (ag [bU 4 (-1)] .ret) .skip)) (ag [aa 11 1,aa 4 11] .ret))))
@[simp] def V0:List ca:=[.tmp 4]
def Jb:C:=(ag [bU 4 0] (.seq (ag [bU 5 0] (.block 0 (.loop (.seq (ag [aa 6 5,aa 7 0,cT 8 7,cj 9 .lss 6 8] (bb 9 .skip (.exit 0))) (.seq (.block 1 (ag [aa 12 0,aa 13 5,aa 14 1,cP 15 4 12 13,a6 16 0 1 15,bF 1 16 14] (ag [aa 17 1,a7 18 .add 17 1,aa 1 18] (ag [aa 19 0,aa 20 5,aa 21 1,cP 22 4 19 20,a6 23 1 1 22,bF 1 23 21] (ag [aa 24 1,a7 25 .add 24 1,aa 1 25] (ag [aa 26 0,aa 27 5,aa 28 1,cl 29 162 28,cP 30 4 26 27,a6 31 2 1 30,bF 1 31 29] (ag [aa 32 1,a7 33 .add 32 1,aa 1 33] (.region [aa 34 0,aa 35 5,cP 36 4 34 35,a6 37 3 1 36,a8 38 1 37,aa 39 1,eb 40 92 38 39,aa 1 40])))))))) (.region [aa 10 5,a7 11 .add 10 1,aa 5 11])))))) (ag [aa 41 1,aa 4 41] .ret)))
@[simp] def V6:List ca:=[.tmp 4]
def I8:C:=(ag [bU 4 0] (.seq (ag [bU 5 0] (.block 0 (.loop (.seq (ag [aa 6 5,aa 7 0,cT 8 7,cj 9 .lss 6 8] (bb 9 .skip (.exit 0))) (.seq (.block 1 (.seq (ag [aa 12 0,aa 13 5,cP 14 4 12 13,a6 15 0 1 14,a8 16 1 15,aa 17 1,cj 18 .neq 16 17] (bb 18 (ag [bU 4 (-1)] .ret) .skip)) (ag [aa 19 1,a7 20 .add 19 1,aa 1 20] (.seq (ag [aa 21 0,aa 22 5,cP 23 4 21 22,a6 24 1 1 23,a8 25 1 24,aa 26 1,cj 27 .neq 25 26] (bb 27 (ag [bU 4 (-1)] .ret) .skip)) (ag [aa 28 1,a7 29 .add 28 1,aa 1 29] (.seq (.seq (.drawn true 50 [aa 30 0,aa 31 5,cP 32 4 30 31,a6 33 2 1 32,a8 34 1 33,aa 35 1,cl 36 162 35,cj 37 .neq 34 36]) (bb 37 (ag [bU 4 (-1)] .ret) .skip)) (ag [aa 38 1,a7 39 .add 38 1,aa 1 39] (ag [aa 40 0,aa 41 5,cP 42 4 40 41,a6 43 3 1 42,a8 44 1 43,aa 45 1,eb 46 93 44 45,aa 1 46] (ag [aa 47 1,a7 48 .lss 47 0] (bb 48 (ag [bU 4 (-1)] .ret) .skip)))))))))) (.region [aa 10 5,a7 11 .add 10 1,aa 5 11])))))) (ag [aa 49 1,aa 4 49] .ret)))
@[simp] def V2:List ca:=[.tmp 4]
def Ja:C:=(ag [bU 4 0] (.seq (ag [bU 5 0] (.block 0 (.loop (.seq (ag [aa 6 5,aa 7 0,cT 8 7,cj 9 .lss 6 8] (bb 9 .skip (.exit 0))) (.seq (.block 1 (ag [aa 12 0,aa 13 5,aa 14 1,cl 15 162 14,cP 16 7 12 13,a6 17 0 1 16,bF 1 17 15] (ag [aa 18 1,a7 19 .add 18 1,aa 1 19] (ag [aa 20 0,aa 21 5,aa 22 1,cP 23 7 20 21,a6 24 1 1 23,bF 1 24 22] (ag [aa 25 1,a7 26 .add 25 1,aa 1 26] (ag [aa 27 0,aa 28 5,aa 29 1,cP 30 7 27 28,a6 31 2 1 30,bF 1 31 29] (ag [aa 32 1,a7 33 .add 32 1,aa 1 33] (ag [aa 34 0,aa 35 5,aa 36 1,cP 37 7 34 35,lG 38 3 4 37,a6 39 0 1 38,bF 1 39 36] (ag [aa 40 1,a7 41 .add 40 1,aa 1 41] (ag [aa 42 0,aa 43 5,aa 44 1,cl 45 162 44,cP 46 7 42 43,lG 47 3 4 46,a6 48 1 1 47,bF 1 48 45] (ag [aa 49 1,a7 50 .add 49 1,aa 1 50] (ag [aa 51 0,aa 52 5,cP 53 7 51 52,lG 54 3 4 53,a6 55 2 1 54,a8 56 1 55,aa 57 1,eb 58 92 56 57,aa 1 58] (.region [aa 59 0,aa 60 5,cP 61 7 59 60,lG 62 3 4 61,a6 63 3 1 62,a8 64 1 63,aa 65 1,eb 66 181 64 65,aa 1 66]))))))))))))) (.region [aa 10 5,a7 11 .add 10 1,aa 5 11])))))) (ag [aa 67 1,aa 4 67] .ret)))
@[simp] def V5:List ca:=[.tmp 4]
def I7:C:=(ag [bU 4 0] (.seq (ag [bU 5 0] (.block 0 (.loop (.seq (ag [aa 6 5,aa 7 0,cT 8 7,cj 9 .lss 6 8] (bb 9 .skip (.exit 0))) (.seq (.block 1 (.seq (.seq (.drawn true 82 [aa 12 0,aa 13 5,cP 14 7 12 13,a6 15 0 1 14,a8 16 1 15,aa 17 1,cl 18 162 17,cj 19 .neq 16 18]) (bb 19 (ag [bU 4 (-1)] .ret) .skip)) (ag [aa 20 1,a7 21 .add 20 1,aa 1 21] (.seq (ag [aa 22 0,aa 23 5,cP 24 7 22 23,a6 25 1 1 24,a8 26 1 25,aa 27 1,cj 28 .neq 26 27] (bb 28 (ag [bU 4 (-1)] .ret) .skip)) (ag [aa 29 1,a7 30 .add 29 1,aa 1 30] (.seq (ag [aa 31 0,aa 32 5,cP 33 7 31 32,a6 34 2 1 33,a8 35 1 34,aa 36 1,cj 37 .neq 35 36] (bb 37 (ag [bU 4 (-1)] .ret) .skip)) (ag [aa 38 1,a7 39 .add 38 1,aa 1 39] (.seq (ag [aa 40 0,aa 41 5,cP 42 7 40 41,lG 43 3 4 42,a6 44 0 1 43,a8 45 1 44,aa 46 1,cj 47 .neq 45 46] (bb 47 (ag [bU 4 (-1)] .ret) .skip)) (ag [aa 48 1,a7 49 .add 48 1,aa 1 49] (.seq (.seq (.drawn true 82 [aa 50 0,aa 51 5,cP 52 7 50 51,lG 53 3 4 52,a6 54 1 1 53,a8 55 1 54,aa 56 1,cl 57 162 56,cj 58 .neq 55 57]) (bb 58 (ag [bU 4 (-1)] .ret) .skip)) (ag [aa 59 1,a7 60 .add 59 1,aa 1 60] (ag [aa 61 0,aa 62 5,cP 63 7 61 62,lG 64 3 4 63,a6 65 2 1 64,a8 66 1 65,aa 67 1,eb 68 93 66 67,aa 1 68] (.seq (ag [aa 69 1,a7 70 .lss 69 0] (bb 70 (ag [bU 4 (-1)] .ret) .skip)) (ag [aa 71 0,aa 72 5,cP 73 7 71 72,lG 74 3 4 73,a6 75 3 1 74,a8 76 1 75,aa 77 1,eb 78 182 76 77,aa 1 78] (ag [aa 79 1,a7 80 .lss 79 0] (bb 80 (ag [bU 4 (-1)] .ret) .skip)))))))))))))))) (.region [aa 10 5,a7 11 .add 10 1,aa 5 11])))))) (ag [aa 81 1,aa 4 81] .ret)))
@[simp] def V1:List ca:=[.tmp 4]
def Jc:C:=(ag [bh 2 (.mov (.c (.str [])))] (.seq (ag [aa 4 0,a7 5 .leq 4 0] (bb 5 (ag [bh 2 (.mov (.c (.str [109,48])))] .ret) .skip)) (ag [bh 3 (.mov (.c (.str [])))] (.seq (.block 0 (.loop (.seq (ag [aa 6 0,a7 7 .gtr 6 0] (bb 7 .skip (.exit 0))) (.block 1 (ag [aa 8 0,a7 9 .rem 8 10,bh 10 (.bin .add false (de 48) (.t 9)),bh 11 (.conv .u8 (.t 10)),gU 12 1 5 [.t 11],bh 13 (.b2s (.t 12)),aa 14 3,cj 15 .add 13 14,aa 3 15] (.region [aa 16 0,a7 17 .quo 16 10,aa 0 17])))))) (ag [aa 18 3,bh 19 (.bin .add false (.c (.str [109])) (.t 18)),aa 2 19] .ret)))))
@[simp] def V7:List ca:=[.tmp 2]
def I9:C:=(ag [bU 4 0] (.seq (ag [bU 5 0] (.block 0 (.loop (.seq (ag [aa 6 5,aa 7 0,cT 8 7,cj 9 .lss 6 8] (bb 9 .skip (.exit 0))) (.seq (.block 1 (ag [aa 12 0,aa 13 5,aa 14 1,cP 15 4 12 13,a6 16 0 1 15,bF 1 16 14] (ag [aa 17 1,a7 18 .add 17 1,aa 1 18] (ag [aa 19 0,aa 20 5,aa 21 1,cl 22 162 21,cP 23 4 19 20,a6 24 1 1 23,bF 1 24 22] (ag [aa 25 1,a7 26 .add 25 1,aa 1 26] (ag [aa 27 0,aa 28 5,cP 29 4 27 28,a6 30 2 1 29,a8 31 1 30,aa 32 1,eb 33 92 31 32,aa 1 33] (.region [aa 34 0,aa 35 5,cP 36 4 34 35,a6 37 3 1 36,a8 38 1 37,aa 39 1,eb 40 181 38 39,aa 1 40]))))))) (.region [aa 10 5,a7 11 .add 10 1,aa 5 11])))))) (ag [aa 41 1,aa 4 41] .ret)))
@[simp] def V3:List ca:=[.tmp 4]
def I6:C:=(ag [bU 4 0] (.seq (ag [bU 5 0] (.block 0 (.loop (.seq (ag [aa 6 5,aa 7 0,cT 8 7,cj 9 .lss 6 8] (bb 9 .skip (.exit 0))) (.seq (.block 1 (.seq (ag [aa 12 0,aa 13 5,cP 14 4 12 13,a6 15 0 1 14,a8 16 1 15,aa 17 1,cj 18 .neq 16 17] (bb 18 (ag [bU 4 (-1)] .ret) .skip)) (ag [aa 19 1,a7 20 .add 19 1,aa 1 20] (.seq (.seq (.drawn true 50 [aa 21 0,aa 22 5,cP 23 4 21 22,a6 24 1 1 23,a8 25 1 24,aa 26 1,cl 27 162 26,cj 28 .neq 25 27]) (bb 28 (ag [bU 4 (-1)] .ret) .skip)) (ag [aa 29 1,a7 30 .add 29 1,aa 1 30] (ag [aa 31 0,aa 32 5,cP 33 4 31 32,a6 34 2 1 33,a8 35 1 34,aa 36 1,eb 37 93 35 36,aa 1 37] (.seq (ag [aa 38 1,a7 39 .lss 38 0] (bb 39 (ag [bU 4 (-1)] .ret) .skip)) (ag [aa 40 0,aa 41 5,cP 42 4 40 41,a6 43 3 1 42,a8 44 1 43,aa 45 1,eb 46 182 44 45,aa 1 46] (ag [aa 47 1,a7 48 .lss 47 0] (bb 48 (ag [bU 4 (-1)] .ret) .skip)))))))))) (.region [aa 10 5,a7 11 .add 10 1,aa 5 11])))))) (ag [aa 49 1,aa 4 49] .ret)))
@[simp] def VZ:List ca:=[.tmp 4]
def vv:List (Nat×dh):=[
 (3,⟨1,8,.int .i64,.int .i64 0⟩),
 (5,⟨1,1,.int .u8,.int .u8 0⟩),
 (9,⟨1,16,.str,.str []⟩),
 (35,⟨1,24,.slice 5,.slice 1 .nil []⟩),
 (38,⟨1,24,.slice 40,.slice 4 .nil []⟩),
 (40,⟨4,56,.struct [(0,3),(1,3),(2,9),(3,38)],.agg [.int .i64 0,.int .i64 0,.str [],.slice 4 .nil []]⟩),
 (59,⟨1,24,.slice 86,.slice 7 .nil []⟩),
 (61,⟨1,24,.struct [(0,59)],.agg [.slice 7 .nil []]⟩),
 (63,⟨1,24,.slice 65,.slice 4 .nil []⟩),
 (65,⟨4,72,.struct [(0,3),(1,9),(2,38),(3,63)],.agg [.int .i64 0,.str [],.slice 4 .nil [],.slice 4 .nil []]⟩),
 (86,⟨7,104,.struct [(0,9),(1,3),(2,3),(3,65)],.agg [.str [],.int .i64 0,.int .i64 0,.int .i64 0,.str [],.slice 4 .nil [],.slice 4 .nil []]⟩)]
theorem oT:eW aF vv=true:=by kernel_rfl
theorem ahz:cJ vv PQ V4 2 Tryz.f40=true:=by kernel_rfl
theorem abW:aF.funcs[(40:Nat)]? =some Tryz.f40:=Tryz.func40
theorem ahy:cJ vv PO V0 2 Tryz.f41=true:=by kernel_rfl
theorem abV:aF.funcs[(41:Nat)]? =some Tryz.f41:=Tryz.func41
theorem Vk:cJ vv Jb V6 2 Tryz.f92=true:=by kernel_rfl
theorem Rn:aF.funcs[(92:Nat)]? =some Tryz.f92:=Tryz.func92
theorem Vh:cJ vv I8 V2 2 Tryz.f93=true:=by kernel_rfl
theorem Rj:aF.funcs[(93:Nat)]? =some Tryz.f93:=Tryz.func93
theorem Vj:cJ vv Ja V5 2 Tryz.f112=true:=by kernel_rfl
theorem Rm:aF.funcs[(112:Nat)]? =some Tryz.f112:=Tryz.func112
theorem Vg:cJ vv I7 V1 2 Tryz.f113=true:=by kernel_rfl
theorem Ri:aF.funcs[(113:Nat)]? =some Tryz.f113:=Tryz.func113
theorem Vl:cJ vv Jc V7 1 Tryz.f162=true:=by kernel_rfl
theorem Ro:aF.funcs[(162:Nat)]? =some Tryz.f162:=Tryz.func162
theorem Vi:cJ vv I9 V3 2 Tryz.f181=true:=by kernel_rfl
theorem Rk:aF.funcs[(181:Nat)]? =some Tryz.f181:=Tryz.func181
theorem Vf:cJ vv I6 VZ 2 Tryz.f182=true:=by kernel_rfl
theorem Rh:aF.funcs[(182:Nat)]? =some Tryz.f182:=Tryz.func182
def zH:Nat->Int->List aj->List aj
 |0,_,o=>o
 |f+1,k,o=>if k<=0 then o else zH f (k/10) (oW (IntKind.u8.wrap (48+k.tmod 10)).toNat::o)
def bs(k:Int):List aj:=if k<=0 then [109,48]else 109::zH k.toNat k []
theorem yE(k:Int)(ab:k<=4611686018427387904):bW aF 162 [.int .i64 k] (.str (bs k)):=by
 by_cases bz:k<=0
 ·rw[bs,if_pos bz];refine bI oT Ro Vl fun aG=>?_;unfold Jc;exact bY
 rw[bs,br bz];refine bI oT Ro Vl fun aG=>?_;unfold Jc;simp;(with_reducible repeat' first|refine av ?_|simp[bz]);refine hR (fun(x:Int×List aj)=>⟨[(0,.int .i64 x.1),(3,.str x.2)],[],[],0,[]⟩) (fun x=>x.1.toNat) (fun x=>0<=x.1/\x.1<=4611686018427387904/\x.1.toNat*10 ^ x.2.length<=4611686018427387904/\x.2.length<=19/\∃f:Nat,x.1<=f/\zH f x.1 x.2=zH k.toNat k []) (k,[]) cW ⟨Ω,ab,by simp;omega,Ψ,k.toNat,by simp;omega,rfl⟩ ?_;rintro⟨j,o⟩ ⟨I,J,au,oI,f,aP,bA⟩ _;simp only at I J au oI aP bA;by_cases ai:0<j
 ·have aD:o.length<=18:=by
   rcases mc 18 o.length with h|h
   ·have cy:10 ^ 19<=10 ^ o.length:=Nat.pow_le_pow_right Ω Ω;have eu:1*10 ^ o.length<=j.toNat*10 ^ o.length:=Nat.mul_le_mul_right _ Ω;omega
   ·exact h
  have aI:j.tdiv 10=j/10:=Int.tdiv_eq_ediv_of_nonneg I;have hm:j.tmod 10=j%10:=Int.tmod_eq_emod_of_nonneg I;have hw:lL.wrap (j.tdiv 10)=j/10:=by rw[aI];exact ou _ Ω
  simp[ai];(with_reducible repeat' first|refine av ?_|simp);all_goals first|(refine⟨by unfold aY;omega,by unfold aR;omega,?_⟩)|skip
  rw[hw];obtain⟨iu,rfl⟩:∃iu,f=iu+1:=⟨f-1,Ω⟩;refine b1.whl (j/10,oW (IntKind.u8.wrap (48+j.tmod 10)).toNat::o) (by simp;omega) ⟨by simp;omega,by simp;omega,?_,by simp;omega,iu,by simp;omega,?_⟩ cW
  ·simp only[gg,Nat.pow_succ];have cy:(j/10).toNat*10<=j.toNat:=Ω
   have eu:=Nat.mul_le_mul_right (10 ^ o.length) cy;rw[Nat.mul_assoc,Nat.mul_comm 10]at eu;omega
  ·rw[<-bA];simp only[zH];rw[br Ω]
 ·simp[ai];(with_reducible repeat' first|refine av ?_|simp);all_goals first|(refine⟨by unfold aR;omega,?_⟩)|skip
  have kq:zH f j o=o:=by cases f<;>simp[zH];omega
  rw[kq]at bA;rw[<-bA];simp[cn,V7,ba,bg,aT]
theorem iO.dt':∀(n:Nat),(∀p,lH p<=n->iO p->cr p)/\(∀bj,jv bj<=n->(∀p∈bj,iO p)->dtL bj)
 |0=>by
  refine⟨fun p aV h=>?_,fun bj aV h=>?_⟩
  ·obtain⟨a,b,s,ys,_,_,e⟩:=h.inv;omega
  ·cases bj with
   |nil=>simp[dtL]
   |cons p bj=>obtain⟨a,b,s,ys,_,_,e⟩:=(h p Ψ).inv;simp only[jv]at aV;omega
 |n+1=>by
  obtain⟨_,aX⟩:=iO.dt' n;have I:∀p,lH p<=n+1->iO p->cr p:=fun p aV h=>by obtain⟨a,b,s,ys,rfl,bG,e⟩:=h.inv;simp only[cr,dtL,true_and,and_true];exact⟨Ω,aX ys Ω bG⟩
  refine⟨I,fun bj aV h=>FN.2 fun x af=>I x ?_ (h x af)⟩;have:=z8 af;omega
theorem iO.dtL{bj:List ae}(h:∀p∈bj,iO p):dtL bj:=(iO.dt' _).2 bj (cc _) h
theorem JS(c:Nat)(a ch:Int)(s:List aj)(t:iY)(ys:List ae):eB c (.agg [.int .i64 a,.int .i64 ch,.str s,.slice 4 t ys])= .agg [.int .i64 a,.int .i64 ch,.str s,eB c (.slice 4 t ys)]:=rfl
theorem UP(cx:Int->List aj)(a ch:Int)(s:List aj)(t:iY)(ys:List ae)(k:Int):dN cx (.agg [.int .i64 a,.int .i64 ch,.str s,.slice 4 t ys]) k=(.agg [.int .i64 k,.int .i64 (k+1),.str (cx (k+1+1)),.slice 4 t (bo cx ys (k+1+1+1)).1],(bo cx ys (k+1+1+1)).2):=by simp[dN,bo]
theorem WN(ε:Nat->Nat)(c:Nat)(a ch:Int)(s:List aj)(t:iY)(ys:List ae):dB ε c (.agg [.int .i64 a,.int .i64 ch,.str s,.slice 4 t ys])=dB ε c (.slice 4 t ys):=by show []++([]++([]++(dB ε (c+0+0+0) (.slice 4 t ys)++[])))=_;simp
theorem AF(a ch:Int)(s:List aj)(t:iY)(ys:List ae):bV (.agg [.int .i64 a,.int .i64 ch,.str s,.slice 4 t ys])=bV (.slice 4 t ys):=by show 0+(0+(0+(bV (.slice 4 t ys)+0)))=_;omega
theorem akZ(k:Int):bW aF 92 [.slice 4 .no [],.int .i64 k] (.int .i64 k):=by refine bI oT Rn Vk fun aG=>?_;unfold Jb;simp;(with_reducible repeat' first|refine av ?_|simp);refine fA (fun i (_:Unit)=>⟨[(0,.slice 4 .no []),(1,.int .i64 k),(5,.int .i64 i)],[],[],0,[]⟩) 0 (fun _ _=>True) () cW trivial (fun _ _ _=>?_) (fun i _ aw _ _=>Ω);exact bY
theorem RZ(k:Int)(b:Nat)(ε:Nat->Nat):b3 aF 92 [eB b (.slice 4 .no []),.int .i64 k] (en ε b (.slice 4 .no [])) fun r al=>r= .int .i64 k/\al=en ε b (.slice 4 .no []):=akZ k
theorem akH(k:Int):bW aF 93 [.slice 4 .no [],.int .i64 k] (.int .i64 k):=by refine bI oT Rj Vh fun aG=>?_;unfold I8;simp;(with_reducible repeat' first|refine av ?_|simp);refine fA (fun i (_:Unit)=>⟨[(0,.slice 4 .no []),(1,.int .i64 k),(5,.int .i64 i)],[],[],0,[]⟩) 0 (fun _ _=>True) () cW trivial (fun _ _ _=>?_) (fun i _ aw _ _=>Ω);exact bY
theorem RV(k:Int)(b:Nat)(ε:Nat->Nat):b3 aF 93 [eB b (.slice 4 .no []),.int .i64 k] (en ε b (.slice 4 .no [])) fun r al=>r= .int .i64 k/\al=en ε b (.slice 4 .no []):=akH k
theorem RY:∀(n:Nat) (xs:List ae),jv xs<=n->(∀x∈xs,iO x)->∀(k:Int) (b:Nat) (ε:Nat->Nat),0<=k->(bo bs xs k).2<=4611686018427387904->
  b3 aF 92 [eB b (.slice 4 .no xs),.int .i64 k] (en ε b (.slice 4 .no xs)) fun r al=>r= .int .i64 (bo bs xs k).2/\al=en ε b (.slice 4 .no (bo bs xs k).1):=by
 intro n;induction n with
 |zero=>
  intro xs dz af k b ε bz ab;cases xs with
  |nil=>exact RZ k b ε
  |cons x xs=>obtain⟨a,ch,s,ys,_,_,e⟩:=(af x Ψ).inv;simp only[jv]at dz;omega
 |succ n aX=>
 intro xs dz af k b ε bz ab;have aI:dtL xs:=iO.dtL af;have az:hn (en ε b (.slice 4 .no xs)):=o3 (by simp[cr,aI]);by_cases b7:xs=[]
 ·subst b7;exact RZ k b ε
 have vZ:(bo bs (xs.take 0) k).2=k:=by simp[bo]
 refine b3.mk mixed oT Rn Vk Ψ az.obj fun aG b2=>?_;unfold Jb;rw[AI b7];simp;(with_reducible repeat' first|refine av ?_|simp);have ti:∀i,bV (.slice 4 .no (kS bs xs k i))=bV (.slice 4 .no xs):=fun i=>rM (q7 ..) (L9 ..);have kN:∀i,cr (.slice 4 .no (kS bs xs k i)):=fun i=>by simp only[cr];exact⟨Ω,Ma _ _ _ aI⟩
 have fW:rng b (b+bV (.slice 4 .no xs)) (.obj b):=⟨b,rfl,cc _,by cases xs with|nil=>exact absurd rfl b7|cons x xs=>simp only[bV];omega⟩;have Dz:=Ed bs (xs:=xs) k fun x h=>by obtain⟨a,ch,s,ys,rfl,_⟩:=(af x h).inv;exact⟨_,_,_,rfl⟩
 have anJ:∀i,kS bs xs k i≠[]:=fun i e=>b7 (List.length_eq_zero_iff.1 (by rw[<-q7 bs xs k i,e];rfl));refine fA (fun i (_:Unit)=>⟨[(0,.row 4 (.obj b) xs.length),(1,.int .i64 (bo bs (xs.take i) k).2),(5,.int .i64 i)],[],dB ε b (.slice 4 .no (kS bs xs k i)),0,ev (en ε b (.slice 4 .no xs))⟩) xs.length (fun _ _=>True) () ?_ trivial (fun _ _ _=>?_) (fun i _ aw _ _=>?_)
 ·refine il.to (kN _) (ti _) ?_ (fun k o h=>by rw[Mc]at h;exact h);simp[Pv.kin,fW,bo]
 ·rw[wJ,hE];simp;(with_reducible repeat' first|refine av ?_|simp);refine cO.at (en ε b (.slice 4 .no (bo bs xs k).1)) Ψ (o3 (by rw[<-wJ];exact kN _)) (rH (by rw[<-wJ];exact ti _)) (fun k cs h=>by simp[Pv.look]at h) (fun k o h=>h) ?_;simp[c8,V6,ba,bg,aT]
 ·obtain⟨x,db⟩:∃x,xs[i]? =some x:=⟨_,cL aw⟩;have hm:=e1 db;have I:k<=(bo bs (xs.take i) k).2:=kh _ _ _;have J:=BA bs xs k (i+1);have bB:=Bz bs k db;have b9:=L8 bs k db;have ee:=Mb bs k db;have iE:(bo bs (xs.take i) k).1.length=i:=by rw[mA];simp;omega
  have mv:=fun(t':List (Nat×ae)) (st:aU)=>il.to (t':=t') (st:=st) (ε:=ε) (b:=b) (kN (i+1)) (ti (i+1));rw[bB]at J;have hlen:((bo bs (xs.take i) k).1++x::xs.drop (i+1)).length=xs.length:=by rw[<-b9];exact q7 ..
  rw[b9,pI (xs:=_++x::_) Ψ,hlen];generalize p3:(bo bs (xs.take i) k).1=M at iE b9 ee⊢;generalize da:(bo bs (xs.take i) k).2=K at bB ee I J⊢;generalize bt:xs.drop (i+1)=R at b9 ee⊢;obtain⟨a,ch,s,ys,rfl,ht,K8⟩:=(af x hm).inv;have dC:=AH (b:=b+1) (r:=R) (x:= .agg [.int .i64 a,.int .i64 ch,.str s,.slice 4 .no ys]) iE;have jT:(ha (b+1) (M++ .agg [.int .i64 a,.int .i64 ch,.str s,.slice 4 .no ys]::R)).length=xs.length:=by rw[rQ,<-b9];exact q7 ..
  rw[JS]at dC;rw[UP]at bB ee J;generalize cH:eB (b+1+ct M) (.slice 4 .no ys)=E at dC;generalize mQ:ha (b+1) (M++ .agg [.int .i64 a,.int .i64 ch,.str s,.slice 4 .no ys]::R)=X at dC jT⊢;have gj:K+1+1+1<=(bo bs ys (K+1+1+1)).2:=kh ..;simp only at J;have cN:=yE (K+1+1) Ω;have mX:∀h,(X[i]'h)= .agg [.int .i64 a,.int .i64 ch,.str s,E]:=fun h=>by rw[cL h]at dC;exact gB dC
  clear dC;simp[aw,mX,jT];(with_reducible repeat' first|refine av ?_|refine aZ cN ?_|refine a1 cN ?_|simp[mX,jT,aw]);have u6:dtL ys:=iO.dtL ht;have aK:=aX ys (by have:=z8 hm;omega) ht (K+1+1+1) (b+1+ct M) ε Ω Ω;have rV:(bo bs ys (K+1+1+1)).1.length=ys.length:=mA ..;have wv:ct (bo bs ys (K+1+1+1)).1=ct ys:=rN ..;generalize bo bs ys (K+1+1+1)=Q at rV wv aK bB ee J gj;have hs:bD E=E:=by rw[<-cH];exact vp
  rw[hs];subst cH;refine CallDo.sub (ε:=ε) (b:=b+1) (l:=M) (r:=R) (y:= .agg [.int .i64 a,.int .i64 ch,.str s,.slice 4 .no ys]) (y':= .agg [.int .i64 K,.int .i64 (K+1),.str (bs (K+1+1)),.slice 4 .no Q.1]) (by simp[cr,Pv.dtL,u6]) (by rw[AF,AF];exact rM rV wv) (by simp only[en,WN];exact aK) (fun k o h=>?_) ?_ (fun hg aD hu=>?_)
  ·obtain⟨m,rfl,fK,cR⟩:=tP _ _ _ _ _ h;simp only[Pv.look];rw[br (by simp;omega)];exact h
  ·rw[AF];simp only[kinL,Pv.kin,and_true];exact qh _ _ (by simp only[cr];exact⟨Ω,u6⟩)
  ·have kv:=hu (.obj b) (fun⟨m,e,fK,cR⟩=>by cases e;omega);simp only[Pv.look,if_true]at kv;simp;(with_reducible repeat' first|refine av ?_|simp);refine b1.rng () aw ?_ ?_
   ·trivial
   rw[show(bo bs (xs.take (i+1)) k).2=Q.2 from bB];refine mv _ _ (by simp[Pv.kin,fW]) fun k o h=>?_;rw[ee,pI Ψ]at h;simp only[Pv.look]at h;split at h
   ·rename_i e;subst e;rw[kv,<-h,<-mQ,<-AJ rV,<-JS (b+1+ct M) K (K+1) (bs (K+1+1)),JP iE (by rw[AF,AF];exact rM rV wv),<-q7 bs xs k (i+1),ee]
   ·exact aD k o h
theorem RU:∀(n:Nat) (xs:List ae),jv xs<=n->(∀x∈xs,iO x)->∀(k:Int) (b:Nat) (ε:Nat->Nat),0<=k->(bo bs xs k).2<=4611686018427387904->
  b3 aF 93 [eB b (.slice 4 .no (bo bs xs k).1),.int .i64 k] (en ε b (.slice 4 .no (bo bs xs k).1)) fun r al=>r= .int .i64 (bo bs xs k).2/\al=en ε b (.slice 4 .no (bo bs xs k).1):=by
 intro n;induction n with
 |zero=>
  intro xs dz af k b ε bz ab;cases xs with
  |nil=>exact RV k b ε
  |cons x xs=>obtain⟨a,ch,s,ys,_,_,e⟩:=(af x Ψ).inv;simp only[jv]at dz;omega
 |succ n aX=>
 intro xs dz af k b ε bz ab;have aI:dtL (bo bs xs k).1:=pc _ _ _ (iO.dtL af);have kN:cr (.slice 4 .no (bo bs xs k).1):=by simp only[cr];exact⟨Ω,aI⟩
 have az:hn (en ε b (.slice 4 .no (bo bs xs k).1)):=o3 kN;by_cases b7:xs=[]
 ·subst b7;exact RV k b ε
 have n3:(bo bs xs k).1.length=xs.length:=mA ..;have n5:(bo bs xs k).1≠[]:=fun e=>b7 (List.length_eq_zero_iff.1 (by rw[<-n3,e];rfl));have Dz:=Ed bs (xs:=xs) k fun x h=>by obtain⟨a,ch,s,ys,rfl,_⟩:=(af x h).inv;exact⟨_,_,_,rfl⟩
 have fW:rng b (b+bV (.slice 4 .no (bo bs xs k).1)) (.obj b):=⟨b,rfl,cc _,by revert n5;cases (bo bs xs k).1 with|nil=>exact fun h=>absurd rfl h|cons x xs=>intro _;simp only[bV];omega⟩;have mv:=fun(t':List (Nat×ae)) (st:aU)=>il.to (t':=t') (st:=st) (ε:=ε) (b:=b) kN rfl;refine b3.mk mixed oT Rj Vh Ψ az.obj fun aG b2=>?_;unfold I8;rw[AI n5,n3];simp;(with_reducible repeat' first|refine av ?_|simp);refine fA (fun i (_:Unit)=>⟨[(0,.row 4 (.obj b) xs.length),(1,.int .i64 (bo bs (xs.take i) k).2),(5,.int .i64 i)],[],dB ε b (.slice 4 .no (bo bs xs k).1),0,ev (en ε b (.slice 4 .no (bo bs xs k).1))⟩) xs.length (fun _ _=>True) () ?_ trivial (fun _ _ _=>?_) (fun i _ aw _ _=>?_)
 ·refine mv _ _ ?_ (fun k o h=>h);simp[Pv.kin,fW,bo]
 ·rw[hE];simp;(with_reducible repeat' first|refine av ?_|simp);refine cO.at (en ε b (.slice 4 .no (bo bs xs k).1)) Ψ az (rH rfl) (fun k cs h=>by simp[Pv.look]at h) (fun k o h=>h) ?_;simp[c8,V2,ba,bg,aT]
 ·obtain⟨x,db⟩:∃x,xs[i]? =some x:=⟨_,cL aw⟩;have hm:=e1 db;have I:k<=(bo bs (xs.take i) k).2:=kh _ _ _;have J:=BA bs xs k (i+1);have bB:=Bz bs k db;have b9:=Mf bs k db;have iE:(bo bs (xs.take i) k).1.length=i:=by rw[mA];simp;omega
  rw[bB]at J;generalize xL:(bo bs xs k).1=Y at*;have kf:=pI (ε:=ε) (b:=b) (sz:=4) (t:= .no) n5;rw[n3]at kf;rw[kf];generalize p3:(bo bs (xs.take i) k).1=M at iE b9;generalize da:(bo bs (xs.take i) k).2=K at bB b9 I J⊢;obtain⟨a,ch,s,ys,rfl,ht,K8⟩:=(af x hm).inv;rw[UP]at bB b9 J;simp only at J;generalize (bo bs (xs.drop (i+1)) _).1=R at b9;have dC:=AH (b:=b+1) (r:=R) (x:= .agg [.int .i64 K,.int .i64 (K+1),.str (bs (K+1+1)),.slice 4 .no (bo bs ys (K+1+1+1)).1]) iE;rw[<-b9,JS]at dC;have jT:(ha (b+1) Y).length=xs.length:=by rw[rQ,n3]
  generalize cH:eB (b+1+ct M) (.slice 4 .no (bo bs ys (K+1+1+1)).1)=E at dC;generalize mQ:ha (b+1) Y=X at dC jT kf⊢;have gj:K+1+1+1<=(bo bs ys (K+1+1+1)).2:=kh ..;have cN:=yE (K+1+1) Ω;have mX:∀h,(X[i]'h)= .agg [.int .i64 K,.int .i64 (K+1),.str (bs (K+1+1)),E]:=fun h=>by rw[cL h]at dC;exact gB dC
  clear dC;have aK:=aX ys (by have:=z8 hm;omega) ht (K+1+1+1) (b+1+ct M) ε Ω Ω;have u6:dtL (bo bs ys (K+1+1+1)).1:=pc _ _ _ (iO.dtL ht);generalize bo bs ys (K+1+1+1)=Q at u6 cH aK bB b9 J gj;simp[aw,mX,jT];(with_reducible repeat' first|refine av ?_|refine aZ cN ?_|refine a1 cN ?_|simp[mX,jT,aw]);have hs:bD E=E:=by rw[<-cH];exact vp
  rw[hs];subst cH;refine CallDo.sub (ε:=ε) (b:=b+1) (l:=M) (r:=R) (y:= .agg [.int .i64 K,.int .i64 (K+1),.str (bs (K+1+1)),.slice 4 .no Q.1]) (y':= .agg [.int .i64 K,.int .i64 (K+1),.str (bs (K+1+1)),.slice 4 .no Q.1]) (by simp[cr,Pv.dtL,u6]) rfl (by simp only[en,WN];exact aK) (fun k o h=>?_) ?_ (fun hg aD hu=>?_)
  ·rw[<-b9]at h;obtain⟨m,rfl,fK,cR⟩:=tP _ _ _ _ _ h;simp only[Pv.look];rw[br (by simp;omega)];exact h
  ·rw[AF];simp only[kinL,Pv.kin,and_true];exact qh _ _ (by simp only[cr];exact⟨Ω,u6⟩)
  ·have kv:=hu (.obj b) (fun⟨m,e,fK,cR⟩=>by cases e;omega);simp only[Pv.look,if_true]at kv;have xZ:¬(Q.2<0):=Ω
   simp[xZ];(with_reducible repeat' first|refine av ?_|simp[xZ]);refine b1.rng () aw ?_ ?_
   ·trivial
   rw[show(bo bs (xs.take (i+1)) k).2=Q.2 from bB];have DF:aC.obj b::(gp ε (b+1) Y).map (fun x=>x.1)=ev (en ε b (.slice 4 .no Y)):=by simp[pI n5]
   rw[DF,<-kf];refine mv _ _ ?_ (fun k o h=>?_)
   ·simp[Pv.kin,fW]
   rw[pI n5,n3,mQ]at h;simp only[Pv.look]at h;split at h
   ·rename_i e;subst e;rw[kv,<-h]
   ·rw[<-b9]at aD;exact aD k o h
inductive j6:ae->Prop
 |mk (a:Int) (s:List aj) (ts gs:List ae):(∀t∈ts,iO t)->(∀g∈gs,j6 g)->j6 (.agg [.int .i64 a,.str s,.slice 4 .no ts,.slice 4 .no gs])
theorem j6.inv{p:ae}(h:j6 p):∃a s ts gs,p= .agg [.int .i64 a,.str s,.slice 4 .no ts,.slice 4 .no gs]/\(∀t∈ts,iO t)/\(∀g∈gs,j6 g)/\lH p=1+(jv ts+jv gs):=by
 cases h with
 |mk a s ts gs I J=>exact⟨a,s,ts,gs,rfl,I,J,by simp[lH,jv]⟩
theorem j6.dt':∀(n:Nat),(∀p,lH p<=n->j6 p->cr p)/\(∀bj,jv bj<=n->(∀p∈bj,j6 p)->Pv.dtL bj)
 |0=>by
  refine⟨fun p aV h=>?_,fun bj aV h=>?_⟩
  ·obtain⟨a,s,ts,gs,_,_,_,e⟩:=h.inv;omega
  ·cases bj with
   |nil=>simp[Pv.dtL]
   |cons p bj=>obtain⟨a,s,ts,gs,_,_,_,e⟩:=(h p Ψ).inv;simp only[jv]at aV;omega
 |n+1=>by
  obtain⟨_,aX⟩:=j6.dt' n;have I:∀p,lH p<=n+1->j6 p->cr p:=fun p aV h=>by obtain⟨a,s,ts,gs,rfl,aE,aS,e⟩:=h.inv;simp only[cr,Pv.dtL,true_and,and_true];exact⟨⟨Ω,iO.dtL aE⟩,Ω,aX gs Ω aS⟩
  refine⟨I,fun bj aV h=>FN.2 fun x af=>I x ?_ (h x af)⟩;have:=z8 af;omega
theorem j6.dtL{bj:List ae}(h:∀p∈bj,j6 p):Pv.dtL bj:=(j6.dt' _).2 bj (cc _) h
theorem JQ(c:Nat)(a:Int)(s:List aj)(t t':iY)(ts gs:List ae):eB c (.agg [.int .i64 a,.str s,.slice 4 t ts,.slice 4 t' gs])= .agg [.int .i64 a,.str s,eB c (.slice 4 t ts),eB (c+bV (.slice 4 t ts)) (.slice 4 t' gs)]:=rfl
theorem UO(cx:Int->List aj)(a:Int)(s:List aj)(t t':iY)(ts gs:List ae)(k:Int):dN cx (.agg [.int .i64 a,.str s,.slice 4 t ts,.slice 4 t' gs]) k=(.agg [.int .i64 k,.str (cx (k+1)),.slice 4 t (bo cx ts (k+1+1)).1,.slice 4 t' (bo cx gs (bo cx ts (k+1+1)).2).1],(bo cx gs (bo cx ts (k+1+1)).2).2):=by simp[dN,bo]
theorem ajl(ε:Nat->Nat)(c:Nat)(a:Int)(s:List aj)(t t':iY)(ts gs:List ae):dB ε c (.agg [.int .i64 a,.str s,.slice 4 t ts,.slice 4 t' gs])=dB ε c (.slice 4 t ts)++dB ε (c+bV (.slice 4 t ts)) (.slice 4 t' gs):=by show []++([]++(dB ε (c+0+0) (.slice 4 t ts)++(dB ε (c+0+0+bV (.slice 4 t ts)) (.slice 4 t' gs)++[])))=_;simp
theorem JD(a:Int)(s:List aj)(t t':iY)(ts gs:List ae):bV (.agg [.int .i64 a,.str s,.slice 4 t ts,.slice 4 t' gs])=bV (.slice 4 t ts)+bV (.slice 4 t' gs):=by show 0+(0+(bV (.slice 4 t ts)+(bV (.slice 4 t' gs)+0)))=_;omega
theorem H0(ε:Nat->Nat)(c:Nat)(M R:List ae)(a:Int)(s:List aj)(t t':iY)(ts gs:List ae):gp ε c (M++ .agg [.int .i64 a,.str s,.slice 4 t ts,.slice 4 t' gs]::R)=gp ε c (M++ .slice 4 t ts:: .slice 4 t' gs::R):=by rw[zV,zV];simp only[gp];rw[ajl,JD,lr,Nat.add_assoc (c+ct M)]
theorem FC(M:List ae)(a:Int)(s:List aj)(t t':iY)(ts gs:List ae):ct (M++[.slice 4 t ts])=ct M+bV (.slice 4 t ts):=by rw[FD];simp[ct]
theorem akX(k:Int):bW aF 181 [.slice 4 .no [],.int .i64 k] (.int .i64 k):=by refine bI oT Rk Vi fun aG=>?_;unfold I9;simp;(with_reducible repeat' first|refine av ?_|simp);refine fA (fun i (_:Unit)=>⟨[(0,.slice 4 .no []),(1,.int .i64 k),(5,.int .i64 i)],[],[],0,[]⟩) 0 (fun _ _=>True) () cW trivial (fun _ _ _=>?_) (fun i _ aw _ _=>Ω);exact bY
theorem RW(k:Int)(b:Nat)(ε:Nat->Nat):b3 aF 181 [eB b (.slice 4 .no []),.int .i64 k] (en ε b (.slice 4 .no [])) fun r al=>r= .int .i64 k/\al=en ε b (.slice 4 .no []):=akX k
theorem akF(k:Int):bW aF 182 [.slice 4 .no [],.int .i64 k] (.int .i64 k):=by refine bI oT Rh Vf fun aG=>?_;unfold I6;simp;(with_reducible repeat' first|refine av ?_|simp);refine fA (fun i (_:Unit)=>⟨[(0,.slice 4 .no []),(1,.int .i64 k),(5,.int .i64 i)],[],[],0,[]⟩) 0 (fun _ _=>True) () cW trivial (fun _ _ _=>?_) (fun i _ aw _ _=>Ω);exact bY
theorem RT(k:Int)(b:Nat)(ε:Nat->Nat):b3 aF 182 [eB b (.slice 4 .no []),.int .i64 k] (en ε b (.slice 4 .no [])) fun r al=>r= .int .i64 k/\al=en ε b (.slice 4 .no []):=akF k
theorem acZ:∀(n:Nat) (xs:List ae),jv xs<=n->(∀x∈xs,j6 x)->∀(k:Int) (b:Nat) (ε:Nat->Nat),0<=k->(bo bs xs k).2<=4611686018427387904->
  b3 aF 181 [eB b (.slice 4 .no xs),.int .i64 k] (en ε b (.slice 4 .no xs)) fun r al=>r= .int .i64 (bo bs xs k).2/\al=en ε b (.slice 4 .no (bo bs xs k).1):=by
 intro n;induction n with
 |zero=>
  intro xs dz af k b ε bz ab;cases xs with
  |nil=>exact RW k b ε
  |cons x xs=>obtain⟨a,s,ts,gs,_,_,_,e⟩:=(af x Ψ).inv;simp only[jv]at dz;omega
 |succ n aX=>
 intro xs dz af k b ε bz ab;have aI:Pv.dtL xs:=j6.dtL af;have az:hn (en ε b (.slice 4 .no xs)):=o3 (by simp[cr,aI]);by_cases b7:xs=[]
 ·subst b7;exact RW k b ε
 have ti:∀i,bV (.slice 4 .no (kS bs xs k i))=bV (.slice 4 .no xs):=fun i=>rM (q7 ..) (L9 ..);have kN:∀i,cr (.slice 4 .no (kS bs xs k i)):=fun i=>by simp only[cr];exact⟨Ω,Ma _ _ _ aI⟩
 have fW:rng b (b+bV (.slice 4 .no xs)) (.obj b):=⟨b,rfl,cc _,by cases xs with|nil=>exact absurd rfl b7|cons x xs=>simp only[bV];omega⟩;refine b3.mk mixed oT Rk Vi Ψ az.obj fun aG b2=>?_;unfold I9;rw[AI b7];simp;(with_reducible repeat' first|refine av ?_|simp);refine fA (fun i (_:Unit)=>⟨[(0,.row 4 (.obj b) xs.length),(1,.int .i64 (bo bs (xs.take i) k).2),(5,.int .i64 i)],[],dB ε b (.slice 4 .no (kS bs xs k i)),0,ev (en ε b (.slice 4 .no xs))⟩) xs.length (fun _ _=>True) () ?_ trivial (fun _ _ _=>?_) (fun i _ aw _ _=>?_)
 ·refine il.to (kN _) (ti _) ?_ (fun k o h=>by rw[Mc]at h;exact h);simp[Pv.kin,fW,bo]
 ·rw[wJ,hE];simp;(with_reducible repeat' first|refine av ?_|simp);refine cO.at (en ε b (.slice 4 .no (bo bs xs k).1)) Ψ (o3 (by rw[<-wJ];exact kN _)) (rH (by rw[<-wJ];exact ti _)) (fun k cs h=>by simp[Pv.look]at h) (fun k o h=>h) ?_;simp[c8,V3,ba,bg,aT]
 ·obtain⟨x,db⟩:∃x,xs[i]? =some x:=⟨_,cL aw⟩;have hm:=e1 db;have I:k<=(bo bs (xs.take i) k).2:=kh _ _ _;have J:=BA bs xs k (i+1);have bB:=Bz bs k db;have b9:=L8 bs k db;have ee:=Mb bs k db;have iE:(bo bs (xs.take i) k).1.length=i:=by rw[mA];simp;omega
  have mv:=fun(t':List (Nat×ae)) (st:aU)=>il.to (t':=t') (st:=st) (ε:=ε) (b:=b) (kN (i+1)) (ti (i+1));rw[bB]at J;have hlen:((bo bs (xs.take i) k).1++x::xs.drop (i+1)).length=xs.length:=by rw[<-b9];exact q7 ..
  have Dz:=Ed bs (xs:=xs) k fun x h=>by obtain⟨a,s,ts,gs,rfl,_⟩:=(af x h).inv;exact⟨_,_,_,rfl⟩
  have bZ:aY ((i:Int)+1):=by unfold aY;omega
  have ae7:=z8 hm;have n2:=q7 bs xs k (i+1);rw[b9,pI (xs:=_++x::_) Ψ,hlen];rw[ee]at n2;generalize p3:(bo bs (xs.take i) k).1=M at iE b9 ee n2⊢;generalize da:(bo bs (xs.take i) k).2=K at bB ee I J n2⊢;generalize bt:xs.drop (i+1)=R at b9 ee n2⊢;obtain⟨a,s,ts,gs,rfl,tE,hb,K8⟩:=(af x hm).inv;have dC:=AH (b:=b+1) (r:=R) (x:= .agg [.int .i64 a,.str s,.slice 4 .no ts,.slice 4 .no gs]) iE;have jT:(ha (b+1) (M++ .agg [.int .i64 a,.str s,.slice 4 .no ts,.slice 4 .no gs]::R)).length=xs.length:=by rw[rQ,<-b9];exact q7 ..
  rw[JQ]at dC;rw[UO]at bB ee J n2;have zx:Pv.dtL ts:=iO.dtL tE;have Dr:Pv.dtL gs:=j6.dtL hb;have gj:K+1+1<=(bo bs ts (K+1+1)).2:=kh ..;have ih:(bo bs ts (K+1+1)).2<=(bo bs gs (bo bs ts (K+1+1)).2).2:=kh ..;simp only at J;have cN:=yE (K+1) Ω;have mS:=RY (jv ts) ts (cc _) tE (K+1+1) (b+1+ct M) ε Ω Ω;have rV:(bo bs ts (K+1+1)).1.length=ts.length:=mA ..;have wv:ct (bo bs ts (K+1+1)).1=ct ts:=rN ..;have tf:Pv.dtL (bo bs ts (K+1+1)).1:=pc _ _ _ zx;generalize bo bs ts (K+1+1)=Q at rV wv tf mS bB ee J gj ih n2;have jd:bV (.slice 4 .no Q.1)=bV (.slice 4 .no ts):=rM rV wv;have jH:=aX gs Ω hb Q.2 (b+1+ct (M++[.slice 4 .no Q.1])) ε Ω Ω;have jc:b+1+ct (M++[.slice 4 .no Q.1])=b+1+ct M+bV (.slice 4 .no ts):=by rw[FC M 0 [] .no .no Q.1 [],jd];omega
  have eM:(bo bs gs Q.2).1.length=gs.length:=mA ..;have DI:ct (bo bs gs Q.2).1=ct gs:=rN ..;generalize bo bs gs Q.2=U at eM DI jH bB ee J ih n2;have kt:bV (.slice 4 .no U.1)=bV (.slice 4 .no gs):=rM eM DI;generalize cH:eB (b+1+ct M) (.slice 4 .no ts)=E at dC mS;generalize nX:eB (b+1+ct M+bV (.slice 4 .no ts)) (.slice 4 .no gs)=iB at dC;generalize mQ:ha (b+1) (M++ .agg [.int .i64 a,.str s,.slice 4 .no ts,.slice 4 .no gs]::R)=X at dC jT⊢;have mX:∀h,(X[i]'h)= .agg [.int .i64 a,.str s,E,iB]:=fun h=>by rw[cL h]at dC;exact gB dC
  clear dC;rw[H0];simp[aw,mX,jT];(with_reducible repeat' first|refine av ?_|refine aZ cN ?_|refine a1 cN ?_|simp[mX,jT,aw]);have hs:bD E=E:=by rw[<-cH];exact vp
  rw[hs];refine CallDo.sub (ε:=ε) (b:=b+1) (l:=M) (r:= .slice 4 .no gs::R) (y:= .slice 4 .no ts) (y':= .slice 4 .no Q.1) (by simp only[cr];exact⟨Ω,zx⟩) jd mS (fun k o h=>?_) ?_ (fun hg aD hu=>?_)
  ·obtain⟨m,rfl,fK,cR⟩:=tP _ _ _ _ _ h;simp only[Pv.look];rw[br (by simp;omega)];exact h
  ·rw[<-cH];simp only[kinL,Pv.kin,and_true];exact qh _ _ (by simp only[cr];exact⟨Ω,zx⟩)
  have kv:=hu (.obj b) (fun⟨m,e,fK,cR⟩=>by cases e;omega);simp only[Pv.look,if_true]at kv;have adC:i<X.length:=Ω
  have fh:∀h,((X.set i (.agg [.int .i64 K,.str (bs (K+1)),E,iB]))[i]'h)= .agg [.int .i64 K,.str (bs (K+1)),E,iB]:=fun h=>by simp
  simp[kv];(with_reducible repeat' first|refine av ?_|simp[kv,fh,jT,aw]);have zw:bD iB=iB:=by rw[<-nX];exact vp
  rw[zw];rw[jc,nX]at jH;refine CallDo.sub (ε:=ε) (b:=b+1) (l:=M++[.slice 4 .no Q.1]) (r:=R) (y:= .slice 4 .no gs) (y':= .slice 4 .no U.1) (by simp only[cr];exact⟨Ω,Dr⟩) kt (by rw[jc];exact jH) (fun k o h=>?_) ?_ (fun aL fe mW=>?_)
  ·rw[lr]at h;exact aD k o h
  ·rw[jc,<-nX];simp only[kinL,Pv.kin,and_true];exact qh _ _ (by simp only[cr];exact⟨Ω,Dr⟩)
  have tG:=mW (.obj b) (fun⟨m,e,fK,cR⟩=>by cases e;omega);rw[kv]at tG;simp;(with_reducible repeat' first|refine av ?_|simp[bZ]);refine b1.rng () aw ?_ ?_
  ·trivial
  rw[show(bo bs (xs.take (i+1)) k).2=U.2 from bB];refine mv _ _ (by simp[Pv.kin,fW]) fun k o h=>?_;rw[ee,pI Ψ]at h;simp only[Pv.look]at h;split at h
  ·rename_i e;subst e;rw[tG,<-h,<-mQ,<-cH,<-nX,<-AJ rV,<-AJ (sz:=4) (t:= .no) eM,<-jd,<-JQ (b+1+ct M) K (bs (K+1)),JP iE (by rw[JD,JD,jd,kt]),n2]
  ·rw[H0]at h;refine fe k o ?_;rw[lr];exact h
theorem acT:∀(n:Nat) (xs:List ae),jv xs<=n->(∀x∈xs,j6 x)->∀(k:Int) (b:Nat) (ε:Nat->Nat),0<=k->(bo bs xs k).2<=4611686018427387904->
  b3 aF 182 [eB b (.slice 4 .no (bo bs xs k).1),.int .i64 k] (en ε b (.slice 4 .no (bo bs xs k).1)) fun r al=>r= .int .i64 (bo bs xs k).2/\al=en ε b (.slice 4 .no (bo bs xs k).1):=by
 intro n;induction n with
 |zero=>
  intro xs dz af k b ε bz ab;cases xs with
  |nil=>exact RT k b ε
  |cons x xs=>obtain⟨a,s,ts,gs,_,_,_,e⟩:=(af x Ψ).inv;simp only[jv]at dz;omega
 |succ n aX=>
 intro xs dz af k b ε bz ab;have aI:Pv.dtL (bo bs xs k).1:=pc _ _ _ (j6.dtL af);have kN:cr (.slice 4 .no (bo bs xs k).1):=by simp only[cr];exact⟨Ω,aI⟩
 have az:hn (en ε b (.slice 4 .no (bo bs xs k).1)):=o3 kN;by_cases b7:xs=[]
 ·subst b7;exact RT k b ε
 have n3:(bo bs xs k).1.length=xs.length:=mA ..;have n5:(bo bs xs k).1≠[]:=fun e=>b7 (List.length_eq_zero_iff.1 (by rw[<-n3,e];rfl));have Dz:=Ed bs (xs:=xs) k fun x h=>by obtain⟨a,s,ts,gs,rfl,_⟩:=(af x h).inv;exact⟨_,_,_,rfl⟩
 have fW:rng b (b+bV (.slice 4 .no (bo bs xs k).1)) (.obj b):=⟨b,rfl,cc _,by revert n5;cases (bo bs xs k).1 with|nil=>exact fun h=>absurd rfl h|cons x xs=>intro _;simp only[bV];omega⟩;have mv:=fun(t':List (Nat×ae)) (st:aU)=>il.to (t':=t') (st:=st) (ε:=ε) (b:=b) kN rfl;refine b3.mk mixed oT Rh Vf Ψ az.obj fun aG b2=>?_;unfold I6;rw[AI n5,n3];simp;(with_reducible repeat' first|refine av ?_|simp);refine fA (fun i (_:Unit)=>⟨[(0,.row 4 (.obj b) xs.length),(1,.int .i64 (bo bs (xs.take i) k).2),(5,.int .i64 i)],[],dB ε b (.slice 4 .no (bo bs xs k).1),0,ev (en ε b (.slice 4 .no (bo bs xs k).1))⟩) xs.length (fun _ _=>True) () ?_ trivial (fun _ _ _=>?_) (fun i _ aw _ _=>?_)
 ·refine mv _ _ ?_ (fun k o h=>h);simp[Pv.kin,fW,bo]
 ·rw[hE];simp;(with_reducible repeat' first|refine av ?_|simp);refine cO.at (en ε b (.slice 4 .no (bo bs xs k).1)) Ψ az (rH rfl) (fun k cs h=>by simp[Pv.look]at h) (fun k o h=>h) ?_;simp[c8,VZ,ba,bg,aT]
 ·obtain⟨x,db⟩:∃x,xs[i]? =some x:=⟨_,cL aw⟩;have hm:=e1 db;have ae7:=z8 hm;have I:k<=(bo bs (xs.take i) k).2:=kh _ _ _;have J:=BA bs xs k (i+1);have bB:=Bz bs k db;have b9:=Mf bs k db;have bZ:aY ((i:Int)+1):=by unfold aY;omega
  have iE:(bo bs (xs.take i) k).1.length=i:=by rw[mA];simp;omega
  rw[bB]at J;generalize xL:(bo bs xs k).1=Y at*;have kf:=pI (ε:=ε) (b:=b) (sz:=4) (t:= .no) n5;rw[n3]at kf;rw[kf];generalize p3:(bo bs (xs.take i) k).1=M at iE b9;generalize da:(bo bs (xs.take i) k).2=K at bB b9 I J⊢;obtain⟨a,s,ts,gs,rfl,tE,hb,K8⟩:=(af x hm).inv;rw[UO]at bB b9 J;simp only at J;generalize (bo bs (xs.drop (i+1)) _).1=R at b9;have dC:=AH (b:=b+1) (r:=R) (x:= .agg [.int .i64 K,.str (bs (K+1)),.slice 4 .no (bo bs ts (K+1+1)).1,.slice 4 .no (bo bs gs (bo bs ts (K+1+1)).2).1]) iE;rw[<-b9,JQ]at dC;have jT:(ha (b+1) Y).length=xs.length:=by rw[rQ,n3]
  have gj:K+1+1<=(bo bs ts (K+1+1)).2:=kh ..;have ih:(bo bs ts (K+1+1)).2<=(bo bs gs (bo bs ts (K+1+1)).2).2:=kh ..;have cN:=yE (K+1) Ω;have mS:=RU (jv ts) ts (cc _) tE (K+1+1) (b+1+ct M) ε Ω Ω;have tf:Pv.dtL (bo bs ts (K+1+1)).1:=pc _ _ _ (iO.dtL tE);generalize bo bs ts (K+1+1)=Q at tf mS bB b9 dC J gj ih;have jH:=aX gs Ω hb Q.2 (b+1+ct (M++[.slice 4 .no Q.1])) ε Ω Ω;have zi:Pv.dtL (bo bs gs Q.2).1:=pc _ _ _ (j6.dtL hb);have jc:b+1+ct (M++[.slice 4 .no Q.1])=b+1+ct M+bV (.slice 4 .no Q.1):=by rw[FC M 0 [] .no .no Q.1 []];omega
  generalize bo bs gs Q.2=U at zi jH bB b9 dC J ih;generalize cH:eB (b+1+ct M) (.slice 4 .no Q.1)=E at dC mS;generalize nX:eB (b+1+ct M+bV (.slice 4 .no Q.1)) (.slice 4 .no U.1)=iB at dC;generalize mQ:ha (b+1) Y=X at dC jT kf⊢;have mX:∀h,(X[i]'h)= .agg [.int .i64 K,.str (bs (K+1)),E,iB]:=fun h=>by rw[cL h]at dC;exact gB dC
  clear dC;simp[aw,mX,jT];(with_reducible repeat' first|refine av ?_|refine aZ cN ?_|refine a1 cN ?_|simp[mX,jT,aw]);have hs:bD E=E:=by rw[<-cH];exact vp
  have zw:bD iB=iB:=by rw[<-nX];exact vp
  rw[hs];refine CallDo.sub (ε:=ε) (b:=b+1) (l:=M) (r:= .slice 4 .no U.1::R) (y:= .slice 4 .no Q.1) (y':= .slice 4 .no Q.1) (by simp only[cr];exact⟨Ω,tf⟩) rfl mS (fun k o h=>?_) ?_ (fun hg aD hu=>?_)
  ·rw[<-H0 ε (b+1) M R K (bs (K+1)),<-b9]at h;obtain⟨m,rfl,fK,cR⟩:=tP _ _ _ _ _ h;simp only[Pv.look];rw[br (by simp;omega)];exact h
  ·rw[<-cH];simp only[kinL,Pv.kin,and_true];exact qh _ _ (by simp only[cr];exact⟨Ω,tf⟩)
  have kv:=hu (.obj b) (fun⟨m,e,fK,cR⟩=>by cases e;omega);simp only[Pv.look,if_true]at kv;have xZ:¬(Q.2<0):=Ω
  simp[kv,xZ];(with_reducible repeat' first|refine av ?_|simp[kv,mX,jT,aw,xZ]);rw[zw];rw[jc,nX]at jH;refine CallDo.sub (ε:=ε) (b:=b+1) (l:=M++[.slice 4 .no Q.1]) (r:=R) (y:= .slice 4 .no U.1) (y':= .slice 4 .no U.1) (by simp only[cr];exact⟨Ω,zi⟩) rfl (by rw[jc];exact jH) (fun k o h=>?_) ?_ (fun aL fe mW=>?_)
  ·rw[lr]at h;exact aD k o h
  ·rw[jc,<-nX];simp only[kinL,Pv.kin,and_true];exact qh _ _ (by simp only[cr];exact⟨Ω,zi⟩)
  have tG:=mW (.obj b) (fun⟨m,e,fK,cR⟩=>by cases e;omega);rw[kv]at tG;have tF:¬(U.2<0):=Ω
  simp[tF];(with_reducible repeat' first|refine av ?_|simp[tF,bZ]);refine b1.rng () aw ?_ ?_
  ·trivial
  rw[show(bo bs (xs.take (i+1)) k).2=U.2 from bB];have DF:aC.obj b::(gp ε (b+1) Y).map (fun x=>x.1)=ev (en ε b (.slice 4 .no Y)):=by simp[pI n5]
  rw[DF,<-kf];refine mv _ _ ?_ (fun k o h=>?_)
  ·simp[Pv.kin,fW]
  rw[pI n5,n3,mQ]at h;simp only[Pv.look]at h;split at h
  ·rename_i e;subst e;rw[tG,<-h]
  ·rw[b9,H0]at h;refine fe k o ?_;rw[lr];exact h
def qG(p:ae):Prop:= ∃(iJ:List aj) (a0 bH a:Int) (s:List aj) (ts gs:List ae),p= .agg [.str iJ,.int .i64 a0,.int .i64 bH,.int .i64 a,.str s,.slice 4 .no ts,.slice 4 .no gs]/\(∀t∈ts,iO t)/\(∀g∈gs,j6 g)
theorem qG.dtL{bj:List ae}(h:∀p∈bj,qG p):Pv.dtL bj:=FN.2 fun x af=>by obtain⟨iJ,a0,bH,a,s,ts,gs,rfl,aE,aS⟩:=h x af;simp only[cr,Pv.dtL,true_and,and_true];exact⟨⟨Ω,iO.dtL aE⟩,Ω,j6.dtL aS⟩
theorem JR(c:Nat)(iJ:List aj)(a0 bH a:Int)(s:List aj)(t t':iY)(ts gs:List ae):eB c (.agg [.str iJ,.int .i64 a0,.int .i64 bH,.int .i64 a,.str s,.slice 4 t ts,.slice 4 t' gs])= .agg [.str iJ,.int .i64 a0,.int .i64 bH,.int .i64 a,.str s,eB c (.slice 4 t ts),eB (c+bV (.slice 4 t ts)) (.slice 4 t' gs)]:=rfl
theorem Me(cx:Int->List aj)(iJ:List aj)(a0 bH a:Int)(s:List aj)(t t':iY)(ts gs:List ae)(k:Int):dN cx (.agg [.str iJ,.int .i64 a0,.int .i64 bH,.int .i64 a,.str s,.slice 4 t ts,.slice 4 t' gs]) k=(.agg [.str (cx k),.int .i64 (k+1),.int .i64 (k+1+1),.int .i64 (k+1+1+1),.str (cx (k+1+1+1+1)),.slice 4 t (bo cx ts (k+1+1+1+1+1)).1,.slice 4 t' (bo cx gs (bo cx ts (k+1+1+1+1+1)).2).1],(bo cx gs (bo cx ts (k+1+1+1+1+1)).2).2):=by simp[dN,bo]
theorem ajm(ε:Nat->Nat)(c:Nat)(iJ:List aj)(a0 bH a:Int)(s:List aj)(t t':iY)(ts gs:List ae):dB ε c (.agg [.str iJ,.int .i64 a0,.int .i64 bH,.int .i64 a,.str s,.slice 4 t ts,.slice 4 t' gs])=dB ε c (.slice 4 t ts)++dB ε (c+bV (.slice 4 t ts)) (.slice 4 t' gs):=by show []++([]++([]++([]++([]++(dB ε (c+0+0+0+0+0) (.slice 4 t ts)++(dB ε (c+0+0+0+0+0+bV (.slice 4 t ts)) (.slice 4 t' gs)++[]))))))=_;simp
theorem JE(iJ:List aj)(a0 bH a:Int)(s:List aj)(t t':iY)(ts gs:List ae):bV (.agg [.str iJ,.int .i64 a0,.int .i64 bH,.int .i64 a,.str s,.slice 4 t ts,.slice 4 t' gs])=bV (.slice 4 t ts)+bV (.slice 4 t' gs):=by show 0+(0+(0+(0+(0+(bV (.slice 4 t ts)+(bV (.slice 4 t' gs)+0))))))=_;omega
theorem H2(ε:Nat->Nat)(c:Nat)(M R:List ae)(iJ:List aj)(a0 bH a:Int)(s:List aj)(t t':iY)(ts gs:List ae):gp ε c (M++ .agg [.str iJ,.int .i64 a0,.int .i64 bH,.int .i64 a,.str s,.slice 4 t ts,.slice 4 t' gs]::R)=gp ε c (M++ .slice 4 t ts:: .slice 4 t' gs::R):=by rw[zV,zV];simp only[gp];rw[ajm,JE,lr,Nat.add_assoc (c+ct M)]
theorem Md(cx:Int->List aj):∀{xs:List ae} (k:Int),(∀x∈xs,qG x)->k+xs.length<=(bo cx xs k).2
 |[],k,_=>by simp[bo]
 |x::xs,k,h=>by
  obtain⟨iJ,a0,bH,a,s,ts,gs,rfl,_⟩:=h x Ψ;have I:=Md cx (xs:=xs) (dN cx (.agg [.str iJ,.int .i64 a0,.int .i64 bH,.int .i64 a,.str s,.slice 4 .no ts,.slice 4 .no gs]) k).2 fun y bG=>h y (by simp[bG]);have J:k+1<=(dN cx (.agg [.str iJ,.int .i64 a0,.int .i64 bH,.int .i64 a,.str s,.slice 4 .no ts,.slice 4 .no gs]) k).2:=by rw[Me];have bH:=kh cx ts (k+1+1+1+1+1);have a2:=kh cx gs (bo cx ts (k+1+1+1+1+1)).2;simp only;omega
  simp only[bo,gg];omega
theorem akY(k:Int):bW aF 112 [.slice 7 .no [],.int .i64 k] (.int .i64 k):=by refine bI oT Rm Vj fun aG=>?_;unfold Ja;simp;(with_reducible repeat' first|refine av ?_|simp);refine fA (fun i (_:Unit)=>⟨[(0,.slice 7 .no []),(1,.int .i64 k),(5,.int .i64 i)],[],[],0,[]⟩) 0 (fun _ _=>True) () cW trivial (fun _ _ _=>?_) (fun i _ aw _ _=>Ω);exact bY
theorem ac1(k:Int)(b:Nat)(ε:Nat->Nat):b3 aF 112 [eB b (.slice 7 .no []),.int .i64 k] (en ε b (.slice 7 .no [])) fun r al=>r= .int .i64 k/\al=en ε b (.slice 7 .no []):=akY k
theorem akG(k:Int):bW aF 113 [.slice 7 .no [],.int .i64 k] (.int .i64 k):=by refine bI oT Ri Vg fun aG=>?_;unfold I7;simp;(with_reducible repeat' first|refine av ?_|simp);refine fA (fun i (_:Unit)=>⟨[(0,.slice 7 .no []),(1,.int .i64 k),(5,.int .i64 i)],[],[],0,[]⟩) 0 (fun _ _=>True) () cW trivial (fun _ _ _=>?_) (fun i _ aw _ _=>Ω);exact bY
theorem acW(k:Int)(b:Nat)(ε:Nat->Nat):b3 aF 113 [eB b (.slice 7 .no []),.int .i64 k] (en ε b (.slice 7 .no [])) fun r al=>r= .int .i64 k/\al=en ε b (.slice 7 .no []):=akG k
theorem ac0(xs:List ae)(af:∀x∈xs,qG x)(k:Int)(b:Nat)(ε:Nat->Nat)(bz:0<=k)(ab:(bo bs xs k).2<=4611686018427387904):
  b3 aF 112 [eB b (.slice 7 .no xs),.int .i64 k] (en ε b (.slice 7 .no xs)) fun r al=>r= .int .i64 (bo bs xs k).2/\al=en ε b (.slice 7 .no (bo bs xs k).1):=by
 have aI:Pv.dtL xs:=qG.dtL af;have az:hn (en ε b (.slice 7 .no xs)):=o3 (by simp[cr,aI]);by_cases b7:xs=[]
 ·subst b7;exact ac1 k b ε
 have ti:∀i,bV (.slice 7 .no (kS bs xs k i))=bV (.slice 7 .no xs):=fun i=>rM (q7 ..) (L9 ..);have kN:∀i,cr (.slice 7 .no (kS bs xs k i)):=fun i=>by simp only[cr];exact⟨Ω,Ma _ _ _ aI⟩
 have fW:rng b (b+bV (.slice 7 .no xs)) (.obj b):=⟨b,rfl,cc _,by cases xs with|nil=>exact absurd rfl b7|cons x xs=>simp only[bV];omega⟩;refine b3.mk mixed oT Rm Vj Ψ az.obj fun aG b2=>?_;unfold Ja;rw[AI b7];simp;(with_reducible repeat' first|refine av ?_|simp);refine fA (fun i (_:Unit)=>⟨[(0,.row 7 (.obj b) xs.length),(1,.int .i64 (bo bs (xs.take i) k).2),(5,.int .i64 i)],[],dB ε b (.slice 7 .no (kS bs xs k i)),0,ev (en ε b (.slice 7 .no xs))⟩) xs.length (fun _ _=>True) () ?_ trivial (fun _ _ _=>?_) (fun i _ aw _ _=>?_)
 ·refine il.to (kN _) (ti _) ?_ (fun k o h=>by rw[Mc]at h;exact h);simp[Pv.kin,fW,bo]
 ·rw[wJ,hE];simp;(with_reducible repeat' first|refine av ?_|simp);refine cO.at (en ε b (.slice 7 .no (bo bs xs k).1)) Ψ (o3 (by rw[<-wJ];exact kN _)) (rH (by rw[<-wJ];exact ti _)) (fun k cs h=>by simp[Pv.look]at h) (fun k o h=>h) ?_;simp[c8,V5,ba,bg,aT]
 ·obtain⟨x,db⟩:∃x,xs[i]? =some x:=⟨_,cL aw⟩;have hm:=e1 db;have I:k<=(bo bs (xs.take i) k).2:=kh _ _ _;have J:=BA bs xs k (i+1);have bB:=Bz bs k db;have b9:=L8 bs k db;have ee:=Mb bs k db;have iE:(bo bs (xs.take i) k).1.length=i:=by rw[mA];simp;omega
  have mv:=fun(t':List (Nat×ae)) (st:aU)=>il.to (t':=t') (st:=st) (ε:=ε) (b:=b) (kN (i+1)) (ti (i+1));rw[bB]at J;have hlen:((bo bs (xs.take i) k).1++x::xs.drop (i+1)).length=xs.length:=by rw[<-b9];exact q7 ..
  have Dz:=Md bs (xs:=xs) k af;have bZ:aY ((i:Int)+1):=by unfold aY;omega
  have n2:=q7 bs xs k (i+1);rw[b9,pI (xs:=_++x::_) Ψ,hlen];rw[ee]at n2;generalize p3:(bo bs (xs.take i) k).1=M at iE b9 ee n2⊢;generalize da:(bo bs (xs.take i) k).2=K at bB ee I J n2⊢;generalize bt:xs.drop (i+1)=R at b9 ee n2⊢;obtain⟨iJ,a0,bH,a,s,ts,gs,rfl,tE,hb⟩:=af x hm;have dC:=AH (b:=b+1) (r:=R) (x:= .agg [.str iJ,.int .i64 a0,.int .i64 bH,.int .i64 a,.str s,.slice 4 .no ts,.slice 4 .no gs]) iE;have jT:(ha (b+1) (M++ .agg [.str iJ,.int .i64 a0,.int .i64 bH,.int .i64 a,.str s,.slice 4 .no ts,.slice 4 .no gs]::R)).length=xs.length:=by rw[rQ,<-b9];exact q7 ..
  rw[JR]at dC;rw[Me]at bB ee J n2;have zx:Pv.dtL ts:=iO.dtL tE;have Dr:Pv.dtL gs:=j6.dtL hb;have gj:K+1+1+1+1+1<=(bo bs ts (K+1+1+1+1+1)).2:=kh ..;have ih:(bo bs ts (K+1+1+1+1+1)).2<=(bo bs gs (bo bs ts (K+1+1+1+1+1)).2).2:=kh ..;simp only at J;have cN:=yE K Ω;have D7:=yE (K+1+1+1+1) Ω;have mS:=RY (jv ts) ts (cc _) tE (K+1+1+1+1+1) (b+1+ct M) ε Ω Ω;have rV:(bo bs ts (K+1+1+1+1+1)).1.length=ts.length:=mA ..;have wv:ct (bo bs ts (K+1+1+1+1+1)).1=ct ts:=rN ..;have tf:Pv.dtL (bo bs ts (K+1+1+1+1+1)).1:=pc _ _ _ zx;generalize bo bs ts (K+1+1+1+1+1)=Q at rV wv tf mS bB ee J gj ih n2;have jd:bV (.slice 4 .no Q.1)=bV (.slice 4 .no ts):=rM rV wv;have jH:=acZ (jv gs) gs (cc _) hb Q.2 (b+1+ct (M++[.slice 4 .no Q.1])) ε Ω Ω;have jc:b+1+ct (M++[.slice 4 .no Q.1])=b+1+ct M+bV (.slice 4 .no ts):=by rw[FC M 0 [] .no .no Q.1 [],jd];omega
  have eM:(bo bs gs Q.2).1.length=gs.length:=mA ..;have DI:ct (bo bs gs Q.2).1=ct gs:=rN ..;generalize bo bs gs Q.2=U at eM DI jH bB ee J ih n2;have kt:bV (.slice 4 .no U.1)=bV (.slice 4 .no gs):=rM eM DI;generalize cH:eB (b+1+ct M) (.slice 4 .no ts)=E at dC mS;generalize nX:eB (b+1+ct M+bV (.slice 4 .no ts)) (.slice 4 .no gs)=iB at dC;generalize mQ:ha (b+1) (M++ .agg [.str iJ,.int .i64 a0,.int .i64 bH,.int .i64 a,.str s,.slice 4 .no ts,.slice 4 .no gs]::R)=X at dC jT⊢;have mX:∀h,(X[i]'h)= .agg [.str iJ,.int .i64 a0,.int .i64 bH,.int .i64 a,.str s,E,iB]:=fun h=>by rw[cL h]at dC;exact gB dC
  clear dC;rw[H2];simp[aw,mX,jT];(with_reducible repeat' first|refine av ?_|refine aZ cN ?_|refine a1 cN ?_|refine aZ D7 ?_|refine a1 D7 ?_|simp[mX,jT,aw]);have hs:bD E=E:=by rw[<-cH];exact vp
  rw[hs];refine CallDo.sub (ε:=ε) (b:=b+1) (l:=M) (r:= .slice 4 .no gs::R) (y:= .slice 4 .no ts) (y':= .slice 4 .no Q.1) (by simp only[cr];exact⟨Ω,zx⟩) jd mS (fun k o h=>?_) ?_ (fun hg aD hu=>?_)
  ·obtain⟨m,rfl,fK,cR⟩:=tP _ _ _ _ _ h;simp only[Pv.look];rw[br (by simp;omega)];exact h
  ·rw[<-cH];simp only[kinL,Pv.kin,and_true];exact qh _ _ (by simp only[cr];exact⟨Ω,zx⟩)
  have kv:=hu (.obj b) (fun⟨m,e,fK,cR⟩=>by cases e;omega);simp only[Pv.look,if_true]at kv;have adC:i<X.length:=Ω
  have fh:∀h,((X.set i (.agg [.str (bs K),.int .i64 (K+1),.int .i64 (K+1+1),.int .i64 (K+1+1+1),.str (bs (K+1+1+1+1)),E,iB]))[i]'h)= .agg [.str (bs K),.int .i64 (K+1),.int .i64 (K+1+1),.int .i64 (K+1+1+1),.str (bs (K+1+1+1+1)),E,iB]:=fun h=>by simp
  simp[kv];(with_reducible repeat' first|refine av ?_|simp[kv,fh,jT,aw]);have zw:bD iB=iB:=by rw[<-nX];exact vp
  rw[zw];rw[jc,nX]at jH;refine CallDo.sub (ε:=ε) (b:=b+1) (l:=M++[.slice 4 .no Q.1]) (r:=R) (y:= .slice 4 .no gs) (y':= .slice 4 .no U.1) (by simp only[cr];exact⟨Ω,Dr⟩) kt (by rw[jc];exact jH) (fun k o h=>?_) ?_ (fun aL fe mW=>?_)
  ·rw[lr]at h;exact aD k o h
  ·rw[jc,<-nX];simp only[kinL,Pv.kin,and_true];exact qh _ _ (by simp only[cr];exact⟨Ω,Dr⟩)
  have tG:=mW (.obj b) (fun⟨m,e,fK,cR⟩=>by cases e;omega);rw[kv]at tG;simp;(with_reducible repeat' first|refine av ?_|simp[bZ]);refine b1.rng () aw ?_ ?_
  ·trivial
  rw[show(bo bs (xs.take (i+1)) k).2=U.2 from bB];refine mv _ _ (by simp[Pv.kin,fW]) fun k o h=>?_;rw[ee,pI Ψ]at h;simp only[Pv.look]at h;split at h
  ·rename_i e;subst e;rw[tG,<-h,<-mQ,<-cH,<-nX,<-AJ rV,<-AJ (sz:=4) (t:= .no) eM,<-jd,<-JR (b+1+ct M) (bs K) (K+1) (K+1+1) (K+1+1+1) (bs (K+1+1+1+1)),JP iE (by rw[JE,JE,jd,kt]),n2]
  ·rw[H2]at h;refine fe k o ?_;rw[lr];exact h
theorem acV(xs:List ae)(af:∀x∈xs,qG x)(k:Int)(b:Nat)(ε:Nat->Nat)(bz:0<=k)(ab:(bo bs xs k).2<=4611686018427387904):
  b3 aF 113 [eB b (.slice 7 .no (bo bs xs k).1),.int .i64 k] (en ε b (.slice 7 .no (bo bs xs k).1)) fun r al=>r= .int .i64 (bo bs xs k).2/\al=en ε b (.slice 7 .no (bo bs xs k).1):=by
 have aI:Pv.dtL (bo bs xs k).1:=pc _ _ _ (qG.dtL af);have kN:cr (.slice 7 .no (bo bs xs k).1):=by simp only[cr];exact⟨Ω,aI⟩
 have az:hn (en ε b (.slice 7 .no (bo bs xs k).1)):=o3 kN;by_cases b7:xs=[]
 ·subst b7;exact acW k b ε
 have n3:(bo bs xs k).1.length=xs.length:=mA ..;have n5:(bo bs xs k).1≠[]:=fun e=>b7 (List.length_eq_zero_iff.1 (by rw[<-n3,e];rfl));have Dz:=Md bs (xs:=xs) k af;have fW:rng b (b+bV (.slice 7 .no (bo bs xs k).1)) (.obj b):=⟨b,rfl,cc _,by revert n5;cases (bo bs xs k).1 with|nil=>exact fun h=>absurd rfl h|cons x xs=>intro _;simp only[bV];omega⟩;have mv:=fun(t':List (Nat×ae)) (st:aU)=>il.to (t':=t') (st:=st) (ε:=ε) (b:=b) kN rfl;refine b3.mk mixed oT Ri Vg Ψ az.obj fun aG b2=>?_;unfold I7;rw[AI n5,n3];simp;(with_reducible repeat' first|refine av ?_|simp);refine fA (fun i (_:Unit)=>⟨[(0,.row 7 (.obj b) xs.length),(1,.int .i64 (bo bs (xs.take i) k).2),(5,.int .i64 i)],[],dB ε b (.slice 7 .no (bo bs xs k).1),0,ev (en ε b (.slice 7 .no (bo bs xs k).1))⟩) xs.length (fun _ _=>True) () ?_ trivial (fun _ _ _=>?_) (fun i _ aw _ _=>?_)
 ·refine mv _ _ ?_ (fun k o h=>h);simp[Pv.kin,fW,bo]
 ·rw[hE];simp;(with_reducible repeat' first|refine av ?_|simp);refine cO.at (en ε b (.slice 7 .no (bo bs xs k).1)) Ψ az (rH rfl) (fun k cs h=>by simp[Pv.look]at h) (fun k o h=>h) ?_;simp[c8,V1,ba,bg,aT]
 ·obtain⟨x,db⟩:∃x,xs[i]? =some x:=⟨_,cL aw⟩;have hm:=e1 db;have I:k<=(bo bs (xs.take i) k).2:=kh _ _ _;have J:=BA bs xs k (i+1);have bB:=Bz bs k db;have b9:=Mf bs k db;have bZ:aY ((i:Int)+1):=by unfold aY;omega
  have iE:(bo bs (xs.take i) k).1.length=i:=by rw[mA];simp;omega
  rw[bB]at J;generalize xL:(bo bs xs k).1=Y at*;have kf:=pI (ε:=ε) (b:=b) (sz:=7) (t:= .no) n5;rw[n3]at kf;rw[kf];generalize p3:(bo bs (xs.take i) k).1=M at iE b9;generalize da:(bo bs (xs.take i) k).2=K at bB b9 I J⊢;obtain⟨iJ,a0,bH,a,s,ts,gs,rfl,tE,hb⟩:=af x hm;rw[Me]at bB b9 J;simp only at J;generalize (bo bs (xs.drop (i+1)) _).1=R at b9;have dC:=AH (b:=b+1) (r:=R) (x:= .agg [.str (bs K),.int .i64 (K+1),.int .i64 (K+1+1),.int .i64 (K+1+1+1),.str (bs (K+1+1+1+1)),.slice 4 .no (bo bs ts (K+1+1+1+1+1)).1,.slice 4 .no (bo bs gs (bo bs ts (K+1+1+1+1+1)).2).1]) iE;rw[<-b9,JR]at dC;have jT:(ha (b+1) Y).length=xs.length:=by rw[rQ,n3]
  have gj:K+1+1+1+1+1<=(bo bs ts (K+1+1+1+1+1)).2:=kh ..;have ih:(bo bs ts (K+1+1+1+1+1)).2<=(bo bs gs (bo bs ts (K+1+1+1+1+1)).2).2:=kh ..;have cN:=yE K Ω;have D7:=yE (K+1+1+1+1) Ω;have mS:=RU (jv ts) ts (cc _) tE (K+1+1+1+1+1) (b+1+ct M) ε Ω Ω;have tf:Pv.dtL (bo bs ts (K+1+1+1+1+1)).1:=pc _ _ _ (iO.dtL tE);generalize bo bs ts (K+1+1+1+1+1)=Q at tf mS bB b9 dC J gj ih;have jH:=acT (jv gs) gs (cc _) hb Q.2 (b+1+ct (M++[.slice 4 .no Q.1])) ε Ω Ω;have zi:Pv.dtL (bo bs gs Q.2).1:=pc _ _ _ (j6.dtL hb);have jc:b+1+ct (M++[.slice 4 .no Q.1])=b+1+ct M+bV (.slice 4 .no Q.1):=by rw[FC M 0 [] .no .no Q.1 []];omega
  generalize bo bs gs Q.2=U at zi jH bB b9 dC J ih;generalize cH:eB (b+1+ct M) (.slice 4 .no Q.1)=E at dC mS;generalize nX:eB (b+1+ct M+bV (.slice 4 .no Q.1)) (.slice 4 .no U.1)=iB at dC;generalize mQ:ha (b+1) Y=X at dC jT kf⊢;have mX:∀h,(X[i]'h)= .agg [.str (bs K),.int .i64 (K+1),.int .i64 (K+1+1),.int .i64 (K+1+1+1),.str (bs (K+1+1+1+1)),E,iB]:=fun h=>by rw[cL h]at dC;exact gB dC
  clear dC;simp[aw,mX,jT];(with_reducible repeat' first|refine av ?_|refine aZ cN ?_|refine a1 cN ?_|refine aZ D7 ?_|refine a1 D7 ?_|simp[mX,jT,aw]);have hs:bD E=E:=by rw[<-cH];exact vp
  have zw:bD iB=iB:=by rw[<-nX];exact vp
  rw[hs];refine CallDo.sub (ε:=ε) (b:=b+1) (l:=M) (r:= .slice 4 .no U.1::R) (y:= .slice 4 .no Q.1) (y':= .slice 4 .no Q.1) (by simp only[cr];exact⟨Ω,tf⟩) rfl mS (fun k o h=>?_) ?_ (fun hg aD hu=>?_)
  ·rw[<-H2 ε (b+1) M R (bs K) (K+1) (K+1+1) (K+1+1+1) (bs (K+1+1+1+1)),<-b9]at h;obtain⟨m,rfl,fK,cR⟩:=tP _ _ _ _ _ h;simp only[Pv.look];rw[br (by simp;omega)];exact h
  ·rw[<-cH];simp only[kinL,Pv.kin,and_true];exact qh _ _ (by simp only[cr];exact⟨Ω,tf⟩)
  have kv:=hu (.obj b) (fun⟨m,e,fK,cR⟩=>by cases e;omega);simp only[Pv.look,if_true]at kv;have xZ:¬(Q.2<0):=Ω
  simp[kv,xZ];(with_reducible repeat' first|refine av ?_|simp[kv,mX,jT,aw,xZ]);rw[zw];rw[jc,nX]at jH;refine CallDo.sub (ε:=ε) (b:=b+1) (l:=M++[.slice 4 .no Q.1]) (r:=R) (y:= .slice 4 .no U.1) (y':= .slice 4 .no U.1) (by simp only[cr];exact⟨Ω,zi⟩) rfl (by rw[jc];exact jH) (fun k o h=>?_) ?_ (fun aL fe mW=>?_)
  ·rw[lr]at h;exact aD k o h
  ·rw[jc,<-nX];simp only[kinL,Pv.kin,and_true];exact qh _ _ (by simp only[cr];exact⟨Ω,zi⟩)
  have tG:=mW (.obj b) (fun⟨m,e,fK,cR⟩=>by cases e;omega);rw[kv]at tG;have tF:¬(U.2<0):=Ω
  simp[tF];(with_reducible repeat' first|refine av ?_|simp[tF,bZ]);refine b1.rng () aw ?_ ?_
  ·trivial
  rw[show(bo bs (xs.take (i+1)) k).2=U.2 from bB];have DF:aC.obj b::(gp ε (b+1) Y).map (fun x=>x.1)=ev (en ε b (.slice 7 .no Y)):=by simp[pI n5]
  rw[DF,<-kf];refine mv _ _ ?_ (fun k o h=>?_)
  ·simp[Pv.kin,fW]
  rw[pI n5,n3,mQ]at h;simp only[Pv.look]at h;split at h
  ·rename_i e;subst e;rw[tG,<-h]
  ·rw[b9,H2]at h;refine fe k o ?_;rw[lr];exact h
theorem BN(b sz:Nat)(ys:List ae):gO [eB b (.slice sz .no ys)]=true:=by
 cases ys with
 |nil=>rfl
 |cons y ys=>rfl
theorem AK(c:Nat)(t:iY)(ys:List ae):eB c (.agg [.slice 7 t ys])= .agg [eB c (.slice 7 t ys)]:=rfl
theorem WM(ε:Nat->Nat)(c:Nat)(t:iY)(ys:List ae):dB ε c (.agg [.slice 7 t ys])=dB ε c (.slice 7 t ys):=by show dB ε c (.slice 7 t ys)++[]=_;simp
theorem FE(t:iY)(ys:List ae):bV (.agg [.slice 7 t ys])=bV (.slice 7 t ys):=by show bV (.slice 7 t ys)+0=_;omega
theorem RX(ys:List ae)(bG:∀y∈ys,qG y)(k:Int)(b:Nat)(ε:Nat->Nat)(bz:0<=k)(ab:(bo bs ys k).2<=4611686018427387904):
  b3 aF 40 [eB b (.agg [.slice 7 .no ys]),.int .i64 k] (en ε b (.agg [.slice 7 .no ys])) fun r al=>r= .int .i64 (bo bs ys k).2/\al=en ε b (.agg [.slice 7 .no (bo bs ys k).1]):=by
 have u6:Pv.dtL ys:=qG.dtL bG;have aI:cr (.slice 7 .no ys):=by simp only[cr];exact⟨Ω,u6⟩
 have p6:cr (.slice 7 .no (bo bs ys k).1):=JM bs (.slice 7 .no ys) k aI;have aK:=ac0 ys bG k b ε bz ab;have bp:bV (.slice 7 .no (bo bs ys k).1)=bV (.slice 7 .no ys):=rM (mA ..) (rN ..);simp only[en,WM];rw[AK];have az:hn (en ε b (.slice 7 .no ys)):=o3 aI;generalize bo bs ys k=Q at aK bp p6;refine b3.mk mixed oT abW ahz Ψ az.obj fun aG b2=>?_;unfold PQ;simp;((with_reducible repeat' first|refine av ?_|simp|((first|apply dt|apply dx|apply dw)<;>intro h<;>try simp at h))<;>(try exact dQ));try refine⟨BN _ _ _,?_⟩
 refine CallDo.ob aK az (fun k cs h=>by simp[Pv.look]at h) (fun k o h=>?_) ?_ ?_
 ·exact h
 ·simp only[kinL,and_true];exact⟨OP aI,by simp[Pv.kin]⟩
 rintro r al ⟨rfl,rfl⟩;refine⟨rH bp,?_⟩;simp;(with_reducible repeat' first|refine av ?_|simp);refine cO.at (en ε b (.slice 7 .no Q.1)) Ψ (o3 p6) (rH bp) (fun k cs h=>by simp[Pv.look]at h) (fun k o h=>?_) ?_
 ·rw[yI];exact h
 simp[c8,V4,ba,bg,aT]
theorem acU(ys:List ae)(bG:∀y∈ys,qG y)(k:Int)(b:Nat)(ε:Nat->Nat)(bz:0<=k)(ab:(bo bs ys k).2<=4611686018427387904):
  b3 aF 41 [eB b (.agg [.slice 7 .no (bo bs ys k).1]),.int .i64 k] (en ε b (.agg [.slice 7 .no (bo bs ys k).1])) fun r al=>r= .int .i64 (bo bs ys k).2/\al=en ε b (.agg [.slice 7 .no (bo bs ys k).1]):=by
 have u6:Pv.dtL ys:=qG.dtL bG;have aI:cr (.slice 7 .no ys):=by simp only[cr];exact⟨Ω,u6⟩
 have p6:cr (.slice 7 .no (bo bs ys k).1):=JM bs (.slice 7 .no ys) k aI;have aK:=acV ys bG k b ε bz ab;have hle:k<=(bo bs ys k).2:=kh ..;simp only[en,WM];rw[AK];have az:hn (en ε b (.slice 7 .no (bo bs ys k).1)):=o3 p6;generalize bo bs ys k=Q at aK p6 az hle;have aM:¬Q.2<0:=Ω
 refine b3.mk mixed oT abV ahy Ψ az.obj fun aG b2=>?_;unfold PO;simp;((with_reducible repeat' first|refine av ?_|simp|((first|apply dt|apply dx|apply dw)<;>intro h<;>try simp at h))<;>(try exact dQ));try refine⟨BN _ _ _,?_⟩
 refine CallDo.ob aK az (fun k cs h=>by simp[Pv.look]at h) (fun k o h=>?_) ?_ ?_
 ·exact h
 ·simp only[kinL,and_true];exact⟨OP p6,by simp[Pv.kin]⟩
 rintro r al ⟨rfl,rfl⟩;refine⟨rH rfl,?_⟩;simp[aM];(with_reducible repeat' first|refine av ?_|simp[aM]);refine cO.at (en ε b (.slice 7 .no Q.1)) Ψ (o3 p6) (rH rfl) (fun k cs h=>by simp[Pv.look]at h) (fun k o h=>?_) ?_
 ·rw[yI];exact h
 simp[c8,V0,ba,bg,aT]
end
end Go.Proofs.YtlnndmgfngfeiaaGreatDoor
namespace Go.Pv
section
open Go
inductive Tm where
 |mk (kind n:Int) (name:List aj) (args:List Tm)
def Tm.kind:Tm->Int| .mk k _ _ _=>k
def Tm.num:Tm->Int| .mk _ n _ _=>n
def Tm.name:Tm->List aj| .mk _ _ s _=>s
def Tm.args:Tm->List Tm| .mk _ _ _ a=>a
mutual
def enc:Tm->ae
 | .mk k n s a=>.agg [.int .i64 k,.int .i64 n,.str s,.slice 4 .no (mj a)]
def mj:List Tm->List ae
 |[]=>[]
 |x::xs=>enc x::mj xs
end
theorem AM:∀l,mj l=l.map enc
 |[]=>rfl
 |x::xs=>by simp[mj,AM xs]
theorem AN(t:Tm):enc t= .agg [.int .i64 t.kind,.int .i64 t.num,.str t.name,.slice 4 .no (t.args.map enc)]:=by cases t;simp[enc,AM,Tm.kind,Tm.num,Tm.name,Tm.args]
mutual
theorem Uj(S:aC->Prop):∀t:Tm,kin S (enc t)
 | .mk k n s a=>by simp[enc,kin,kinL,LK S a]
theorem LK(S:aC->Prop):∀l:List Tm,kinL S (mj l)
 |[]=>by simp[mj,kinL]
 |x::xs=>by simp[mj,kinL,Uj S x,LK S xs]
end
mutual
theorem W4:∀t:Tm,bD (enc t)=enc t
 | .mk k n s a=>by simp[enc,bD,bC,NG a]
theorem NG:∀l:List Tm,bC (mj l)=mj l
 |[]=>by simp[mj,bC]
 |x::xs=>by simp[mj,bC,W4 x,NG xs]
end
@[simp]theorem aom(S:aC->Prop)(t:Tm):kin S (enc t)=True:=eq_true (Uj S t)
@[simp]theorem aof(S:aC->Prop)(l:List Tm):kinL S (l.map enc)=True:=by rw[<-AM];exact eq_true (LK S l)
theorem ajP(l:List Tm):bC (l.map enc)=l.map enc:=by rw[<-AM];exact NG l
attribute [simp] W4 ajP
@[simp]theorem aps(t:Tm):eV (enc t)=true:=by rw[AN];rfl
@[simp]theorem amr(t:Tm):cells (enc t)=[.int .i64 t.kind,.int .i64 t.num,.str t.name,.slice 4 .no (t.args.map enc)]:=by rw[AN];rfl
@[simp]theorem alQ(t:Tm):ae.agg [.int .i64 t.kind,.int .i64 t.num,.str t.name,.slice 4 .no (t.args.map enc)]=enc t:=(AN t).symm
@[simp]theorem am0(off:Nat)(fi:Bool)(sz:Nat)(t:Tm):pf off fi sz (.eptr (enc t))=if fi then some (off+sz<=4,.eptr (.agg (([.int .i64 t.kind,.int .i64 t.num,.str t.name,.slice 4 .no (t.args.map enc)].drop off).take sz)))else(([.int .i64 t.kind,.int .i64 t.num,.str t.name,.slice 4 .no (t.args.map enc)]:List ae)[off]?).map fun p=>(eV p=true/\cells p=[p],.eptr p):=by rw[AN];rfl
@[simp]theorem an0(t:Tm):Pv.isAgg 4 (enc t):=by rw[AN];exact⟨_,rfl,rfl⟩
inductive T where
 |nil
 |var (n:Int)
 |sym (s:List aj)
 |num (n:Int)
 |pair (a b:T)
 deriving DecidableEq,Inhabited
def T.tm:T->Tm
 | .nil=>.mk 0 0 [] []
 | .var n=>.mk 1 n [] []
 | .sym s=>.mk 2 0 s []
 | .num n=>.mk 3 n [] []
 | .pair a b=>.mk 4 0 [] [a.tm,b.tm]
def T.e:T->ae
 | .nil=>.agg [.int .i64 0,.int .i64 0,.str [],.slice 4 .no []]
 | .var n=>.agg [.int .i64 1,.int .i64 n,.str [],.slice 4 .no []]
 | .sym s=>.agg [.int .i64 2,.int .i64 0,.str s,.slice 4 .no []]
 | .num n=>.agg [.int .i64 3,.int .i64 n,.str [],.slice 4 .no []]
 | .pair a b=>.agg [.int .i64 4,.int .i64 0,.str [],.slice 4 .no [a.e,b.e]]
theorem sX:∀t:T,enc t.tm=t.e
 | .nil| .var _| .sym _| .num _=>rfl
 | .pair a b=>by simp[T.tm,enc,mj,T.e,sX a,sX b]
def T.kind:T->Int
 | .nil=>0| .var _=>1| .sym _=>2| .num _=>3| .pair _ _=>4
def T.int:T->Int
 | .var n=>n| .num n=>n|_=>0
def T.name:T->List aj
 | .sym s=>s|_=>[]
def T.args:T->List T
 | .pair a b=>[a,b]|_=>[]
theorem T.e_eq(t:T):t.e= .agg [.int .i64 t.kind,.int .i64 t.int,.str t.name,.slice 4 .no (t.args.map T.e)]:=by cases t<;>rfl
@[simp]theorem alP(t:T):ae.agg [.int .i64 t.kind,.int .i64 t.int,.str t.name,.slice 4 .no (t.args.map T.e)]=t.e:=(T.e_eq t).symm
@[simp]theorem alU:ae.agg [.int .i64 0,.int .i64 0,.str [],.slice 4 .no []]=T.nil.e:=rfl
@[simp]theorem al1(n:Int):ae.agg [.int .i64 1,.int .i64 n,.str [],.slice 4 .no []]=(T.var n).e:=rfl
@[simp]theorem al0(s:List aj):ae.agg [.int .i64 2,.int .i64 0,.str s,.slice 4 .no []]=(T.sym s).e:=rfl
@[simp]theorem alV(n:Int):ae.agg [.int .i64 3,.int .i64 n,.str [],.slice 4 .no []]=(T.num n).e:=rfl
@[simp]theorem alW(a b:T):ae.agg [.int .i64 4,.int .i64 0,.str [],.slice 4 .no [a.e,b.e]]=(T.pair a b).e:=rfl
@[simp]theorem aow:(T.nil).kind=0:=rfl
@[simp]theorem anR:(T.nil).int=0:=rfl
@[simp]theorem aoR:(T.nil).name=[]:=rfl
@[simp]theorem al2:(T.nil).args=[]:=rfl
@[simp]theorem aoA(n:Int):(T.var n).kind=1:=rfl
@[simp]theorem anV(n:Int):(T.var n).int=n:=rfl
@[simp]theorem aoV(n:Int):(T.var n).name=[]:=rfl
@[simp]theorem al6(n:Int):(T.var n).args=[]:=rfl
@[simp]theorem aoz(s:List aj):(T.sym s).kind=2:=rfl
@[simp]theorem anU(s:List aj):(T.sym s).int=0:=rfl
@[simp]theorem aoU(s:List aj):(T.sym s).name=s:=rfl
@[simp]theorem al5(s:List aj):(T.sym s).args=[]:=rfl
@[simp]theorem aox(n:Int):(T.num n).kind=3:=rfl
@[simp]theorem anS(n:Int):(T.num n).int=n:=rfl
@[simp]theorem aoS(n:Int):(T.num n).name=[]:=rfl
@[simp]theorem al3(n:Int):(T.num n).args=[]:=rfl
@[simp]theorem aoy(a b:T):(T.pair a b).kind=4:=rfl
@[simp]theorem anT(a b:T):(T.pair a b).int=0:=rfl
@[simp]theorem aoT(a b:T):(T.pair a b).name=[]:=rfl
@[simp]theorem al4(a b:T):(T.pair a b).args=[a,b]:=rfl
@[simp]theorem aol(S:aC->Prop)(t:T):kin S t.e=True:=by rw[<-sX];simp
@[simp]theorem apS(t:T):bD t.e=t.e:=by rw[<-sX];simp
theorem Ug(S:aC->Prop):∀l:List T,kinL S (l.map T.e)
 |[]=>by simp[kinL]
 |x::xs=>by simp[kinL,Ug S xs]
@[simp]theorem aoe(S:aC->Prop)(l:List T):kinL S (l.map T.e)=True:=eq_true (Ug S l)
@[simp]theorem ajO:∀l:List T,bC (l.map T.e)=l.map T.e
 |[]=>rfl
 |x::xs=>by simp[bC,ajO xs]
@[simp]theorem apr(t:T):eV t.e=true:=by rw[T.e_eq];rfl
@[simp]theorem Zg(t:T):cells t.e=[.int .i64 t.kind,.int .i64 t.int,.str t.name,.slice 4 .no (t.args.map T.e)]:=by rw[T.e_eq];rfl
@[simp]theorem anZ(t:T):Pv.isAgg 4 t.e:=by rw[T.e_eq];exact⟨_,rfl,rfl⟩
def T.size:T->Nat
 | .pair a b=>1+a.size+b.size
 |_=>1
theorem T.size_pos(t:T):1<=t.size:=by cases t<;>simp[T.size]<;>omega
def low(b:aj):Bool:=decide (97<=b.toNat/\b.toNat<=122)
def mw(b:aj):Bool:=low b||decide (48<=b.toNat/\b.toNat<=57)||b.toNat==45
def gb(s:List aj):Bool:=decide (1<=s.length/\s.length<=12)&&low (s.getD 0 0)&&(s.drop 1).all mw
def T.ok:T->Bool
 | .nil=>true
 | .var n=>decide (0<=n/\n<=100000)
 | .sym s=>gb s
 | .num n=>decide (-1000000000<=n/\n<=1000000000)
 | .pair a b=>a.ok&&b.ok
def l1(k n:Int)(s:List aj):Bool:=if k=0 then n==0&&s==[]else if k=1 then decide (0<=n/\n<=100000)&&s==[]else if k=2 then n==0&&gb s else if k=3 then decide (-1000000000<=n/\n<=1000000000)&&s==[]else false
def gf:Tm->Int->Int
 | .mk k n s [a,b],room=>if room<1\/k≠4\/n≠0\/s≠[]then-1 else if gf a (room-1)<0 then-1 else if gf b (room-1-gf a (room-1))<0 then-1 else 1+gf a (room-1)+gf b (room-1-gf a (room-1))
 | .mk k n s args,room=>if room<1\/k=4\/args≠[]\/l1 k n s=false then-1 else 1
theorem Mp(k n:Int)(s:List aj)(args:List Tm)(room:Int):gf (.mk k n s args) room=if room<1 then-1 else if k≠4 then(if args≠[]then-1 else if l1 k n s then 1 else-1)else if n≠0\/s≠[]then-1 else match args with
  |[a,b]=>if gf a (room-1)<0 then-1 else if gf b (room-1-gf a (room-1))<0 then-1 else 1+gf a (room-1)+gf b (room-1-gf a (room-1))
  |_=> -1:=by
 match args with
 |[]=>simp only[gf];by_cases I:room<1<;>by_cases J:k=4<;>by_cases au:l1 k n s=true<;>simp[I,J,au]
 |[a]=>simp[gf]
 |[a,b]=>simp only[gf];by_cases I:room<1<;>by_cases J:k=4<;>simp[I,J]
 |a::b::c::r=>simp[gf]
theorem Mo:∀(t:T) (room:Int),gf t.tm room=if t.ok=true/\(t.size:Int)<=room then(t.size:Int)else-1
 | .nil,room=>by simp[T.tm,gf,T.ok,T.size,l1];split<;>rename_i h<;>simp_all<;>omega
 | .var n,room=>by simp[T.tm,gf,T.ok,T.size,l1];split<;>split<;>simp_all<;>omega
 | .sym s,room=>by simp[T.tm,gf,T.ok,T.size,l1];by_cases I:room<1<;>by_cases J:gb s=true<;>simp[I,J]<;>omega
 | .num n,room=>by simp[T.tm,gf,T.ok,T.size,l1];split<;>split<;>simp_all<;>omega
 | .pair a b,room=>by
  have bL:=a.size_pos;have ah:=b.size_pos;simp only[T.tm,gf,Mo a,Mo b,T.ok,T.size,bJ];by_cases I:room<1
  ·simp[I];omega
  ·by_cases J:a.ok=true/\(a.size:Int)<=room-1
   ·rw[if_pos J];by_cases au:b.ok=true/\(b.size:Int)<=room-1-a.size
    ·rw[if_pos au];simp[I,J.1,au.1];split<;>omega
    ·rw[br au];simp[I,J.1];intro ks;have:=au;simp[ks]at this;omega
   ·rw[br J];simp[I];intro A5;have:=J;simp[A5]at this;omega
theorem Hq:∀(t:Tm) (room:Int),gf t room= -1\/1<=gf t room
 | .mk k n s [a,b],room=>by
  simp only[gf];split
  ·exact .inl rfl
  ·split
   ·exact .inl rfl
   ·split
    ·exact .inl rfl
    ·right;omega
 | .mk k n s [],room=>by simp only[gf];split<;>simp
 | .mk k n s [a],room=>by simp[gf]
 | .mk k n s (a::b::c::r),room=>by simp[gf]
theorem Mr:∀(t:Tm) (room:Int),0<gf t room->∃x:T,x.tm=t
 | .mk k n s [a,b],room,h=>by
  simp only[gf]at h;split at h
  ·omega
  ·rename_i I;simp only[not_or,Int.not_lt,ne_eq,aqe]at I;obtain⟨I,rfl,rfl,rfl⟩:=I;split at h
   ·omega
   ·split at h
    ·omega
    ·obtain⟨x,rfl⟩:=Mr a (room-1) (by rcases Hq a (room-1)with h|h<;>omega);obtain⟨y,rfl⟩:=Mr b (room-1-gf x.tm (room-1)) (by rcases Hq b (room-1-gf x.tm (room-1))with h|h<;>omega);exact⟨.pair x y,rfl⟩
 | .mk k n s [],room,h=>by
  simp only[gf]at h;split at h
  ·omega
  ·rename_i I;simp only[not_or,ne_eq,not_true_eq_false,not_false_eq_true,true_and,Bool.not_eq_false]at I;obtain⟨_,_,I⟩:=I;unfold l1 at I;split at I
   ·rename_i e;subst e;simp at I;obtain⟨rfl,rfl⟩:=I;exact⟨.nil,rfl⟩
   ·split at I
    ·rename_i e;subst e;simp at I;obtain⟨_,rfl⟩:=I;exact⟨.var n,rfl⟩
    ·split at I
     ·rename_i e;subst e;simp at I;obtain⟨rfl,_⟩:=I;exact⟨.sym s,rfl⟩
     ·split at I
      ·rename_i e;subst e;simp at I;obtain⟨_,rfl⟩:=I;exact⟨.num n,rfl⟩
      ·cases I
 | .mk k n s [a],room,h=>by simp[gf]at h
 | .mk k n s (a::b::c::r),room,h=>by simp[gf]at h
theorem Mq:∀(t:Tm) (room:Int),gf t room<=room\/gf t room= -1
 | .mk k n s [a,b],room=>by
  simp only[gf];split
  ·exact .inr rfl
  ·split
   ·exact .inr rfl
   ·split
    ·exact .inr rfl
    ·rcases Mq b (room-1-gf a (room-1))with h|h<;>omega
 | .mk k n s [],room=>by simp only[gf];split<;>simp;rename_i h;omega
 | .mk k n s [a],room=>by simp[gf]
 | .mk k n s (a::b::c::r),room=>by simp[gf]
mutual
def Tm.sz:Tm->Nat
 | .mk _ _ _ a=>1+Tm.szL a
def Tm.szL:List Tm->Nat
 |[]=>0
 |x::xs=>x.sz+Tm.szL xs
end
theorem szL_mem:∀{l:List Tm} {x:Tm},x∈l->x.sz<=Tm.szL l
 |y::l,x,h=>by
  rcases gy.1 h with rfl|h
  ·simp[Tm.szL]
  ·have:=szL_mem h;simp[Tm.szL];omega
theorem NO{t x:Tm}(h:x∈t.args):x.sz<t.sz:=by cases t;simp[Tm.args]at h;have:=szL_mem h;simp[Tm.sz];omega
def T.fit(t:T):Bool:=t.ok&&decide (t.size<=5000)
def Tm.fits(t:Tm):Bool:=decide (0<gf t 5000)
theorem Tm.fits_T(t:T):t.tm.fits=t.fit:=by
 unfold Tm.fits T.fit;rw[Mo];have:=t.size_pos;by_cases I:t.ok=true<;>by_cases J:t.size<=5000
 ·rw[if_pos ⟨I,Ω⟩];simp[I,J];omega
 ·rw[br Ω];simp[J]
 ·rw[br (by simp[I])];simp[I]
 ·rw[br (by simp[I])];simp[I]
theorem Tm.fits_ex{t:Tm}(h:t.fits=true):∃x:T,x.tm=t/\x.fit=true:=by obtain⟨x,rfl⟩:=Mr t 5000 (by simpa[Tm.fits]using h);exact⟨x,rfl,by rw[<-Tm.fits_T];exact h⟩
structure j4 where
 v:Int
 t:T
 deriving DecidableEq,Inhabited
def j4.e(b:j4):ae:= .agg [.int .i64 b.v,.int .i64 b.t.kind,.int .i64 b.t.int,.str b.t.name,.slice 4 .no (b.t.args.map T.e)]
@[simp]theorem j4.eta(b:j4):j4.mk b.v b.t=b:=rfl
@[simp]theorem alH(v:Int)(t:T):ae.agg [.int .i64 v,.int .i64 t.kind,.int .i64 t.int,.str t.name,.slice 4 .no (t.args.map T.e)]=(j4.mk v t).e:=rfl
@[simp]theorem alI(v:Int):ae.agg [.int .i64 v,.int .i64 0,.int .i64 0,.str [],.slice 4 .no []]=(j4.mk v .nil).e:=rfl
@[simp]theorem alM(v n:Int):ae.agg [.int .i64 v,.int .i64 1,.int .i64 n,.str [],.slice 4 .no []]=(j4.mk v (.var n)).e:=rfl
@[simp]theorem alL(v:Int)(s:List aj):ae.agg [.int .i64 v,.int .i64 2,.int .i64 0,.str s,.slice 4 .no []]=(j4.mk v (.sym s)).e:=rfl
@[simp]theorem alJ(v n:Int):ae.agg [.int .i64 v,.int .i64 3,.int .i64 n,.str [],.slice 4 .no []]=(j4.mk v (.num n)).e:=rfl
@[simp]theorem alK(v:Int)(a b:T):ae.agg [.int .i64 v,.int .i64 4,.int .i64 0,.str [],.slice 4 .no [a.e,b.e]]=(j4.mk v (.pair a b)).e:=rfl
@[simp]theorem apk(b:j4):eV b.e=true:=rfl
@[simp]theorem amn(b:j4):cells b.e=[.int .i64 b.v,.int .i64 b.t.kind,.int .i64 b.t.int,.str b.t.name,.slice 4 .no (b.t.args.map T.e)]:=rfl
@[simp]theorem am9(off:Nat)(fi:Bool)(sz:Nat)(b:j4):s3 off fi sz b.e=if fi then some (off+sz<=5,.agg (([.int .i64 b.v,.int .i64 b.t.kind,.int .i64 b.t.int,.str b.t.name,.slice 4 .no (b.t.args.map T.e)].drop off).take sz))else(([.int .i64 b.v,.int .i64 b.t.kind,.int .i64 b.t.int,.str b.t.name,.slice 4 .no (b.t.args.map T.e)]:List ae)[off]?).map fun p=>(True,p):=rfl
@[simp]theorem amX(off:Nat)(fi:Bool)(sz:Nat)(b:j4):pf off fi sz (.eptr b.e)=if fi then some (off+sz<=5,.eptr (.agg (([.int .i64 b.v,.int .i64 b.t.kind,.int .i64 b.t.int,.str b.t.name,.slice 4 .no (b.t.args.map T.e)].drop off).take sz)))else(([.int .i64 b.v,.int .i64 b.t.kind,.int .i64 b.t.int,.str b.t.name,.slice 4 .no (b.t.args.map T.e)]:List ae)[off]?).map fun p=>(eV p=true/\cells p=[p],.eptr p):=rfl
def T.occ(v:Int):T->Bool
 | .var n=>n==v
 | .pair a b=>a.occ v||b.occ v
 |_=>false
structure Bt where
 v:Int
 t:Tm
def Bt.e(b:Bt):ae:= .agg [.int .i64 b.v,.int .i64 b.t.kind,.int .i64 b.t.num,.str b.t.name,.slice 4 .no (b.t.args.map enc)]
def j4.b(b:j4):Bt:=⟨b.v,b.t.tm⟩
@[simp]theorem Bt.eta(b:Bt):Bt.mk b.v b.t=b:=rfl
@[simp]theorem alN(v:Int)(t:Tm):ae.agg [.int .i64 v,.int .i64 t.kind,.int .i64 t.num,.str t.name,.slice 4 .no (t.args.map enc)]=(Bt.mk v t).e:=rfl
@[simp]theorem apm(b:Bt):eV b.e=true:=rfl
@[simp]theorem amp(b:Bt):cells b.e=[.int .i64 b.v,.int .i64 b.t.kind,.int .i64 b.t.num,.str b.t.name,.slice 4 .no (b.t.args.map enc)]:=rfl
@[simp]theorem ana(off:Nat)(fi:Bool)(sz:Nat)(b:Bt):s3 off fi sz b.e=if fi then some (off+sz<=5,.agg (([.int .i64 b.v,.int .i64 b.t.kind,.int .i64 b.t.num,.str b.t.name,.slice 4 .no (b.t.args.map enc)].drop off).take sz))else(([.int .i64 b.v,.int .i64 b.t.kind,.int .i64 b.t.num,.str b.t.name,.slice 4 .no (b.t.args.map enc)]:List ae)[off]?).map fun p=>(True,p):=rfl
@[simp]theorem amY(off:Nat)(fi:Bool)(sz:Nat)(b:Bt):pf off fi sz (.eptr b.e)=if fi then some (off+sz<=5,.eptr (.agg (([.int .i64 b.v,.int .i64 b.t.kind,.int .i64 b.t.num,.str b.t.name,.slice 4 .no (b.t.args.map enc)].drop off).take sz)))else(([.int .i64 b.v,.int .i64 b.t.kind,.int .i64 b.t.num,.str b.t.name,.slice 4 .no (b.t.args.map enc)]:List ae)[off]?).map fun p=>(eV p=true/\cells p=[p],.eptr p):=rfl
def T.sub(f:Int->aW T):T->T
 | .var n=>match f n with|some x=>x|none=>.var n
 | .pair a b=>.pair (a.sub f) (b.sub f)
 |t=>t
def Y1(l:List j4)(v:Int):aW T:=(l.find? fun b=>b.v==v).map (·.t)
end
end Go.Pv
namespace Go.Proofs.YtlnndmgfngfeiaaGreatDoor
section
open Go Go.Pv
def afy(s:List aj)(k:Nat)(st:aU):Prop:=∃i:Nat,1<=i/\i<=s.length/\k=s.length-i/\((s.drop 1).all mw=(s.drop i).all mw)/\st=⟨[(0,.str s),(3,.int .i64 i)],[],[],0,[]⟩
theorem E7(s:List aj):bW aF 170 [.str s] (.bool (gb s)):=by
 refine bW.mk mixed rn abu ag7 Ψ (by simp[kin]) fun ah=>?_;unfold Pm;simp;(with_reducible repeat' first|((first|refine dt (fun h=>?_) fun h=>?_|refine dx (fun h=>?_) fun h=>?_|refine dw (fun h=>?_) fun h=>?_)<;>try simp at h)|refine av ?_|simp);case refine_1.refine_1.refine_1.refine_2=>
  have oK:gb s=(s.drop 1).all mw:=by simp[gb,low];omega
  rw[oK];refine FU (afy s) (s.length-1) _ ⟨Ψ,by simp[qs],by simp[rj],Ψ⟩ ⟨1,Ω,Ω,rfl,rfl,rfl⟩ ?_;rintro k st ⟨i,n1,Bd,ab,mm,rfl⟩ A7 b2;rw[mm];simp;refine dt (fun b5=>?_) (fun je=>?_)
  ·simp at b5;have aI:s.drop i=s[i]?.getD 0::s.drop (i+1):=by rw[pR b5];simp[b5]
   simp;(with_reducible repeat' first|((first|refine dt (fun h=>?_) fun h=>?_|refine dx (fun h=>?_) fun h=>?_|refine dw (fun h=>?_) fun h=>?_)<;>try simp at h)|refine av ?_|simp);all_goals first
    |(simp[cn,HH,ba,bg,aT,aI,mw,low];omega)
    |(simp only[YB];refine⟨s.length-(i+1),_,Ω,⟨Ψ,by simp[qs],by simp[rj],Ψ⟩,i+1,Ω,Ω,rfl,?_,rfl⟩;rw[mm,aI];simp[mw,low];omega)
  ·simp at je;have:s.drop i=[]:=by simp;omega
   simp[cn,HH,ba,bg,aT,this]
 all_goals simp[cn,HH,ba,bg,aT,gb,low]
 all_goals omega
theorem ak0(m:Nat):∀(t:Tm),t.sz<=m->∀(room:Int),0<=room/\room<=10000->bW aF 150 [enc t,.int .i64 room] (.int .i64 (gf t room)):=by
 induction m with
 |zero=>intro t aE;cases t;simp[Tm.sz]at aE
 |succ m aX=>
 rintro⟨k,n,s,args⟩ aE room oN;refine bI rn abE ahh fun aG=>?_;unfold Px;simp[Tm.kind,Tm.num,Tm.name,Tm.args];(with_reducible repeat' first|((first|refine dt (fun h=>?_) fun h=>?_|refine dx (fun h=>?_) fun h=>?_|refine dw (fun h=>?_) fun h=>?_)<;>try simp at h)|refine av ?_|simp);all_goals try refine CallDo.val Ψ (E7 _) ?_
 all_goals try simp
 (with_reducible repeat' first|((first|refine dt (fun h=>?_) fun h=>?_|refine dx (fun h=>?_) fun h=>?_|refine dw (fun h=>?_) fun h=>?_)<;>try simp at h)|refine av ?_|simp);all_goals try simp[cn,HJ,ba,bg,aT]
 case succ.refine_2.refine_2.refine_1.refine_1.refine_2=>
  rename_i bz I J au;match args,h with
  |[a,b],_=>
  simp[Tm.sz,Tm.szL]at aE;subst I J au;simp;(with_reducible repeat' first|((first|refine dt (fun h=>?_) fun h=>?_|refine dx (fun h=>?_) fun h=>?_|refine dw (fun h=>?_) fun h=>?_)<;>try simp at h)|refine av ?_|simp);refine CallDo.val Ψ (aX a Ω (room-1) Ω) ?_;simp;have bL:=Mq a (room-1);have A4:=Hq a (room-1);(with_reducible repeat' first|((first|refine dt (fun h=>?_) fun h=>?_|refine dx (fun h=>?_) fun h=>?_|refine dw (fun h=>?_) fun h=>?_)<;>try simp at h)|refine av ?_|simp)
  ·simp[cn,HJ,ba,bg,aT];rw[Mp];simp;omega
  ·refine CallDo.val Ψ (aX b Ω (room-1-gf a (room-1)) Ω) ?_;simp;have ah:=Mq b (room-1-gf a (room-1));have fk:=Hq b (room-1-gf a (room-1));(with_reducible repeat' first|((first|refine dt (fun h=>?_) fun h=>?_|refine dx (fun h=>?_) fun h=>?_|refine dw (fun h=>?_) fun h=>?_)<;>try simp at h)|refine av ?_|simp);all_goals simp[cn,HJ,ba,bg,aT]
   all_goals rw[Mp];simp;omega
 all_goals rw[Mp]
 all_goals simp_all[l1]
 all_goals first|omega|(split<;>simp at h⊢)
theorem XW(t:Tm):bW aF 77 [enc t] (.bool t.fits):=by refine bI rn abw ag9 fun aG=>?_;unfold Po;simp;refine CallDo.val Ψ (ak0 t.sz t (cc _) 5000 Ω) ?_;simp;simp[cn,VQ,ba,bg,aT];simp[Tm.fits]
def Pq:C:=(ag [fm 1 0,bh 2 (.mov (.c (.str [])))] (ag [c7 (.mkmap 9 none),c7 (.mput .i (.t 9) (de 2) (.c (.str [61]))),c7 (.mput .i (.t 9) (de 3) (.c (.str [47,61]))),c7 (.mput .i (.t 9) (de 4) (.c (.str [115,121,109,98,111,108]))),c7 (.mput .i (.t 9) (de 5) (.c (.str [110,117,109,98,101,114]))),c7 (.mput .i (.t 9) (de 6) (.c (.str [97,98,115,101,110,116]))),c7 (.mput .i (.t 9) (de 7) (.c (.str [97,110,100]))),c7 (.mput .i (.t 9) (de 8) (.c (.str [111,114]))),c7 (.mput .i (.t 9) (de 10) (.c (.str [110,111,116]))),aa 10 9,a6 11 0 1 1,a8 12 1 11,bh 13 (.mget .i (.str []) false (.t 10) (.t 12)),aa 3 13] (.seq (ag [a6 14 0 1 1,a8 15 1 14] (.block 0 (ag [a7 17 .eql 15 0,aa 16 17] (bb 16 (ag [bh 2 (.mov (.c (.str [116,114,117,101])))] .ret) (ag [a7 19 .eql 15 1,aa 18 19] (bb 18 (ag [bh 2 (.mov (.c (.str [102,97,105,108])))] .ret) (ag [a7 21 .eql 15 9,aa 20 21] (bb 20 (.region [a6 22 1 1 1,a8 23 1 22,aa 3 23]) .skip)))))))) (ag [aa 24 3,gU 25 1 9 [.t 24],aa 4 25] (.seq (ag [a6 26 2 1 1,a8 27 1 26,cT 28 27,bU 29 0] (.block 1 (.loop (ag [cj 30 .lss 29 28] (.seq (bb 30 .skip (.exit 1)) (.seq (.block 2 (ag [cP 31 4 27 29,bO 32 4 31,hv 6 dd,bF 4 6 32] (.region [aa 33 4,bO 34 4 6,cl 35 85 34,gU 36 1 9 [.t 35],kZ 37 1 9 33 36,aa 4 37]))) (.region [a7 38 .add 29 1,aa 29 38]))))))) (.seq (ag [a6 39 3 1 1,a8 40 1 39,cT 41 40,bU 42 0] (.block 3 (.loop (ag [cj 43 .lss 42 41] (.seq (bb 43 .skip (.exit 3)) (.seq (.block 4 (ag [cP 44 4 40 42,bO 45 4 44,c7 (.alloc 8 none (.agg [.int .i64 0,.str [],.slice 4 .nil [],.slice 4 .nil []])),bF 4 8 45] (.region [aa 46 4,bO 47 4 8,cl 48 65 47,gU 49 1 9 [.t 48],kZ 50 1 9 46 49,aa 4 50]))) (.region [a7 51 .add 42 1,aa 42 51]))))))) (ag [aa 52 4,⟨none,.call (some 53) (.c (.func 87 [])) [.t 52,(.c (.str [32]))]⟩,bh 54 (.bin .add false (.c (.str [40])) (.t 53)),bh 55 (.bin .add false (.t 54) (.c (.str [41]))),aa 2 55] .ret)))))))
@[simp] def MN:List ca:=[.tmp 2]
def Pr:C:=(ag [fm 1 0,ng 2 1] (ag [c7 (.mkmap 4 (some 304)),c7 (.alloc 3 (some 305) (.junk)),bF 1 3 4] (ag [bO 5 4 1,bh 6 (.mkf 158 [.t 3]),eb 7 157 5 6] (ag [a8 8 1 3,cl 9 160 8,aa 2 9] .ret))))
@[simp] def VR:List ca:=[.tmp 2]
def IW:C:=(ag [bK 2 false] (.seq (ag [aa 3 0] (.block 0 (.seq (ag [bh 5 (.bin .eql false (.t 3) (.c (.str [116,114,117,101]))),aa 4 5] (bb 4 .skip (ag [bh 6 (.bin .eql false (.t 3) (.c (.str [102,97,105,108]))),aa 4 6] (bb 4 .skip (ag [bh 7 (.bin .eql false (.t 3) (.c (.str [115,121,109,98,111,108]))),aa 4 7] (bb 4 .skip (ag [bh 8 (.bin .eql false (.t 3) (.c (.str [110,117,109,98,101,114]))),aa 4 8] (bb 4 .skip (ag [bh 9 (.bin .eql false (.t 3) (.c (.str [97,98,115,101,110,116]))),aa 4 9] (bb 4 .skip (ag [bh 10 (.bin .eql false (.t 3) (.c (.str [97,110,100]))),aa 4 10] (bb 4 .skip (ag [bh 11 (.bin .eql false (.t 3) (.c (.str [111,114]))),aa 4 11] (bb 4 .skip (ag [bh 12 (.bin .eql false (.t 3) (.c (.str [110,111,116]))),aa 4 12] (bb 4 .skip (.region [bh 13 (.bin .eql false (.t 3) (.c (.str [100,101,102,105,110,101]))),aa 4 13]))))))))))))))))) (bb 4 (ag [bK 2 false] .ret) .skip)))) (ag [aa 14 0,cl 15 170 14,aa 2 15] .ret)))
@[simp] def aim:List ca:=[.tmp 2]
def rL:C:=(ag [fm 2 0,bU 4 0] (.seq (ag [aa 10 1,a7 11 .lss 10 1,aa 12 11,aO 12 false (a6 13 2 1 2),aO 12 false (a8 14 1 13),aO 12 false (cl 15 183 14),aO 12 false (dK 16 15),dA 17 12 16] (bb 17 (ag [bU 4 (-1)] .ret) .skip)) (ag [c7 (.mkmap 18 none),c7 (.mput .i (.t 18) (de 2) (de 2)),c7 (.mput .i (.t 18) (de 3) (de 2)),c7 (.mput .i (.t 18) (de 4) (de 1)),c7 (.mput .i (.t 18) (de 5) (de 1)),c7 (.mput .i (.t 18) (de 6) (de 2)),aa 19 18,a6 20 0 1 2,a8 21 1 20,bh 22 (.mget .i (.int .i64 0) false (.t 19) (.t 21)),aa 5 22] (.seq (ag [a6 23 0 1 2,a8 24 1 23] (.block 0 (.seq (ag [a7 26 .eql 24 0,aa 25 26] (bb 25 .skip (ag [a7 27 .eql 24 1,aa 25 27] (bb 25 .skip (ag [a7 28 .eql 24 2,aa 25 28] (bb 25 .skip (ag [a7 29 .eql 24 3,aa 25 29] (bb 25 .skip (ag [a7 30 .eql 24 4,aa 25 30] (bb 25 .skip (ag [a7 31 .eql 24 5,aa 25 31] (bb 25 .skip (.region [a7 32 .eql 24 6,aa 25 32]))))))))))))) (bb 25 (.seq (ag [a6 33 1 1 2,a8 34 1 33,bh 35 (.bin .neq false (.t 34) (.c (.str []))),aa 36 35,aO 36 false (a6 37 3 1 2),aO 36 false (a8 38 1 37),aO 36 false (cT 39 38),aO 36 false (a7 40 .neq 39 0),dA 41 36 40,aa 42 41,aO 42 false (a6 43 2 1 2),aO 42 false (a8 44 1 43),aO 42 false (cT 45 44),b4 42 false 46 5,aO 42 false (cj 47 .neq 45 46),dA 48 42 47,aa 49 48,aO 49 false (a6 50 0 1 2),aO 49 false (a8 51 1 50),aO 49 false (a7 52 .eql 51 6),b4 49 false 53 52,aO 53 true (a6 54 2 1 2),aO 53 true (a8 55 1 54),aO 53 true (ma 56 4 55 0),aO 53 true (a6 57 0 1 56),aO 53 true (a8 58 1 57),aO 53 true (a7 59 .neq 58 2),aO 49 false (fx 60 53 59),dA 61 49 60] (bb 61 (ag [bU 4 (-1)] .ret) .skip)) (ag [bU 4 1] .ret)) (ag [a7 63 .eql 24 9,aa 62 63] (bb 62 (.seq (ag [a6 64 1 1 2,a8 65 1 64,cl 66 103 65,dK 67 66,aa 68 67,aO 68 false (a6 69 3 1 2),aO 68 false (a8 70 1 69),aO 68 false (cT 71 70),aO 68 false (a7 72 .neq 71 0),dA 73 68 72,aa 74 73,aO 74 false (a6 75 2 1 2),aO 74 false (a8 76 1 75),aO 74 false (cT 77 76),aO 74 false (a7 78 .gtr 77 4),dA 79 74 78] (bb 79 (ag [bU 4 (-1)] .ret) .skip)) (ag [bU 4 1] .ret)) (.seq (ag [a7 81 .eql 24 7,aa 80 81] (bb 80 .skip (.region [a7 82 .eql 24 8,aa 80 82]))) (bb 80 (ag [a6 83 1 1 2,a8 84 1 83,bh 85 (.bin .neq false (.t 84) (.c (.str []))),aa 86 85,aO 86 false (a6 87 2 1 2),aO 86 false (a8 88 1 87),aO 86 false (cT 89 88),aO 86 false (a7 90 .neq 89 0),dA 91 86 90,aa 92 91,aO 92 false (a6 93 3 1 2),aO 92 false (a8 94 1 93),aO 92 false (cT 95 94),aO 92 false (a7 96 .gtr 95 8),dA 97 92 96] (bb 97 (ag [bU 4 (-1)] .ret) .skip)) (ag [a7 99 .eql 24 10,aa 98 99] (bb 98 (ag [a6 100 1 1 2,a8 101 1 100,bh 102 (.bin .neq false (.t 101) (.c (.str []))),aa 103 102,aO 103 false (a6 104 2 1 2),aO 103 false (a8 105 1 104),aO 103 false (cT 106 105),aO 103 false (a7 107 .neq 106 0),dA 108 103 107,aa 109 108,aO 109 false (a6 110 3 1 2),aO 109 false (a8 111 1 110),aO 109 false (cT 112 111),aO 109 false (a7 113 .neq 112 1),dA 114 109 113,aa 115 114,aO 115 false (a6 116 3 1 2),aO 115 false (a8 117 1 116),aO 115 false (ma 118 4 117 0),aO 115 false (a6 119 0 1 118),aO 115 false (a8 120 1 119),aO 115 false (a7 121 .neq 120 9),dA 122 115 121] (bb 122 (ag [bU 4 (-1)] .ret) .skip)) (ag [bU 4 (-1)] .ret))))))))))) (ag [bU 6 1] (.seq (ag [a6 123 3 1 2,a8 124 1 123,cT 125 124,bU 126 0] (.block 1 (.loop (ag [cj 127 .lss 126 125] (.seq (bb 127 .skip (.exit 1)) (.seq (.block 2 (ag [cP 128 4 124 126,bO 129 4 128,c7 (.alloc 8 none (.agg [.int .i64 0,.str [],.slice 4 .nil [],.slice 4 .nil []])),bF 4 8 129] (ag [bO 130 4 8,aa 131 1,aa 132 6,cj 133 .sub 131 132,eb 134 117 130 133,aa 9 134] (.seq (ag [aa 135 9,a7 136 .lss 135 0] (bb 136 (ag [bU 4 (-1)] .ret) .skip)) (.region [aa 137 6,aa 138 9,cj 139 .add 137 138,aa 6 139]))))) (.region [a7 140 .add 126 1,aa 126 140]))))))) (ag [aa 141 6,aa 4 141] .ret)))))))
@[simp] def vh:List ca:=[.tmp 4]
def PG:C:=(ag [fm 2 0,bK 4 false] (.seq (ag [bO 7 4 2,cl 8 90 7,cT 9 8,bU 10 0] (k0 11 10 9 (.seq (.block 1 (ag [cP 12 1 8 10,a8 13 1 12,aa 6 13] (ag [aa 14 6,aa 15 1,cj 16 .geq 14 15] (bb 16 (ag [bK 4 false] .ret) .skip)))) (.region [a7 17 .add 10 1,aa 10 17])))) (ag [bK 4 true] .ret)))
@[simp] def aiz:List ca:=[.tmp 4]
def I1:C:=(ag [fm 2 0] (ag [aa 6 1,bO 7 4 2,Yp 8 6 [.t 7]] (ag [a6 9 3 1 2,a8 10 1 9,cT 11 10,bU 12 0] (k0 13 12 11 (.seq (.block 1 (ag [cP 14 4 10 12,bO 15 4 14,c7 (.alloc 5 none (.agg [.int .i64 0,.str [],.slice 4 .nil [],.slice 4 .nil []])),bF 4 5 15] (.region [bO 16 4 5,aa 17 1,eb 18 157 16 17]))) (.region [a7 19 .add 12 1,aa 12 19]))))))
@[simp] def MM:List ca:=[]
def Ps:C:=(ag [fm 2 0] (ag [a6 5 2 1 2,a8 6 1 5,cT 7 6,bU 8 0] (k0 9 8 7 (.seq (.block 1 (ag [cP 10 4 6 8,bO 11 4 10,hv 4 dd,bF 4 4 11] (.region [bO 12 4 4,bh 13 (.mkf 159 [.t 1]),eb 14 79 12 13]))) (.region [a7 15 .add 8 1,aa 8 15])))))
@[simp] def VS:List ca:=[]
def Pt:C:=(.region [a8 3 1 1,aa 4 0,c7 (.mput .i (.t 3) (.t 4) (.c (.bool true)))])
@[simp] def VT:List ca:=[]
def w5:List (Nat×dh):=[
 (3,⟨1,8,.int .i64,.int .i64 0⟩),
 (9,⟨1,16,.str,.str []⟩),
 (38,⟨1,24,.slice 40,.slice 4 .nil []⟩),
 (40,⟨4,56,.struct [(0,3),(1,3),(2,9),(3,38)],.agg [.int .i64 0,.int .i64 0,.str [],.slice 4 .nil []]⟩),
 (63,⟨1,24,.slice 65,.slice 4 .nil []⟩),
 (65,⟨4,72,.struct [(0,3),(1,9),(2,38),(3,63)],.agg [.int .i64 0,.str [],.slice 4 .nil [],.slice 4 .nil []]⟩),
 (70,⟨1,24,.slice 9,.slice 1 .nil []⟩),
 (136,⟨1,24,.slice 3,.slice 1 .nil []⟩),
 (180,⟨1,8,.map 3 9,.junk⟩),
 (199,⟨1,8,.map 3 4,.junk⟩),
 (219,⟨1,8,.map 3 3,.junk⟩)]
theorem mH:eW aF w5=true:=by kernel_rfl
theorem ahb:cJ w5 Pq MN 1 Tryz.f65=true:=by kernel_rfl
theorem aby:aF.funcs[(65:Nat)]? =some Tryz.f65:=Tryz.func65
theorem ahc:cJ w5 Pr VR 1 Tryz.f90=true:=by kernel_rfl
theorem abz:aF.funcs[(90:Nat)]? =some Tryz.f90:=Tryz.func90
theorem U8:cJ w5 IW aim 1 Tryz.f103=true:=by kernel_rfl
theorem Q9:aF.funcs[(103:Nat)]? =some Tryz.f103:=Tryz.func103
theorem tV:cJ w5 rL vh 2 Tryz.f117=true:=by kernel_rfl
theorem s0:aF.funcs[(117:Nat)]? =some Tryz.f117:=Tryz.func117
theorem ahq:cJ w5 PG aiz 2 Tryz.f120=true:=by kernel_rfl
theorem abN:aF.funcs[(120:Nat)]? =some Tryz.f120:=Tryz.func120
theorem Vd:cJ w5 I1 MM 2 Tryz.f157=true:=by kernel_rfl
theorem Rf:aF.funcs[(157:Nat)]? =some Tryz.f157:=Tryz.func157
theorem ahd:cJ w5 Ps VS 2 Tryz.f158=true:=by kernel_rfl
theorem abA:aF.funcs[(158:Nat)]? =some Tryz.f158:=Tryz.func158
theorem ahe:cJ w5 Pt VT 2 Tryz.f159=true:=by kernel_rfl
theorem abB:aF.funcs[(159:Nat)]? =some Tryz.f159:=Tryz.func159
end
end Go.Proofs.YtlnndmgfngfeiaaGreatDoor
namespace Go.Pv
section
open Go Go.Lib
theorem VA:∀(a b:List aj) (acc:Nat),parseUint10 acc (a++b)=match parseUint10 acc a with| .ok v=>parseUint10 v b|x=>x
 |[],b,acc=>rfl
 |c::r,b,acc=>by
  simp only[dF,parseUint10];split
  ·split
   ·rfl
   ·split
    ·rfl
    ·exact VA r b _
  ·rfl
theorem uK{u:Nat}(h:u<10):decDigits u=[oW (48+u)]:=by rw[decDigits,dif_pos h]
theorem xt{u:Nat}(h:10<=u):decDigits u=decDigits (u/10)++[oW (48+u%10)]:=by rw[decDigits,dif_neg Ω]
theorem CV{d:Nat}(h:d<10):(oW (48+d)).toNat=48+d:=by rw[UInt8.toNat_ofNat'];omega
theorem ah7(u:Nat)(h:u<18446744073709551616):parseUint10 0 (decDigits u)= .ok u:=by
 induction u using Nat.strongRecOn with
 |_ u aX=>
  have step:∀v d,d<10->v*10+d<18446744073709551616->parseUint10 v [oW (48+d)]= .ok (v*10+d):=by intro v d aI aN;simp only[parseUint10,CV aI];rw[if_pos Ω,br Ω,br Ω];congr 1;omega
  by_cases hu:u<10
  ·rw[uK hu,step 0 u hu Ω];congr 1;omega
  ·rw[xt Ω,VA,aX (u/10) Ω Ω];simp only;rw[step _ _ (Nat.mod_lt _ Ω) Ω];congr 1;omega
theorem pa(u:Nat):decDigits u≠[]:=by
 by_cases hu:u<10
 ·rw[uK hu];simp
 ·rw[xt Ω];simp
theorem CU(u:Nat):∀c∈decDigits u,48<=c.toNat/\c.toNat<=57:=by
 induction u using Nat.strongRecOn with
 |_ u aX=>
  by_cases hu:u<10
  ·rw[uK hu];intro c aH;rw[List.mem_singleton.1 aH,CV hu];omega
  ·rw[xt Ω];intro c aH;rcases hl.1 aH with h|h
   ·exact aX _ Ω c h
   ·rw[List.mem_singleton.1 h,CV (Nat.mod_lt _ Ω)];omega
theorem Vz{u:Nat}(h:u<18446744073709551616):parseMag (decDigits u)= .ok u:=by unfold parseMag;rw[br (pa u)];exact ah7 u h
theorem IP{n:Int}(h:aY n):atoiAll (itoa n)= .ok n:=by
 unfold aY at h;unfold itoa;by_cases aM:n<0
 ·rw[if_pos aM];simp only[atoiAll];rw[if_pos Ψ,Vz Ω];simp only;rw[br Ψ,br (by simp;omega),if_pos Ψ];congr 1;omega
 ·rw[br aM];obtain⟨c,r,aH⟩:∃c r,decDigits n.toNat=c::r:=by
   cases aI:decDigits n.toNat with
   |nil=>exact absurd aI (pa _)
   |cons c r=>exact⟨c,r,rfl⟩
  have hm:=CU n.toNat c (by rw[aH];simp);have aV:=Vz (u:=n.toNat) Ω;rw[aH]at aV⊢;simp only[atoiAll];rw[br Ω,aV];simp only;rw[br Ω,br Ω,br Ω];congr 1;omega
theorem YV{s:List aj}{n:Int}(h:atoiAll s= .ok n):aY n:=by
 unfold atoiAll at h;unfold aY;split at h
 ·cases h
 ·rename_i c r;simp only at h;split at h
  ·cases h
  ·cases h
  ·split at h
   ·cases h
   ·split at h
    ·cases h
    ·injection h with h;split at h<;>omega
def gH(s:List aj):aW Int:=match atoiAll s with
 | .ok n=>if itoa n=s then some n else none
 |_=>none
theorem zO{s:List aj}{n:Int}:gH s=some n↔aY n/\itoa n=s:=by
 unfold gH;constructor
 ·intro h;rcases bL:atoiAll s with m|_|_
  ·rw[bL]at h;simp only at h;split at h
   ·rename_i e;cases h;exact⟨YV bL,e⟩
   ·cases h
  ·rw[bL]at h;cases h
  ·rw[bL]at h;cases h
 ·rintro⟨I,rfl⟩;rw[IP I];simp
theorem afE{m n:Int}(hm:aY m)(aM:aY n)(h:itoa m=itoa n):m=n:=by have I:=IP hm;rw[h,IP aM]at I;injection I with I;exact I.symm
theorem tW{s:List aj}(h:∀n,aY n->itoa n≠s):gH s=none:=by
 cases aV:gH s with
 |none=>rfl
 |some n=>exact absurd (zO.1 aV).2 (h n (zO.1 aV).1)
theorem G1(n:Int):∀c∈itoa n,c.toNat=45\/48<=c.toNat/\c.toNat<=57:=by
 intro c aH;unfold itoa at aH;split at aH
 ·rcases gy.1 aH with rfl|aH
  ·exact .inl rfl
  ·exact .inr (CU _ c aH)
 ·exact .inr (CU _ c aH)
theorem r0(n:Int):itoa n≠[]:=by
 unfold itoa;split
 ·simp
 ·exact pa _
theorem FG:∀(k u:Nat),u<10 ^ k->(decDigits u).length<=max k 1
 |0,u,h=>by rw[uK (by simpa using Nat.lt_of_lt_of_le h Ψ)];simp
 |k+1,u,h=>by
  by_cases hu:u<10
  ·rw[uK hu];simp
  ·rw[xt Ω];have:=FG k (u/10) (by rw[Nat.pow_succ]at h;omega);simp;have:k≠0:=fun e=>by subst e;simp at h;omega
   omega
theorem x2{n:Int}(h:aY n):(itoa n).length<=20:=by
 unfold aY at h;unfold itoa;split
 ·have:=FG 19 n.natAbs Ω;simp;omega
 ·have:=FG 19 n.toNat Ω;omega
def o8(c:aj):Bool:=c==32||c==10||c==40||c==41||c==59
def qk(c:aj):Bool:= !(c==10)
def iT(c:aj):Bool:= !o8 c
theorem FM{α:Type}(p:α->Bool):∀l:List α,(l.dropWhile p).length<=l.length
 |[]=>by simp
 |x::r=>by
  simp only[List.dropWhile];split
  ·have:=FM p r;simp;omega
  ·simp
def hO:List aj->List (List aj)
 |[]=>[]
 |c::r=>if c=32\/c=10 then hO r else if c=59 then hO (r.dropWhile qk)else if c=40\/c=41 then [c]::hO r else(c::r.takeWhile iT)::hO (r.dropWhile iT)
termination_by l=>l.length
decreasing_by
 all_goals simp
 all_goals exact Nat.lt_succ_of_le (FM _ _)
theorem Il:hO []=[]:=by rw[hO]
theorem Ik(c:aj)(r:List aj):hO (c::r)=if c=32\/c=10 then hO r else if c=59 then hO (r.dropWhile qk)else if c=40\/c=41 then [c]::hO r else(c::r.takeWhile iT)::hO (r.dropWhile iT):=by rw[hO]
def tU(c:aj):Bool:=c==10||(decide (32<=c.toNat)&&decide (c.toNat<=126))
def jw(s:List aj):aW (List (List aj)):=if s.length<=100000/\(∀c∈s,tU c=true)/\(hO s).length<=20000 then some (hO s)else none
theorem fM{α:Type}{l:List α}{i:Nat}{x:α}(h:l[i]? =some x):l.drop i=x::l.drop (i+1):=by obtain⟨aw,rfl⟩:=fo.1 h;exact pR aw
theorem Cc:∀(n:Nat) (s:List aj),s.length<=n->∀t∈hO s,t≠[]
 |_,[],_=>by simp[Il]
 |0,_::_,h=>by simp at h
 |n+1,c::r,h=>by
  rw[Ik];simp at h;have I:=FM qk r;have J:=FM iT r;split
  ·exact Cc n r h
  ·split
   ·exact Cc n _ Ω
   ·split
    ·intro t aE;rcases gy.1 aE with rfl|aE
     ·simp
     ·exact Cc n r h t aE
    ·intro t aE;rcases gy.1 aE with rfl|aE
     ·simp
     ·exact Cc n _ Ω t aE
def fD:List T->T->T
 |[],t=>t
 |x::r,t=>.pair x (fD r t)
theorem Uy(a b:List T)(t:T):fD (a++b) t=fD a (fD b t):=by
 induction a with
 |nil=>rfl
 |cons x r aX=>simp[fD,aX]
def eG(w:List aj):aW T:=
 match w with
 |63::r=>match gH r with
  |some n=>if 0<=n/\n<=100000 then some (.var n)else none
  |none=>none
 |w=>if gb w then some (.sym w)else(gH w).map .num
mutual
def rd(at':List aj->aW T):Nat->List (List aj)->aW (T×List (List aj))
 |0,_=>none
 |_+1,[]=>none
 |n+1,w::r=>if w=[40]then bM at' n r []else if w=[41]\/w=[46]then none else(at' w).map fun t=>(t,r)
def bM(at':List aj->aW T):Nat->List (List aj)->List T->aW (T×List (List aj))
 |0,_,_=>none
 |_+1,[],_=>none
 |n+1,w::r,acc=>if w=[41]then some (fD acc .nil,r)
  else if w=[46]then(if acc=[]then none else match rd at' n r with
   |some (t,v::cZ)=>if v=[41]then some (fD acc t,cZ)else none
   |_=>none)
  else match rd at' n (w::r)with
   |some (t,cZ)=>bM at' n cZ (acc++[t])
   |none=>none
end
mutual
theorem re{at':List aj->aW T}:∀(n:Nat) (l:List (List aj)) (t:T) (r:List (List aj)),rd at' n l=some (t,r)->r<:+l/\r.length<l.length
 |0,_,_,_,h=>by simp[rd]at h
 |_+1,[],_,_,h=>by simp[rd]at h
 |n+1,w::l,t,r,h=>by
  simp only[rd]at h;split at h
  ·obtain⟨I,J⟩:=TP n l [] t r h;exact⟨I.trans (List.suffix_cons _ _),by simp;omega⟩
  ·split at h
   ·cases h
   ·cases bL:at' w with
    |none=>rw[bL]at h;cases h
    |some x=>rw[bL]at h;cases h;exact⟨List.suffix_cons _ _,Ψ⟩
theorem TP{at':List aj->aW T}:∀(n:Nat) (l:List (List aj)) (acc:List T) (t:T) (r:List (List aj)),bM at' n l acc=some (t,r)->r<:+l/\r.length<l.length
 |0,_,_,_,_,h=>by simp[bM]at h
 |_+1,[],_,_,_,h=>by simp[bM]at h
 |n+1,w::l,acc,t,r,h=>by
  simp only[bM]at h;split at h
  ·cases h;exact⟨List.suffix_cons _ _,Ψ⟩
  ·split at h
   ·split at h
    ·cases h
    ·split at h
     ·rename_i x v cZ hr;split at h
      ·cases h;obtain⟨I,J⟩:=re n l x (v::r) hr;simp at J;exact⟨((List.suffix_cons _ _).trans I).trans (List.suffix_cons _ _),by simp;omega⟩
      ·cases h
     ·cases h
   ·split at h
    ·rename_i x cZ hr;obtain⟨I,J⟩:=re n (w::l) x cZ hr;obtain⟨au,aP⟩:=TP n cZ _ t r h;exact⟨au.trans I,Ω⟩
    ·cases h
end
theorem aaa{α:Type}{l r:List α}(h:r<:+l):l.drop (l.length-r.length)=r:=by obtain⟨p,rfl⟩:=h;simp
mutual
def cM:T->List aj
 | .nil=>[40,41]
 | .var n=>63::itoa n
 | .sym s=>s
 | .num n=>itoa n
 | .pair a b=>40::(cM a++fB b)
def fB:T->List aj
 | .nil=>[41]
 | .pair a b=>32::(cM a++fB b)
 | .var n=>32::46::32::63::(itoa n++[41])
 | .sym s=>32::46::32::(s++[41])
 | .num n=>32::46::32::(itoa n++[41])
end
mutual
def iM:T->List (List aj)
 | .nil=>[[40],[41]]
 | .var n=>[63::itoa n]
 | .sym s=>[s]
 | .num n=>[itoa n]
 | .pair a b=>[40]::(iM a++km b)
def km:T->List (List aj)
 | .nil=>[[41]]
 | .pair a b=>iM a++km b
 | .var n=>[[46],63::itoa n,[41]]
 | .sym s=>[[46],s,[41]]
 | .num n=>[[46],itoa n,[41]]
end
def y5:List aj->Prop
 |[]=>True
 |c::_=>o8 c=true
theorem Bl(c:aj):iT c=true↔ ¬(c=32\/c=10)/\¬c=59/\¬(c=40\/c=41):=by unfold iT o8;simp;grind
theorem Lt(n:Int):∀c∈itoa n,iT c=true:=by intro c aH;rw[Bl];have:=G1 n c aH;refine⟨?_,?_,?_⟩<;>(intro e;first|(rcases e with rfl|rfl<;>revert this<;>decide)|(subst e;revert this;decide))
theorem afs{c:aj}(h:mw c=true):iT c=true:=by rw[Bl];refine⟨?_,?_,?_⟩<;>(intro e;first|(rcases e with rfl|rfl<;>revert h<;>decide)|(subst e;revert h;decide))
theorem agh{c:aj}(h:low c=true):iT c=true:=by rw[Bl];refine⟨?_,?_,?_⟩<;>(intro e;first|(rcases e with rfl|rfl<;>revert h<;>decide)|(subst e;revert h;decide))
theorem BC{s:List aj}(h:gb s=true):∃c r,s=c::r/\low c=true/\(∀x∈r,mw x=true)/\r.length<=11:=by
 unfold gb at h;simp only[bJ,fs,ji]at h;cases s with
 |nil=>simp at h
 |cons c r=>exact⟨c,r,rfl,by simpa using h.1.2,by simpa using h.2,by have:=h.1.1.2;simp at this;omega⟩
theorem Ls{s:List aj}(h:gb s=true):∀c∈s,iT c=true:=by
 obtain⟨c,r,rfl,I,J,_⟩:=BC h;intro x af;rcases gy.1 af with rfl|af
 ·exact agh I
 ·exact afs (J x af)
theorem UW{s:List aj}(h:gb s=true):s≠[]:=by obtain⟨c,r,rfl,_⟩:=BC h;simp
theorem Yd(n:Int):∀c∈63::itoa n,iT c=true:=by
 intro c aH;rcases gy.1 aH with rfl|aH
 ·decide
 ·exact Lt n c aH
theorem YU{n:Int}(h:0<=n/\n<=100000):eG (63::itoa n)=some (.var n):=by have:gH (itoa n)=some n:=zO.2 ⟨by unfold aY;omega,rfl⟩;simp[eG,this,h]
theorem UU{s:List aj}(h:gb s=true):∀r,s≠63::r:=by obtain⟨c,r,rfl,I,_⟩:=BC h;intro cZ e;simp only[sH]at e;obtain⟨rfl,_⟩:=e;revert I;decide
theorem YT{s:List aj}(h:gb s=true):eG s=some (.sym s):=by
 have:=UU h;unfold eG;split
 ·rename_i r;exact absurd rfl (this r)
 ·simp[h]
theorem agP{n:Int}:gb (itoa n)=false:=by
 cases ah:gb (itoa n)with
 |false=>rfl
 |true=>obtain⟨c,r,I,J,_⟩:=BC ah;have:=G1 n c (by rw[I];simp);unfold low at J;simp at J;omega
theorem YS{n:Int}(h:aY n):eG (itoa n)=some (.num n):=by
 have I:∀r,itoa n≠63::r:=fun r e=>by have:=G1 n 63 (by rw[e];simp);revert this;decide
 have J:gH (itoa n)=some n:=zO.2 ⟨h,rfl⟩;unfold eG;split
 ·rename_i r e;exact absurd e (I r)
 ·simp[agP,J]
theorem zJ{w:List aj}(h:∀c∈w,iT c=true):w≠[40]/\w≠[41]:=by constructor<;>(rintro rfl;have:=h _ (List.mem_singleton.2 rfl);revert this;decide)
theorem U0(n:Int):itoa n≠[46]:=fun e=>by have:=G1 n 46 (by rw[e];simp);revert this;decide
theorem UT{s:List aj}(h:gb s=true):s≠[46]:=by rintro rfl;revert h;decide
theorem Oo:∀t:T,1<=(iM t).length
 | .nil=>by simp[iM]
 | .var _=>by simp[iM]
 | .sym _=>by simp[iM]
 | .num _=>by simp[iM]
 | .pair _ _=>by simp[iM]
theorem alm:∀t:T,1<=(km t).length
 | .nil=>by simp[km]
 | .var _=>by simp[km]
 | .sym _=>by simp[km]
 | .num _=>by simp[km]
 | .pair a _=>by have:=Oo a;simp[km];omega
mutual
theorem EE:∀(t:T) (r:List (List aj)) (n:Nat),t.ok=true->(iM t).length<=n->rd eG n (iM t++r)=some (t,r)
 | .nil,r,n,_,aM=>by obtain⟨n,rfl⟩:∃m,n=m+2:=⟨n-2,by simp[iM]at aM;omega⟩;simp[iM,rd,bM,fD]
 | .var m,r,n,h,aM=>by obtain⟨n,rfl⟩:∃m,n=m+1:=⟨n-1,by simp[iM]at aM;omega⟩;have I:=zJ (Yd m);simp only[T.ok,fs]at h;simp[iM,rd,I,r0,YU h]
 | .sym s,r,n,h,aM=>by obtain⟨n,rfl⟩:∃m,n=m+1:=⟨n-1,by simp[iM]at aM;omega⟩;simp only[T.ok]at h;have I:=zJ (Ls h);simp[iM,rd,I,UT h,YT h]
 | .num m,r,n,h,aM=>by obtain⟨n,rfl⟩:∃m,n=m+1:=⟨n-1,by simp[iM]at aM;omega⟩;simp only[T.ok,fs]at h;have I:=zJ (Lt m);simp[iM,rd,I,U0,YS (n:=m) (by unfold aY;omega)]
 | .pair a b,r,n,h,aM=>by obtain⟨n,rfl⟩:∃m,n=m+1:=⟨n-1,by simp[iM]at aM;omega⟩;simp only[T.ok,bJ]at h;have:=TQ a b [] r n h.1 h.2 (by simp[iM]at aM;omega);simp only[iM,dF,lr,rd,if_true];rw[this];simp[fD]
termination_by _ _ n=>(n,0)
theorem TQ:∀(a b:T) (acc:List T) (r:List (List aj)) (n:Nat),a.ok=true->b.ok=true->(iM a).length+(km b).length<=n->bM eG n (iM a++(km b++r)) acc=some (fD acc (.pair a b),r)
 |a,b,acc,r,n,bL,ah,aM=>by
  obtain⟨n,rfl⟩:∃m,n=m+1:=⟨n-1,by have:=Oo a;omega⟩;obtain⟨w,l,hw,afh,DW⟩:∃w l,iM a=w::l/\w≠[41]/\w≠[46]:=by
   cases a with
   |nil=>exact⟨_,_,rfl,by decide,by decide⟩
   |var m=>exact⟨_,_,rfl,(zJ (Yd m)).2,by simp[r0]⟩
   |sym s=>exact⟨_,_,rfl,(zJ (Ls bL)).2,UT bL⟩
   |num m=>exact⟨_,_,rfl,(zJ (Lt m)).2,U0 m⟩
   |pair x y=>exact⟨_,_,rfl,by decide,by decide⟩
  have I:=EE a (km b++r) n bL (by have:=alm b;omega);rw[hw,dF]at I⊢;simp only[bM];rw[br afh,br DW,I];simp only;rw[afF b (acc++[a]) r n ah (by have:=Oo a;omega) Ψ,Uy];rfl
termination_by _ _ _ _ n=>(n,0)
theorem afF:∀(b:T) (acc:List T) (r:List (List aj)) (n:Nat),b.ok=true->(km b).length<=n->acc≠[]->bM eG n (km b++r) acc=some (fD acc b,r)
 | .nil,acc,r,n,_,aM,_=>by obtain⟨n,rfl⟩:∃m,n=m+1:=⟨n-1,by simp[km]at aM;omega⟩;simp[km,bM]
 | .var m,acc,r,n,h,aM,bL=>by obtain⟨n,rfl⟩:∃m,n=m+1:=⟨n-1,by simp[km]at aM;omega⟩;have I:=EE (.var m) ([41]::r) n h (by simp[km]at aM;simp[iM];omega);simp only[iM,List.singleton_append]at I;simp[km,bM,bL,I]
 | .sym m,acc,r,n,h,aM,bL=>by obtain⟨n,rfl⟩:∃m,n=m+1:=⟨n-1,by simp[km]at aM;omega⟩;have I:=EE (.sym m) ([41]::r) n h (by simp[km]at aM;simp[iM];omega);simp only[iM,List.singleton_append]at I;simp[km,bM,bL,I]
 | .num m,acc,r,n,h,aM,bL=>by obtain⟨n,rfl⟩:∃m,n=m+1:=⟨n-1,by simp[km]at aM;omega⟩;have I:=EE (.num m) ([41]::r) n h (by simp[km]at aM;simp[iM];omega);simp only[iM,List.singleton_append]at I;simp[km,bM,bL,I]
 | .pair x y,acc,r,n,h,aM,bL=>by simp only[T.ok,bJ]at h;simp only[km,lr];exact TQ x y acc r n h.1 h.2 (by simp[km]at aM;omega)
termination_by _ _ _ n=>(n,1)
end
end
end Go.Pv
