/- Contracts: whether a goal is valid, the program's side. -/
import Derived.Test.YtlnndmgfngfeiaaDoorProg
import Derived.Lib.ItoaNum
import Derived.Lib.AtoiAll
import Derived.Test.YtlnndmgfngfeiaaDoorZg4
set_option linter.all false
set_option maxHeartbeats 4000000
set_option maxRecDepth 4000
open Bool renaming and_eq_true->bD,false_eq_true->ib,not_eq_true'->oF
open Decidable renaming not_not->YO
open Go renaming Program->bm
open Go.IntKind renaming i64->jS
open Go.IntWalk renaming i64_in->k9
open Go.Proofs.Tryd renaming f3->ie,prog->aP
open List renaming all_eq_true->kd,append_assoc->pI,cons_append->eP,drop_eq_getElem_cons->pJ,getElem?_eq_getElem->eo,getElem?_eq_some_iff->gp,length_cons->mc,map_cons->ig,mem_append->hp,mem_append_right->iw,mem_cons->gZ,mem_map->lE,mem_of_getElem?->gL,nodup_append->pM,take_add_one->nJ,take_length->ld
open List.Pairwise renaming map->YU
open Nat renaming le_refl->cx
open Option renaming isSome_iff_exists->eb
open Option.some renaming inj->iL
open UInt8 renaming ofNat->lF
open _root_ renaming False->cv,Option->aR,UInt8->az,decide_eq_true_eq->fQ,if_neg->bh
namespace Go.Pv
section
open Go Go.RowKit
def rM(N:List (aq×Nat))(l:List (Nat×ab)):List (Nat×ab):=l.map fun x=>(x.1,hJ N x.2)
def qw(N:List (aq×Nat))(l:List (aq×List ab)):List (aq×List ab):=l.map fun x=>(x.1,lL N x.2)
def AJ:List (aq×List ab)->Prop
 |[]=>True
 |(_,cs)::r=>fp cs=true/\AJ r
theorem Ej:∀{l:List (aq×List ab)} {k:aq} {cs:List ab},AJ l->look k l=some cs->fp cs=true
 |[],_,_,_,h=>by simp[look]at h
 |(j,p)::r,k,cs,h,J=>by
  simp only[look]at J;split at J
  ·cases J;exact h.1
  ·exact Ej h.2 J
def ox(st:aM)(s:Nat):ab:=match get s st.t with
 | .ptr k 0=>(match look k st.b with|some cs=>.agg cs|none=>.junk)
 |p=>p
def yx(base n:Nat):List aq:=(List.range' base n).map .obj
def qj(st:aM)(p:ab)(base:Nat)(ε:Nat->Nat):aM:=⟨rM (tn p) st.t,qw (tn p) st.b,cL ε base (bC p),st.n,yx base (bu (bC p))++st.o⟩
def qk(st:aM)(s base:Nat)(ε:Nat->Nat):aM:=match get s st.t with
 | .ptr k 0=>(match look k st.b with|some cs=>{qj st (.agg cs) base ε with b:=cu k (fH base (bF cs)) (qw (tn (.agg cs)) st.b)}|none=>qj st .junk base ε)
 |p=>{qj st p base ε with t:=put s (dr base (bC p)) (rM (tn p) st.t)}
def yw(st:aM)(p:ab)(base:Nat):Prop:=dt p/\(tn p).Nodup/\(∀m,.obj m∈st.o->m<base)/\AJ st.b
theorem JK{base n:Nat}{k:aq}:k∈yx base n↔∃m,k= .obj m/\base<=m/\m<base+n:=by simp only[yx,lE,List.mem_range'_1];exact⟨fun⟨m,h,e⟩=>⟨m,e.symm,h⟩,fun⟨m,e,h⟩=>⟨m,h,e.symm⟩⟩
theorem Mo(N:List (aq×Nat))(p:ab):(match hJ N p with| .hdm _ _=>false| .hdi _ _ _=>false|_=>true)=true:=by
 cases p with
 |slice sz tag xs=>
  cases tag with
  |tr k j=>by_cases e:(k,j)∈N<;>simp[hJ,e]
  |lo k=>by_cases e:(k,0)∈N<;>simp[hJ,e]
  |_=>cases xs<;>rfl
 |_=>rfl
theorem S1(N:List (aq×Nat)):∀cs,fp (lL N cs)=true
 |[]=>rfl
 |c::cs=>by have:=Mo N c;simp only[lL];cases h:hJ N c<;>simp_all[fp]
theorem Tu{C:db}{st:aM}{a:Act}{w:World}{ν:aC}(h:bK C st a w ν){k:aq}{cs cs':List ab}(J:look k st.b=some cs)(aV:fp cs=true)
  (hr:∀bl us el,ν.bx k=some bl->w.heap[bl]? =some (.cells us el)->bV w ν cs us.toList->bV w ν cs' us.toList):bK C {st with b:=cu k cs' st.b} a w ν:=by
 have ao:∀j,(look j (cu k cs' st.b)).isSome->(look j st.b).isSome:=fun j av=>by
  rw[hD]at av;split at av
  ·rename_i e;subst e;simp[J]
  ·exact av
 refine⟨⟨h.good.alt,fun j cn av=>?_,fun j dc bl I aa=>h.good.inj j dc bl (ao j I) (ao dc aa),h.good.own,h.good.oinj,fun g j n v bl I aa=>h.good.obx g j n v bl I (ao j aa),h.good.one,fun bl au=>h.good.otr bl (au.imp (fun⟨j,ai,aE⟩=>⟨j,ao j ai,aE⟩) id)⟩,h.fr,h.defers,h.size,h.slot,h.new,h.ext,h.obk⟩;rw[hD]at av;split at av
 ·rename_i e;subst e;cases av;obtain⟨bl,us,el,g1,g2,g3,g4,g5⟩:=h.good.box k cs J;rw[k7 aV]at g5;rw[lA aV]at g4;have g6:=hr bl us _ g1 g4 g5;have om:=qc g6;exact⟨bl,us,el,g1,g2,g3,by rw[lA om];exact g4,by rw[k7 om];exact g6⟩
 ·exact h.good.box j cn av
theorem Lp{C:db}{st:aM}{a:Act}{w:World}{ν:aC}(h:bK C st a w ν)(hex:C.ex=[])(bR:∀b o,C.ν0.A b o->b<C.w0.heap.size){p:ab}{v:Value}{base:Nat}(aV:aw w ν p v)(aA:yw st p base):
  ∃ε ν',bK C (qj st p base ε) a w ν'/\aw w ν' (dr base (bC p)) v/\ν'.bx=ν.bx:=by
 obtain⟨cJ,c2,c3,c4⟩:=aA;obtain⟨ε,ω,yC,tr,Uf⟩:=E5 (bC p) _ v base (Az h.fr.trd p v aV cJ c2);have ks:∀m,base<=m->fresh st.n st.o (.obj m):=fun m hm=>⟨trivial,fun J=>by have:=c3 m J;omega⟩;have Dq:∀m x,ω m=some x->ν.bx (.obj m)=none/\ν.ow (.obj m)=none/\∀j b,¬ν.tr (.obj m) j b:=fun m x hm=>h.new _ (ks m ((yC.dom m).1 (by rw[hm];rfl)).1);have hN:∀m x,ω m=some x->(iJ ν (tn p) ω).ow (.obj m)=some x:=fun m x hm=>by simp only[iJ,hm]
 have hold:∀k n u,ν.ow k=some (n,u)->(iJ ν (tn p) ω).ow k=some (n,u):=fun k n u J=>by
  cases k with
  |loc m=>exact J
  |obj m=>
   simp only[iJ];cases hm:ω m with
   |none=>exact J
   |some x=>rw[(Dq m x hm).2.1]at J;cases J
 have iD:∀k n u,(iJ ν (tn p) ω).ow k=some (n,u)->ν.ow k=some (n,u)\/ ∃m,k= .obj m/\ω m=some (n,u):=fun k n u J=>by
  cases k with
  |loc m=>exact .inl J
  |obj m=>
   simp only[iJ]at J;cases hm:ω m with
   |none=>rw[hm]at J;exact .inl J
   |some x=>rw[hm]at J;exact .inr ⟨m,rfl,by rw[<-J];exact hm⟩
 have ll:∀bl,iF ν (tn p) bl->C.w0.heap.size<=bl:=fun bl ⟨k,j,ai,aE⟩=>by have J:k≠dj:=J2 p cJ _ ai;exact(h.fr.trb k j bl aE).1.resolve_left J
 have gg:∀g o,look g (cL ε base (bC p))=some o->∃m,g= .obj m/\base<=m/\m<base+bu (bC p)/\∃u us,ω m=some (o.n,u)/\w.ownsRow 0 o.el o.sz u o.n us/\∃xs,o.xs=some xs/\xs.length=o.n/\cd w (iJ ν (tn p) ω) o.sz xs us:=fun g o aL=>by
  obtain⟨m,e,fx,fV⟩:=p7 ε _ base g o aL;obtain⟨u,us,bL,ck,dd⟩:=tr (iJ ν (tn p) ω) hN g o aL;subst e;refine⟨m,rfl,fx,fV,u,us,?_,ck,dd⟩;rcases iD _ _ _ bL with q|⟨k1,q,jb⟩
  ·rw[(h.new _ (ks m fx)).2.1]at q;cases q
  ·cases q;exact jb
 have fT:∀k cs,look k (qw (tn p) st.b)=some cs->∃cn,look k st.b=some cn/\cs=lL (tn p) cn:=fun k cs J=>by
  rw[qw,Ag]at J;cases aB:look k st.b with
  |none=>rw[aB]at J;cases J
  |some cn=>rw[aB]at J;cases J;exact⟨cn,rfl,rfl⟩
 have ni:∀k,(look k (qw (tn p) st.b)).isSome->(look k st.b).isSome:=fun k J=>by obtain⟨cs,cj⟩:=eb.1 J;obtain⟨cn,e,_⟩:=fT k cs cj;simp[e]
 have qP:∀g n v bl,(look g (cL ε base (bC p))).isSome->(iJ ν (tn p) ω).ow g=some (n,v)->v.ownBlock=some bl->iF ν (tn p) bl:=fun g n v bl I aa ak=>by obtain⟨o,ag⟩:=eb.1 I;obtain⟨m,rfl,fx,fV,u,us,bL,ck,dd⟩:=gg g o ag;rw[hN m _ bL]at aa;cases aa;obtain⟨fB,ai,aE⟩:=yC.blk m _ _ bL;rw[ak]at ai;cases ai;exact aE
 refine⟨ε,iJ ν (tn p) ω,⟨⟨fun bl o aN=>h.good.alt bl o aN.1,fun k cs J=>?_,fun k aW bl I aa=>h.good.inj k aW bl (ni k I) (ni aW aa),fun g o aL=>?_,fun g dF n n' v v' bl I aa ak aJ ba cq=>?_,fun g k n v bl I aa ak aJ ba=>?_,fun k=>?_,fun bl au k j af=>?_⟩,
  ⟨h.fr.os,h.fr.tape,h.fr.output,h.fr.size,h.fr.block,fun b o aN=>⟨⟨(h.fr.keep b o aN).1,fun af=>?_⟩,(h.fr.keep b o aN).2⟩,fun b o aN=>h.fr.fresh b o aN.1,h.fr.obj,h.fr.obn,fun m n u hm=>?_,h.fr.obr,fun k j aW dc b I aa=>h.fr.trd k j aW dc b I.1 aa.1,fun k j b af=>h.fr.trb k j b af.1,fun k j b af=>⟨(h.fr.trn k j b af.1).1,?_⟩,h.fr.sh,h.fr.nrow⟩,h.defers,h.size,fun i=>?_,fun k J=>?_,fun x ad=>(by rw[hex]at ad;cases ad),fun m hm aH=>h.obk m hm (n3 (cx _) (fun _ h=>iw _ h) aH)⟩,Uf _ hN,rfl⟩
 ·obtain⟨cn,ai,rfl⟩:=fT k cs J;obtain⟨bl,us,el,g1,g2,g3,g4,g5⟩:=h.good.box k cn ai;have gP:=Ej c4 ai;rw[k7 gP]at g5;rw[lA gP]at g4;have g6:=BC (N:=tn p) (ω:=ω) h.fr.trd cn _ g5;have om:=qc g6;exact⟨bl,us,el,g1,g2,fun o aN=>g3 o aN.1,by rw[lA om];exact g4,by rw[k7 om];exact g6⟩
 ·obtain⟨m,rfl,fx,fV,u,us,bL,ck,xs,dd,du,cy⟩:=gg g o aL;obtain⟨bl,ai,aE⟩:=yC.blk m _ _ bL;have gd:∀fB,u.ownBlock=some fB->∀j,¬(iJ ν (tn p) ω).A fB j:=fun fB af j aN=>by rw[ai]at af;cases af;exact aN.2 aE
  exact⟨u,us,hN m _ bL,ck,fun fB af=>⟨.inr (by rw[ai]at af;cases af;exact ll _ aE),fun j aN=>absurd aN (gd fB af j)⟩,fun xs' ad=>by rw[dd]at ad;cases ad;exact⟨du,cy,gd⟩⟩
 ·obtain⟨o,ag⟩:=eb.1 I;obtain⟨o',fM⟩:=eb.1 aa;obtain⟨m,rfl,_,_,u,us,bL,_⟩:=gg g o ag;obtain⟨k1,rfl,_,_,dn,a1,Kp,_⟩:=gg dF o' fM;rw[hN m _ bL]at ak;cases ak;rw[hN k1 _ Kp]at aJ;cases aJ;rw[yC.inj m k1 _ _ _ _ bl bL Kp ba cq]
 ·obtain⟨er,Dx,_,aE⟩:=qP g n v bl I ak aJ;exact h.good.otr bl (.inl ⟨k,ni k aa,ba⟩) er Dx aE
 ·rcases h.good.one k with I|I
  ·exact .inl I
  ·cases J:(iJ ν (tn p) ω).ow k with
   |none=>exact .inr rfl
   |some x=>
    rcases iD k x.1 x.2 J with aa|⟨m,rfl,aa⟩
    ·rw[I]at aa;cases aa
    ·exact .inl (Dq m _ aa).1
 ·rcases au with⟨aW,ai,aE⟩|⟨g,n,v,ai,aE,bb⟩
  ·exact h.good.otr bl (.inl ⟨aW,ni aW ai,aE⟩) k j af.1
  ·obtain⟨er,Dx,f1,f2⟩:=qP g n v bl ai aE bb;obtain⟨rfl,rfl⟩:=h.fr.trd k j er Dx bl af.1 f2;exact af.2 f1
 ·have:=ll b af;have:=bR b o aN;omega
 ·obtain⟨n',dn,ai,aE⟩:=h.fr.row m n u hm;exact⟨n',dn,hold _ _ _ ai,aE⟩
 ·have e:=(h.fr.trn k j b af.1).2;cases J:(iJ ν (tn p) ω).ow k with
  |none=>rfl
  |some x=>
   rcases iD k x.1 x.2 J with aa|⟨m,rfl,aa⟩
   ·rw[e]at aa;cases aa
   ·exact absurd af.1 ((Dq m _ aa).2.2 j b)
 ·show aw w (iJ ν (tn p) ω) (get i (rM (tn p) st.t)) _;rw[rM,Co (by simp[hJ])];exact BB h.fr.trd _ _ (h.slot i)
 ·obtain⟨bL,ck⟩:=J;have dd:k∉yx base (bu (bC p))/\k∉st.o:=by simp only[qj,hp,not_or]at ck;exact ck
  obtain⟨m1,m2,m3⟩:=h.new k ⟨bL,dd.2⟩;refine⟨m1,?_,fun j b af=>m3 j b af.1⟩;cases J:(iJ ν (tn p) ω).ow k with
  |none=>rfl
  |some x=>
   rcases iD k x.1 x.2 J with aa|⟨m,rfl,aa⟩
   ·rw[m2]at aa;cases aa
   ·exact absurd (JK.2 ⟨m,rfl,(yC.dom m).1 (by rw[aa];rfl)⟩) dd.1
theorem Ub{C:db}{st:aM}{a:Act}{w:World}{ν:aC}(h:bK C st a w ν)(hex:C.ex=[])(bR:∀b o,C.ν0.A b o->b<C.w0.heap.size){s base:Nat}(aA:yw st (ox st s) base):∃ε ν',bK C (qk st s base ε) a w ν':=by
 have Lb:ox st s=get s st.t->∃ε ν',bK C {qj st (get s st.t) base ε with t:=put s (dr base (bC (get s st.t))) (rM (tn (get s st.t)) st.t)} a w ν':=fun e=>by rw[e]at aA;obtain⟨ε,ν',eF,fy,_⟩:=Lp h hex bR (h.slot s) aA;exact⟨ε,ν',AW eF fy⟩
 cases J:get s st.t with
 |ptr k off=>
  cases off with
  |zero=>
   cases aB:look k st.b with
   |none=>simp only[ox,J,aB]at aA;exact absurd aA.1 (by simp[dt])
   |some cs=>
    have ai:ox st s= .agg cs:=by simp only[ox,J,aB]
    have aE:∀ε,qk st s base ε={qj st (.agg cs) base ε with b:=cu k (fH base (bF cs)) (qw (tn (.agg cs)) st.b)}:=fun ε=>by simp only[qk,J,aB]
    rw[ai]at aA;simp only[aE];obtain⟨bl,us,el,g1,g2,g3,g4,g5⟩:=h.good.box k cs aB;have gP:=Ej aA.2.2.2 aB;rw[k7 gP]at g5;rw[lA gP]at g4;obtain⟨ε,ν',eF,fy,kD⟩:=Lp h hex bR (p:= .agg cs) (v:= .agg us) (by simp only[aw];exact⟨us,rfl,g5⟩) aA;have hd:look k (qw (tn (.agg cs)) st.b)=some (lL (tn (.agg cs)) cs):=by rw[qw,Ag,aB];rfl
    refine⟨ε,ν',Tu eF hd (S1 _ _) fun Mt oB Nt f1 f2 _=>?_⟩;rw[kD,g1]at f1;cases f1;rw[g4]at f2;cases f2;simp only[dr,bC,aw]at fy;obtain⟨YI,bb,b9⟩:=fy;cases bb;exact b9
  |succ off=>
   have ai:ox st s=get s st.t:=by simp only[ox,J]
   have aE:∀ε,qk st s base ε={qj st (get s st.t) base ε with t:=put s (dr base (bC (get s st.t))) (rM (tn (get s st.t)) st.t)}:=fun ε=>by simp only[qk,J]
   simp only[aE];exact Lb ai
 |_=>
  have ai:ox st s=get s st.t:=by simp only[ox,J]
  have aE:∀ε,qk st s base ε={qj st (get s st.t) base ε with t:=put s (dr base (bC (get s st.t))) (rM (tn (get s st.t)) st.t)}:=fun ε=>by simp only[qk,J]
  simp only[aE];exact Lb ai
end
section
open Go Go.RowKit
inductive iM where
 |of (c:C)
 |sq (c:C) (d:iM)
 |sl (d:iM)
 |th (s:Nat) (d:iM)
def lP(P:bm)(ob:List aq):iM->(Exit->aM->Prop)->aM->Prop
 | .of c,Q,st=>b6 P ob c Q st
 | .sq c d,Q,st=>b6 P ob c (fun e st'=>match e with| .normal=>lP P ob d Q st'|e=>Q e st') st
 | .sl d,Q,st=> ∃st',hi ob st st'/\Ba st'/\lP P ob d Q (qe st')
 | .th s d,Q,st=> ∃st' base,hi ob st st'/\yw st' (ox st' s) base/\∀ε,lP P ob d Q (qk st' s base ε)
def tj(N:Nat)(aQ:List (Nat×cm)):iM->Code->Bool
 | .of c,code=>fb N aQ c code
 | .sq c d,.seq x y=>fb N aQ c x&&tj N aQ d y
 | .sl d,code=>tj N aQ d code
 | .th _ d,code=>tj N aQ d code
 |_,_=>false
theorem zb{P:bm}(hm:P.follows .mixedOrders=true){aQ:List (Nat×cm)}(au:dE P aQ=true){X:db}(hex:X.ex=[])(bR:∀b o,X.ν0.A b o->b<X.w0.heap.size):∀(d:iM) (code:Code) (Q:Exit->aM->Prop) (st:aM),tj X.N aQ d code=true->lP P X.ob d Q st->Br P X code Q st
 | .of c,code,Q,st,ag,he=>lj hm au c code Q st ag he
 | .sq c d,code,Q,st,ag,he=>by
  cases code<;>try(simp[tj]at ag;done)
  rename_i nX iT;simp only[tj,bD]at ag;intro a w ν hr;refine wp_seq ?_;refine wp_mono (lj hm au c nX _ st ag.1 he a w ν hr) fun e bG w' bn=>?_;obtain⟨st',ν',bj,bJ⟩:=bn;cases e with
  |normal=>exact zb hm au hex bR d iT Q st' ag.2 bj bG w' ν' bJ
  |_=>exact⟨st',ν',bj,bJ⟩
 | .sl d,code,Q,st,ag,he=>fun a w ν hr=>by obtain⟨st',I,aa,ak⟩:=he;exact zb hm au hex bR d code Q _ ag ak a w _ (TM (hr.weaker I) hex aa)
 | .th s d,code,Q,st,ag,he=>fun a w ν hr=>by obtain⟨st',base,hw,I,aa⟩:=he;obtain⟨ε,ν',bJ⟩:=Ub (hr.weaker hw) hex bR I;exact zb hm au hex bR d code Q _ ag (aa ε) a w ν' bJ
def zh(aQ:List (Nat×cm))(d:iM)(cz:List cG)(D1:Nat)(fn:Func):Bool:=
 match fn.body with
 |some code=>tj fn.ntmps aQ d code&&l4 aQ cz fn.results.toList&& !(fn.name== "runtime.NumGoroutine")&&decide (D1<=fn.ntmps)
 |none=>false
theorem c8.mkD{P:bm}(hm:P.follows .mixedOrders=true){aQ:List (Nat×cm)}(au:dE P aQ=true){f:FuncId}{fn:Func}(aH:P.funcs[f]? =some fn){d:iM}{cz:List cG}{n:Nat}(dI:zh aQ d cz n fn=true)
  {args:List ab} (aB:args.length<=n) {s:df} (iW:gG s) {Q:ab->df->Prop} (he:je args->(∀j cs,look j s.b=some cs->fp cs=true->jf cs)->lP P (ds s) d (eQ cz s Q) ⟨hg 0 args,s.b,s.e,0,ds s⟩):c8 P f args s Q:=by
 unfold zh at dI;split at dI
 ·rename_i code af;simp only[bD,fQ,oF]at dI;obtain⟨⟨⟨I,aa⟩,ak⟩,aJ⟩:=dI;exact c8.ofW au aH af ak aa (Nat.le_trans aB aJ) iW fun X jZ iE hex bR bL ck=>zb hm au hex bR d code _ _ (by rw[jZ];exact I) (by rw[iE];exact he bL ck)
 ·cases dI
theorem ca.mkD{P:bm}(hm:P.follows .mixedOrders=true){aQ:List (Nat×cm)}(au:dE P aQ=true){f:FuncId}{fn:Func}(aH:P.funcs[f]? =some fn){d:iM}{cz:List cG}{n:Nat}(dI:zh aQ d cz n fn=true)
  {args:List ab} (aB:args.length<=n) {r:ab} (hr:kin (fun _=>cv) r) (he:je args->lP P [] d (cC cz r) ⟨hg 0 args,[],[],0,[]⟩):ca P f args r:=by
 refine c8.mkD hm au aH dI aB oi fun I _=>?_;rw[<-FO hr];exact he I
def yJ(P:bm)(ob:List aq)(d:iM)(Q:Exit->aM->Prop)(e:Exit)(st:aM):Prop:=match e with
 | .normal=>lP P ob d Q st
 |e=>Q e st
section
variable {P:bm} {ob:List aq} {st:aM} {Q:Exit->aM->Prop} {c:C} {d:iM}
@[simp]theorem U6:yJ P ob d Q .normal st=lP P ob d Q st:=rfl
@[simp]theorem U7:yJ P ob d Q .ret st=Q .ret st:=rfl
@[simp]theorem U5{n:Nat}:yJ P ob d Q (.exit n) st=Q (.exit n) st:=rfl
@[simp]theorem Wh:lP P ob (.of c) Q st=b6 P ob c Q st:=rfl
@[simp]theorem Wi:lP P ob (.sq c d) Q st=b6 P ob c (yJ P ob d Q) st:=by simp only[lP];congr 1
theorem Oj(st':aM)(hw:hi ob st st')(aA:Ba st')(h:lP P ob d Q (qe st')):lP P ob (.sl d) Q st:=⟨st',hw,aA,h⟩
theorem Ol{s:Nat}(st':aM)(base:Nat)(hw:hi ob st st')(aA:yw st' (ox st' s) base)(h:∀ε,lP P ob d Q (qk st' s base ε)):lP P ob (.th s d) Q st:=⟨st',base,hw,aA,h⟩
end
end
section
open Go Go.RowKit
theorem yX:∀(xs ys:List ab),bX (xs++ys)=bX xs+bX ys
 |[],ys=>by simp[bX]
 |x::xs,ys=>by simp[bX,yX xs ys];omega
theorem y6:∀(b:Nat) (xs ys:List ab),fH b (xs++ys)=fH b xs++fH (b+bX xs) ys
 |b,[],ys=>by simp[fH,bX]
 |b,x::xs,ys=>by simp[fH,bX,y6 _ xs ys,Nat.add_assoc]
theorem yn(ε:Nat->Nat):∀(b:Nat) (xs ys:List ab),e6 ε b (xs++ys)=e6 ε b xs++e6 ε (b+bX xs) ys
 |b,[],ys=>by simp[e6,bX]
 |b,x::xs,ys=>by simp[e6,bX,yn ε _ xs ys,Nat.add_assoc]
mutual
theorem y2(ε:Nat->Nat):∀(p:ab) (b m:Nat),b<=m->m<b+bu p->∃o,look (.obj m) (cL ε b p)=some o
 | .slice sz t (x::xs),b,m,I,aa=>by
  simp only[bu]at aa;simp only[cL,look];by_cases e:b=m
  ·subst e;exact⟨_,if_pos rfl⟩
  ·rw[bh (by simpa using e),kA];by_cases ak:m<b+1+bu x
   ·obtain⟨o,ag⟩:=y2 ε x (b+1) m Ω ak;exact⟨o,by rw[ag]⟩
   ·obtain⟨o,ag⟩:=BX ε xs (b+1+bu x) m Ω Ω;cases ad:look (.obj m) (cL ε (b+1) x)with
    |some y=>exact⟨y,rfl⟩
    |none=>exact⟨o,ag⟩
 | .agg cs,b,m,I,aa=>by simp only[bu,cL]at aa⊢;exact BX ε cs b m I aa
 | .slice _ _ [],_,_,I,aa=>by simp only[bu]at aa;omega
 | .int _ _,_,_,I,aa=>by simp only[bu]at aa;omega
 | .bool _,_,_,I,aa=>by simp only[bu]at aa;omega
 | .str _,_,_,I,aa=>by simp only[bu]at aa;omega
 | .junk,_,_,I,aa=>by simp only[bu]at aa;omega
 | .ptr _ _,_,_,I,aa=>by simp only[bu]at aa;omega
 | .eptr _,_,_,I,aa=>by simp only[bu]at aa;omega
 | .iface _ _,_,_,I,aa=>by simp only[bu]at aa;omega
 | .nilp,_,_,I,aa=>by simp only[bu]at aa;omega
 | .tuple _,_,_,I,aa=>by simp only[bu]at aa;omega
 | .func _ _,_,_,I,aa=>by simp only[bu]at aa;omega
 | .gmap _,_,_,I,aa=>by simp only[bu]at aa;omega
 | .row _ _ _,_,_,I,aa=>by simp only[bu]at aa;omega
 | .rptr _ _ _ _ _,_,_,I,aa=>by simp only[bu]at aa;omega
 | .hdm _ _,_,_,I,aa=>by simp only[bu]at aa;omega
 | .hdi _ _ _,_,_,I,aa=>by simp only[bu]at aa;omega
 | .cst _,_,_,I,aa=>by simp only[bu]at aa;omega
theorem BX(ε:Nat->Nat):∀(aX:List ab) (b m:Nat),b<=m->m<b+bX aX->∃o,look (.obj m) (e6 ε b aX)=some o
 |[],b,m,I,aa=>by simp only[bX]at aa;omega
 |x::xs,b,m,I,aa=>by
  simp only[bX]at aa;simp only[e6];rw[kA];by_cases ak:m<b+bu x
  ·obtain⟨o,ag⟩:=y2 ε x b m I ak;exact⟨o,by rw[ag]⟩
  ·obtain⟨o,ag⟩:=BX ε xs (b+bu x) m Ω Ω;cases ad:look (.obj m) (cL ε b x)with
   |some y=>exact⟨y,rfl⟩
   |none=>exact⟨o,ag⟩
end
theorem vA{ε:Nat->Nat}{p:ab}{b m:Nat}(h:m<b\/b+bu p<=m):look (.obj m) (cL ε b p)=none:=by
 cases J:look (.obj m) (cL ε b p)with
 |none=>rfl
 |some o=>obtain⟨k1,e,fx,fV⟩:=p7 ε p b _ o J;cases e;omega
theorem JD{ε:Nat->Nat}{p:List ab}{b m:Nat}(h:m<b\/b+bX p<=m):look (.obj m) (e6 ε b p)=none:=by
 cases J:look (.obj m) (e6 ε b p)with
 |none=>rfl
 |some o=>obtain⟨k1,e,fx,fV⟩:=qY ε p b _ o J;cases e;omega
theorem RT{ε:Nat->Nat}{l r:List ab}{y:ab}{b:Nat}{k:aq}{o:cp}(h:look k (cL ε (b+bX l) y)=some o):look k (e6 ε b (l++y::r))=some o:=by obtain⟨m,rfl,fx,fV⟩:=p7 ε y _ k o h;rw[yn,kA,JD Ω];simp only[e6];rw[kA,h]
theorem RU{ε:Nat->Nat}{l r:List ab}{y y':ab}{b:Nat}(aA:bu y'=bu y){k:aq}{o:cp}(h:look k (e6 ε b (l++y'::r))=some o):
  look k (cL ε (b+bX l) y')=some o\/(look k (cL ε (b+bX l) y)=none/\look k (cL ε (b+bX l) y')=none/\look k (e6 ε b (l++y::r))=some o):=by
 obtain⟨m,rfl,fx,fV⟩:=qY ε _ _ k o h;simp only[yn,e6,kA,aA]at h⊢;by_cases I:m<b+bX l
 ·rw[vA (p:=y) (.inl I),vA (p:=y') (.inl I)];refine .inr ⟨rfl,rfl,?_⟩;rw[vA (p:=y') (.inl I)]at h;exact h
 ·rw[JD (p:=l) (.inr Ω)]at h⊢;by_cases aa:m<b+bX l+bu y
  ·obtain⟨o',fM⟩:=y2 ε y' (b+bX l) m Ω Ω;rw[fM]at h⊢;exact .inl h
  ·rw[vA (p:=y) (.inr Ω),vA (p:=y') (.inr Ω)];rw[vA (p:=y') (.inr Ω)]at h;exact .inr ⟨rfl,rfl,h⟩
end
section
open Go Go.RowKit
section
variable (b2:Int->List az)
mutual
def cK:ab->Int->ab×Int
 | .int dh _,k=>(.int dh k,k+1)
 | .str _,k=>(.str (b2 k),k+1)
 | .slice sz t xs,k=>(.slice sz t (bf xs k).1,(bf xs k).2)
 | .agg cs,k=>(.agg (bf cs k).1,(bf cs k).2)
 |p,k=>(p,k)
def bf:List ab->Int->List ab×Int
 |[],k=>([],k)
 |x::xs,k=>((cK x k).1::(bf xs (cK x k).2).1,(bf xs (cK x k).2).2)
end
theorem j6:∀(xs:List ab) (k:Int),(bf b2 xs k).1.length=xs.length
 |[],k=>by simp[bf]
 |x::xs,k=>by simp[bf,j6 xs]
mutual
theorem GX:∀(p:ab) (k:Int),bu (cK b2 p k).1=bu p
 | .int _ _,k=>by simp[cK,bu]
 | .str _,k=>by simp[cK,bu]
 | .slice _ _ [],k=>by simp[cK,bf,bu]
 | .slice _ _ (x::xs),k=>by simp[cK,bf,bu,GX x,mT xs]
 | .agg cs,k=>by simp[cK,bu,mT cs]
 | .bool _,k=>by simp[cK]
 | .junk,k=>by simp[cK]
 | .ptr _ _,k=>by simp[cK]
 | .eptr _,k=>by simp[cK]
 | .iface _ _,k=>by simp[cK]
 | .nilp,k=>by simp[cK]
 | .tuple _,k=>by simp[cK]
 | .func _ _,k=>by simp[cK]
 | .gmap _,k=>by simp[cK]
 | .row _ _ _,k=>by simp[cK]
 | .rptr _ _ _ _ _,k=>by simp[cK]
 | .hdm _ _,k=>by simp[cK]
 | .hdi _ _ _,k=>by simp[cK]
 | .cst _,k=>by simp[cK]
theorem mT:∀(aX:List ab) (k:Int),bX (bf b2 aX k).1=bX aX
 |[],k=>by simp[bf]
 |x::xs,k=>by simp[bf,bX,GX x,mT xs]
end
theorem Ao:∀(xs ys:List ab) (k:Int),bf b2 (xs++ys) k=((bf b2 xs k).1++(bf b2 ys (bf b2 xs k).2).1,(bf b2 ys (bf b2 xs k).2).2)
 |[],ys,k=>by simp[bf]
 |x::xs,ys,k=>by simp[bf,Ao xs ys]
mutual
theorem R2:∀(p:ab) (k:Int),k<=(cK b2 p k).2
 | .int _ _,k=>by simp[cK];omega
 | .str _,k=>by simp[cK];omega
 | .slice _ _ xs,k=>by simp only[cK];exact jw xs k
 | .agg cs,k=>by simp only[cK];exact jw cs k
 | .bool _,k=>by simp[cK]
 | .junk,k=>by simp[cK]
 | .ptr _ _,k=>by simp[cK]
 | .eptr _,k=>by simp[cK]
 | .iface _ _,k=>by simp[cK]
 | .nilp,k=>by simp[cK]
 | .tuple _,k=>by simp[cK]
 | .func _ _,k=>by simp[cK]
 | .gmap _,k=>by simp[cK]
 | .row _ _ _,k=>by simp[cK]
 | .rptr _ _ _ _ _,k=>by simp[cK]
 | .hdm _ _,k=>by simp[cK]
 | .hdi _ _ _,k=>by simp[cK]
 | .cst _,k=>by simp[cK]
theorem jw:∀(aX:List ab) (k:Int),k<=(bf b2 aX k).2
 |[],k=>by simp[bf]
 |x::xs,k=>by have I:=R2 x k;have aa:=jw xs (cK b2 x k).2;simp only[bf];omega
end
end
end
section
open Go Go.RowKit
inductive gR:ab->Prop
 |mk (a b:Int) (s:List az) (ys:List ab):(∀y∈ys,gR y)->gR (.agg [.int .i64 a,.int .i64 b,.str s,.slice 4 .no ys])
mutual
def pD:ab->Nat
 | .slice _ _ xs=>h9 xs
 | .agg cs=>1+h9 cs
 |_=>0
def h9:List ab->Nat
 |[]=>0
 |x::xs=>pD x+h9 xs
end
theorem uu:∀{xs:List ab} {x:ab},x∈xs->pD x<=h9 xs
 |y::ys,x,h=>by
  rcases gZ.1 h with rfl|h
  ·simp only[h9];omega
  ·have:=uu h;simp only[h9];omega
theorem gR.inv{p:ab}(h:gR p):∃a b s ys,p= .agg [.int .i64 a,.int .i64 b,.str s,.slice 4 .no ys]/\(∀y∈ys,gR y)/\pD p=1+h9 ys:=by
 cases h with
 |mk a b s ys h=>exact⟨a,b,s,ys,rfl,h,by simp[pD,h9]⟩
theorem yp{ε:Nat->Nat}{p:ab}{b:Nat}(k:aq):(look k (cL ε b p)).isSome=true↔∃m,k= .obj m/\b<=m/\m<b+bu p:=by
 constructor
 ·intro h;obtain⟨o,ag⟩:=eb.1 h;exact p7 ε p b k o ag
 ·rintro⟨m,rfl,I,aa⟩;obtain⟨o,ag⟩:=y2 ε p b m I aa;rw[ag];rfl
def rng(b c:Nat)(k:aq):Prop:= ∃m,k= .obj m/\b<=m/\m<c
theorem wc{b c fa fX:Nat}(I:fa<=b)(aa:c<=fX)(k:aq)(h:rng b c k):rng fa fX k:=by obtain⟨m,e,fx,fV⟩:=h;exact⟨m,e,Ω,Ω⟩
mutual
theorem og:∀(p:ab) (b:Nat),bN p->kin (rng b (b+bu p)) (dr b p)
 | .slice sz t [],b,h=>by simp[dr,kin,kinL]
 | .slice sz t (x::xs),b,h=>by simp only[dr,kin,bu];exact⟨b,rfl,Ω,Ω⟩
 | .agg cs,b,h=>by simp only[dr,kin,bu,bN]at h⊢;exact DF cs b h
 | .int _ _,_,_=>by simp[dr,kin]
 | .bool _,_,_=>by simp[dr,kin]
 | .str _,_,_=>by simp[dr,kin]
 | .junk,_,h=>by simp[bN]at h
 | .ptr _ _,_,h=>by simp[bN]at h
 | .eptr _,_,h=>by simp[bN]at h
 | .iface _ _,_,h=>by simp[bN]at h
 | .nilp,_,h=>by simp[bN]at h
 | .tuple _,_,h=>by simp[bN]at h
 | .func _ _,_,h=>by simp[bN]at h
 | .gmap _,_,h=>by simp[bN]at h
 | .row _ _ _,_,h=>by simp[bN]at h
 | .rptr _ _ _ _ _,_,h=>by simp[bN]at h
 | .hdm _ _,_,h=>by simp[bN]at h
 | .hdi _ _ _,_,h=>by simp[bN]at h
 | .cst _,_,h=>by simp[bN]at h
theorem DF:∀(aX:List ab) (b:Nat),dtL aX->kinL (rng b (b+bX aX)) (fH b aX)
 |[],b,h=>by simp[fH,kinL]
 |x::xs,b,h=>by simp only[dtL]at h;simp only[fH,kinL,bX];exact⟨mC (wc Ω Ω) _ (og x b h.1),lv (wc Ω Ω) _ (DF xs _ h.2)⟩
end
theorem xU{S T:aq->Prop}(h:∀k,S k->T k){o:cp}(J:eD S o):eD T o:=fun xs ad=>lv h _ (J xs ad)
mutual
theorem DJ{ε:Nat->Nat}:∀(p:ab) (b:Nat),bN p->∀k o,look k (cL ε b p)=some o->eD (rng b (b+bu p)) o
 | .slice sz t (x::xs),b,h,k,o,J=>by
  simp only[bN]at h;simp only[cL,look]at J;simp only[bu];split at J
  ·cases J;intro ys bs;cases bs;have:=DF (x::xs) (b+1) h.2;simp only[bX,fH]at this;exact lv (wc Ω Ω) _ this
  ·have:=DI (ε:=ε) (x::xs) (b+1) h.2 k o (by simpa only[e6]using J);simp only[bX]at this;exact xU (wc Ω Ω) this
 | .agg cs,b,h,k,o,J=>by simp only[cL,bu,bN]at h J⊢;exact DI cs b h k o J
 | .slice _ _ [],_,_,_,_,h=>by simp[cL,look]at h
 | .int _ _,_,_,_,_,h=>by simp[cL,look]at h
 | .bool _,_,_,_,_,h=>by simp[cL,look]at h
 | .str _,_,_,_,_,h=>by simp[cL,look]at h
 | .junk,_,h,_,_,_=>by simp[bN]at h
 | .ptr _ _,_,h,_,_,_=>by simp[bN]at h
 | .eptr _,_,h,_,_,_=>by simp[bN]at h
 | .iface _ _,_,h,_,_,_=>by simp[bN]at h
 | .nilp,_,h,_,_,_=>by simp[bN]at h
 | .tuple _,_,h,_,_,_=>by simp[bN]at h
 | .func _ _,_,h,_,_,_=>by simp[bN]at h
 | .gmap _,_,h,_,_,_=>by simp[bN]at h
 | .row _ _ _,_,h,_,_,_=>by simp[bN]at h
 | .rptr _ _ _ _ _,_,h,_,_,_=>by simp[bN]at h
 | .hdm _ _,_,h,_,_,_=>by simp[bN]at h
 | .hdi _ _ _,_,h,_,_,_=>by simp[bN]at h
 | .cst _,_,h,_,_,_=>by simp[bN]at h
theorem DI{ε:Nat->Nat}:∀(aX:List ab) (b:Nat),dtL aX->∀k o,look k (e6 ε b aX)=some o->eD (rng b (b+bX aX)) o
 |[],b,h,k,o,J=>by simp[e6,look]at J
 |x::xs,b,h,k,o,J=>by
  simp only[dtL]at h;simp only[e6,kA]at J;simp only[bX];cases I:look k (cL ε b x)with
  |some y=>rw[I]at J;cases J;exact xU (wc Ω Ω) (DJ x b h.1 k _ I)
  |none=>rw[I]at J;exact xU (wc Ω Ω) (DI xs _ h.2 k _ J)
end
abbrev dy(ε:Nat->Nat)(b:Nat)(p:ab):df:=⟨[],cL ε b p⟩
theorem yK{ε:Nat->Nat}{b:Nat}{p:ab}(k:aq):aI (dy ε b p) k↔rng b (b+bu p) k:=by unfold aI rng;rw[yp];simp[look]
theorem FP(ε:Nat->Nat)(b:Nat)(p:ab):gG (dy ε b p):=by
 refine⟨fun m=>by simp[look],fun m=>?_⟩;cases h:look (.loc m) (cL ε b p)with
 |none=>rfl
 |some o=>obtain⟨k1,e,_⟩:=p7 ε p b _ o h;cases e
theorem nR{ε:Nat->Nat}{b:Nat}{p:ab}(h:bN p):jU (dy ε b p):=⟨FP ε b p,fun k cs J=>by simp[look]at J,fun k o J=>xU (fun k J=>(yK k).2 J) (DJ p b h k o J)⟩
theorem rL{ε:Nat->Nat}{b:Nat}{p q:ab}(h:bu q=bu p):Same (dy ε b p) (dy ε b q):=⟨fun k=>rfl,fun k=>by rw[Bool.eq_iff_iff,yp,yp,h]⟩
theorem Mc{ε:Nat->Nat}{b:Nat}{p:ab}{k:aq}:k∈ds (dy ε b p)↔rng b (b+bu p) k:=by rw[<-yK (ε:=ε)];exact⟨Rq,fun h=>q2 h⟩
theorem CallDo.sub{P:bm}{n:Nat}{args:List ab}{st:aM}{d:aR Nat}{K:aM->Prop}{ε:Nat->Nat}{b:Nat}{l r:List ab}{y y' nA:ab}(bs:bN y)(aA:bu y'=bu y)
  (aH:c8 P n args (dy ε (b+bX l) y) fun cr aj=>cr=nA/\aj=dy ε (b+bX l) y')
  (he:∀k o,look k (e6 ε b (l++y::r))=some o->look k st.e=some o) (J:kinL (rng (b+bX l) (b+bX l+bu y)) args)
  (h:∀fC,(∀k o,look k (e6 ε b (l++y'::r))=some o->look k fC=some o)->(∀k,¬rng (b+bX l) (b+bX l+bu y) k->look k fC=look k st.e)->K ⟨eB d nA st.t,st.b,fC,st.n,st.o++ds (dy ε (b+bX l) y')⟩):CallDo P n args st d K:=by
 refine CallDo.ob aH (nR bs) (fun k cs J=>by simp[look]at J) (fun k o J=>he k o (RT J)) (lv (fun k J=>(yK k).2 J) _ J) ?_;rintro cr aj ⟨rfl,rfl⟩;refine⟨rL aA,?_⟩;simp only[wA,List.append_nil];refine h _ (fun k o J=>?_) fun k J=>?_
 ·rw[kA,pj];rcases RU aA J with I|⟨I,aa,ak⟩
  ·have:(look k (cL ε (b+bX l) y)).isSome=true:=by have:=yp (ε:=ε) (p:=y') (b:=b+bX l) k;rw[yp,<-aA,<-this,I];rfl
   rw[this];simp[I]
  ·rw[I];simp[he k o ak]
 ·have I:look k (cL ε (b+bX l) y)=none:=by
   cases bn:look k (cL ε (b+bX l) y)with
   |none=>rfl
   |some o=>exact absurd (p7 ε y _ k o bn) J
  have aa:look k (cL ε (b+bX l) y')=none:=by
   cases bn:look k (cL ε (b+bX l) y')with
   |none=>rfl
   |some o=>obtain⟨m,e,fx,fV⟩:=p7 ε y' _ k o bn;exact absurd ⟨m,e,fx,Ω⟩ J
  rw[kA,pj,I,aa];simp;cases look k st.e<;>rfl
theorem nM.val{P:bm}{f:FuncId}{args:List ab}{r:Nat->ab}(h:nM P f args r)(J:kin (fun _=>cv) (bC (r 0)):=by simp[bC,kin,kinL]):ca P f args (bC (r 0)):=by
 intro w ν vs gl I aa ak;have hm:∀(e:Ending) (w':World),(∃v cr aj ν',e= .returned v/\(cr=r 0/\aj=⟨[],[]⟩)/\aw w' ν' cr v/\Good (fun bl=>eX ν ⟨[],[]⟩ bl\/w.heap.size<=bl) w' ν' aj.b aj.e/\uT (some 0) ν' aj/\gG aj/\mh ⟨w,ν,eX ν ⟨[],[]⟩,0,ds ⟨[],[]⟩,gl,[]⟩ w' ν')->
   (∃v cr aj ν',e= .returned v/\(cr=bC (r 0)/\aj=⟨[],[]⟩)/\aw w' ν' cr v/\Good (fun bl=>eX ν ⟨[],[]⟩ bl\/w.heap.size<=bl) w' ν' aj.b aj.e/\oR ν' aj/\gG aj/\mh ⟨w,ν,eX ν ⟨[],[]⟩,0,ds ⟨[],[]⟩,gl,[]⟩ w' ν'):=by
  rintro e w' ⟨v,cr,aj,ν',bt,⟨rfl,rfl⟩,a3,a4,a5,yL,lJ⟩;have e9:∀k,ν.bx k=none:=fun k=>(aa k).1 rfl;have eA:∀k,ν.ow k=none:=fun k=>(aa k).2.1 rfl;refine⟨v,_,⟨[],[]⟩,ν'.cut fun _=>cv,bt,⟨rfl,rfl⟩,oo (kI.cut _ w' ν') _ _ J (sN _ v a3),a4.cut (fun k cs bn=>by simp[look]at bn) (fun k o bn=>by simp[look]at bn) (fun bl aV _=>aV),fun k=>?_,oi,
   ⟨lJ.os,lJ.tape,lJ.output,lJ.size,lJ.block,lJ.keep,lJ.fresh,fun n b af=>?_,lJ.obn,fun m n u hm=>?_,lJ.obr,fun k j aW dc b bL _=>bL.1.elim,fun k j b af=>af.1.elim,fun k j b af=>af.1.elim,lJ.sh,fun j n u b ai aE=>lJ.nrow j n u b (aC.cut_someO ai).2 aE⟩⟩
  ·obtain⟨bL,ck,dd⟩:=aC.cut_no (ν:=ν') (S:=fun _=>cv) (k:=k) (fun h=>h);exact⟨fun _=>bL,fun _=>ck,dd⟩
  ·rw[e9]at af;cases af
  ·rw[eA]at hm;cases hm
 rcases h 0 w ν vs gl I aa ak with⟨vd,aA⟩|⟨v,w',aA,hr⟩
 ·exact .inl ⟨vd,aA.mono hm⟩
 ·exact .inr ⟨v,w',aA,hm _ _ hr⟩
def dk{α:Type}(f:α->Nat->ab)(l:List (α×Nat)):List ab:=l.map fun p=>f p.1 p.2
@[simp]theorem XT{α:Type}(f:α->Nat->ab):dk f []=[]:=rfl
@[simp]theorem XS{α:Type}(f:α->Nat->ab)(l:List (α×Nat)):(dk f l).length=l.length:=by simp[dk]
@[simp]theorem D2{α:Type}(f:α->Nat->ab)(l:List (α×Nat))(x:α)(n:Nat):dk f (l++[(x,n)])=dk f l++[f x n]:=by simp[dk]
theorem nu(n:Nat):aq.loc n≠dj:=fun e=>by unfold dj at e;cases e
structure lg {α:Type} (n:Nat) (l:List (α×Nat)):Prop where
 nd:(l.map (·.2)).Nodup
 lt:∀p∈l,p.2<n
theorem lg.nil{α:Type}(n:Nat):lg n ([]:List (α×Nat)):=⟨Ψ,Ψ⟩
theorem lg.mono{α:Type}{n m:Nat}{l:List (α×Nat)}(h:lg n l)(hm:n<=m):lg m l:=⟨h.nd,fun p aV=>by have:=h.lt p aV;omega⟩
theorem lg.snoc{α:Type}{n m n':Nat}{l:List (α×Nat)}(h:lg n l)(x:α)(I:n<=m)(aa:m<n'):lg n' (l++[(x,m)]):=by
 refine⟨?_,fun p aV=>?_⟩
 ·rw[List.map_append,pM];refine⟨h.nd,Ψ,fun a b1 b af e=>?_⟩;simp at af;subst af;obtain⟨p,aV,rfl⟩:=lE.1 b1;have:=h.lt p aV;omega
 ·rcases hp.1 aV with aV|aV
  ·have:=h.lt p aV;omega
  ·simp at aV;subst aV;exact aa
structure mR {α:Type} (f:α->Nat->ab) (g:α->ab):Prop where
 tn:∀x n,tn (f x n)=[(.loc n,0)]
 ok:∀x n,dt (f x n)
 st:∀x n,bC (f x n)=g x
 ki:∀(S:aq->Prop) x n,S (.loc n)->kin S (f x n)
theorem mR.tnL{α:Type}{f:α->Nat->ab}{g:α->ab}(h:mR f g):∀(l:List (α×Nat)),Pv.tnL (dk f l)=(l.map (·.2)).map fun m=>(aq.loc m,0)
 |[]=>by simp[dk,Pv.tnL]
 |x::l=>by have:=h.tnL l;unfold dk at this;simp[dk,Pv.tnL,h.tn,this]
theorem mR.nodup{α:Type}{f:α->Nat->ab}{g:α->ab}(h:mR f g){n:Nat}{l:List (α×Nat)}(aB:lg n l):(Pv.tnL (dk f l)).Nodup:=by rw[h.tnL];refine YU _ (fun a b va e=>va ?_) aB.nd;simpa using e
theorem mR.okL{α:Type}{f:α->Nat->ab}{g:α->ab}(h:mR f g):∀(l:List (α×Nat)),ej (dk f l)
 |[]=>by simp[dk,ej]
 |x::l=>by have:=h.okL l;unfold dk at this;simp[dk,ej,h.ok,this]
theorem mR.stL{α:Type}{f:α->Nat->ab}{g:α->ab}(h:mR f g):∀(l:List (α×Nat)),bF (dk f l)=(l.map (·.1)).map g
 |[]=>by simp[dk,bF]
 |x::l=>by have:=h.stL l;unfold dk at this;simp[dk,bF,h.st,this]
theorem mR.kiL{α:Type}{f:α->Nat->ab}{g:α->ab}(h:mR f g){S:aq->Prop}:∀(l:List (α×Nat)),(∀p∈l,S (.loc p.2))->kinL S (dk f l)
 |[],_=>by simp[dk,kinL]
 |x::l,hL=>by have:=h.kiL l fun p aV=>hL p (by simp[aV]);unfold dk at this;simp only[dk,ig,kinL];exact⟨h.ki S x.1 x.2 (hL x Ψ),this⟩
theorem mR.kin{α:Type}{f:α->Nat->ab}{g:α->ab}(h:mR f g){n m:Nat}{l:List (α×Nat)}(aB:lg n l)(hm:n<=m)(o:List aq):kinL (fun k=> ¬fresh m o k) (dk f l)=True:=eq_true (h.kiL l fun p aV aH=>by have I:=aB.lt p aV;have aa:m<=p.2:=aH.1;omega)
theorem BZ:∀(a b:List ab),dtL (a++b)↔dtL a/\dtL b
 |[],b=>by simp[dtL]
 |x::a,b=>by simp[dtL,BZ a b,and_assoc]
mutual
theorem wZ(b2:Int->List az):∀(p:ab) (k:Int),bN p->bN (cK b2 p k).1
 | .int _ _,_,_=>by simp[cK,bN]
 | .bool _,_,_=>by simp[cK,bN]
 | .str _,_,_=>by simp[cK,bN]
 | .slice sz _ xs,k,h=>by simp only[cK,bN]at h⊢;exact⟨h.1,n1 b2 xs k h.2⟩
 | .agg cs,k,h=>by simp only[cK,bN]at h⊢;exact n1 b2 cs k h
 | .junk,_,h=>by simp[bN]at h
 | .ptr _ _,_,h=>by simp[bN]at h
 | .eptr _,_,h=>by simp[bN]at h
 | .iface _ _,_,h=>by simp[bN]at h
 | .nilp,_,h=>by simp[bN]at h
 | .tuple _,_,h=>by simp[bN]at h
 | .func _ _,_,h=>by simp[bN]at h
 | .gmap _,_,h=>by simp[bN]at h
 | .row _ _ _,_,h=>by simp[bN]at h
 | .rptr _ _ _ _ _,_,h=>by simp[bN]at h
 | .hdm _ _,_,h=>by simp[bN]at h
 | .hdi _ _ _,_,h=>by simp[bN]at h
 | .cst _,_,h=>by simp[bN]at h
theorem n1(b2:Int->List az):∀(aX:List ab) (k:Int),dtL aX->dtL (bf b2 aX k).1
 |[],k,h=>by simp[bf,dtL]
 |x::xs,k,h=>by simp only[bf,dtL]at h⊢;exact⟨wZ b2 x k h.1,n1 b2 xs _ h.2⟩
end
theorem qd{ε:Nat->Nat}{b sz:Nat}{t:iR}:∀{xs:List ab},xs≠[]->cL ε b (.slice sz t xs)=(.obj b,⟨xs.length,ε b,sz,some (fH (b+1) xs)⟩)::e6 ε (b+1) xs
 |[],h=>absurd rfl h
 |_::_,_=>rfl
theorem y8{b sz:Nat}{t:iR}:∀{xs:List ab},xs≠[]->dr b (.slice sz t xs)= .row sz (.obj b) xs.length
 |[],h=>absurd rfl h
 |_::_,_=>rfl
theorem w2{b sz:Nat}{t:iR}:∀{xs ys:List ab},xs.length=ys.length->dr b (.slice sz t xs)=dr b (.slice sz t ys)
 |[],[],_=>rfl
 |[],_::_,h=>by simp at h
 |_::_,[],h=>by simp at h
 |_::xs,_::ys,h=>by simp only[dr];simp at h;rw[h]
theorem y7{b:Nat}{l r:List ab}{x:ab}{i:Nat}(aD:l.length=i):(fH b (l++x::r))[i]? =some (dr (b+bX l) x):=by subst aD;rw[y6,List.getElem?_append_right (by rw[pT];exact cx _)];simp[pT,fH]
theorem Ha{b:Nat}{l r:List ab}{x wB:ab}{i:Nat}(aD:l.length=i)(aA:bu wB=bu x):(fH b (l++x::r)).set i (dr (b+bX l) wB)=fH b (l++wB::r):=by subst aD;rw[y6,y6,List.set_append_right _ _ (by rw[pT];exact cx _)];simp[pT,fH,aA]
theorem JU(b2:Int->List az)(l:List ab)(x:ab)(k:Int):bf b2 (l++[x]) k=((bf b2 l k).1++[(cK b2 x (bf b2 l k).2).1],(cK b2 x (bf b2 l k).2).2):=by rw[Ao];simp[bf]
theorem Ap(b2:Int->List az)(l:List ab)(k:Int)(i:Nat):(bf b2 (l.take i) k).2<=(bf b2 l k).2:=by have h:=Ao b2 (l.take i) (l.drop i) k;rw[List.take_append_drop]at h;rw[h];exact jw b2 _ _
def jv(b2:Int->List az)(l:List ab)(k:Int)(i:Nat):List ab:=(bf b2 (l.take i) k).1++l.drop i
theorem JT(b2:Int->List az)(l:List ab)(k:Int):jv b2 l k 0=l:=by simp[jv,bf]
theorem vD(b2:Int->List az)(l:List ab)(k:Int):jv b2 l k l.length=(bf b2 l k).1:=by simp[jv]
theorem q0(b2:Int->List az)(l:List ab)(k:Int)(i:Nat):(jv b2 l k i).length=l.length:=by simp[jv,j6];omega
theorem JQ(b2:Int->List az)(l:List ab)(k:Int)(i:Nat):bX (jv b2 l k i)=bX l:=by unfold jv;rw[yX,mT,<-yX,List.take_append_drop]
theorem JR(b2:Int->List az){l:List ab}(k:Int)(i:Nat)(h:dtL l):dtL (jv b2 l k i):=by rw[<-List.take_append_drop i l,BZ]at h;unfold jv;rw[BZ];exact⟨n1 b2 _ _ h.1,h.2⟩
theorem JP(b2:Int->List az){l:List ab}(k:Int){i:Nat}{x:ab}(h:l[i]? =some x):jv b2 l k i=(bf b2 (l.take i) k).1++x::l.drop (i+1):=by unfold jv;congr 1;obtain⟨aD,e⟩:=gp.1 h;rw[pJ aD,e]
theorem JS(b2:Int->List az){l:List ab}(k:Int){i:Nat}{x:ab}(h:l[i]? =some x):jv b2 l k (i+1)=(bf b2 (l.take i) k).1++(cK b2 x (bf b2 (l.take i) k).2).1::l.drop (i+1):=by
 unfold jv;have:l.take (i+1)=l.take i++[x]:=by rw[nJ,h];rfl
 rw[this,JU];simp
theorem JX(b2:Int->List az){l:List ab}(k:Int){i:Nat}{x:ab}(h:l[i]? =some x):(bf b2 l k).1=(bf b2 (l.take i) k).1++(cK b2 x (bf b2 (l.take i) k).2).1::(bf b2 (l.drop (i+1)) (cK b2 x (bf b2 (l.take i) k).2).2).1:=by
 obtain⟨aD,e⟩:=gp.1 h;have I:l=l.take i++x::l.drop (i+1):=by rw[<-e,<-pJ aD,List.take_append_drop]
 have aa:=Ao b2 (l.take i) (x::l.drop (i+1)) k;rw[<-I]at aa;rw[aa];simp only[bf]
theorem Am(b2:Int->List az){l:List ab}(k:Int){i:Nat}{x:ab}(h:l[i]? =some x):(bf b2 (l.take (i+1)) k).2=(cK b2 x (bf b2 (l.take i) k).2).2:=by
 have:l.take (i+1)=l.take i++[x]:=by rw[nJ,h];rfl
 rw[this,JU]
theorem xX(b2:Int->List az):∀{xs:List ab} (k:Int),(∀x∈xs,∃dh a cs,x= .agg (.int dh a::cs))->k+xs.length<=(bf b2 xs k).2
 |[],k,_=>by simp[bf]
 |x::xs,k,h=>by
  obtain⟨dh,a,cs,rfl⟩:=h x Ψ;have I:=xX b2 (xs:=xs) (cK b2 (.agg (.int dh a::cs)) k).2 fun y bs=>h y (by simp[bs]);have aa:k+1<=(cK b2 (.agg (.int dh a::cs)) k).2:=by simp only[cK,bf];exact jw b2 cs (k+1)
  simp only[bf,mc];omega
theorem B0:∀{l:List ab},dtL l↔∀x∈l,bN x
 |[]=>by simp[dtL]
 |x::l=>by simp[dtL,B0 (l:=l)]
theorem nW{sz:Nat}{t:iR}:∀{xs ys:List ab},xs.length=ys.length->bX xs=bX ys->bu (.slice sz t xs)=bu (.slice sz t ys)
 |[],[],_,_=>rfl
 |[],_::_,h,_=>by simp at h
 |_::_,[],h,_=>by simp at h
 |_::_,_::_,_,h=>by simp only[bu,bX]at h⊢;omega
@[simp]theorem wm{b sz:Nat}{t:iR}:∀{xs:List ab},bC (dr b (.slice sz t xs))=dr b (.slice sz t xs)
 |[]=>rfl
 |_::_=>rfl
@[simp]theorem XV{ε:Nat->Nat}{b m:Nat}{p:ab}(x:cp):((aq.loc m,x)∈cL ε b p)=cv:=eq_false fun h=>by have:=sD h;rw[(FP ε b p).2 m]at this;cases this
theorem hi.to{ε:Nat->Nat}{b:Nat}{p gw:ab}{st:aM}{t':List (Nat×ab)}(aG:bN p)(aA:bu p=bu gw)(au:∀x∈t',get x.1 st.t=x.2/\kin (rng b (b+bu gw)) x.2)(he:∀k o,look k (cL ε b p)=some o->look k st.e=some o):
  hi (ds (dy ε b gw)) st ⟨t',[],cL ε b p,0,ds (dy ε b gw)⟩:=by
 have hL:∀k,rng b (b+bu gw) k->¬fresh 0 (ds (dy ε b gw)) k:=fun k J aH=>aH.2 (Mc.2 J);refine⟨fun x ad=>⟨(au x ad).1,mC hL _ (au x ad).2⟩,fun k cs J=>by simp[look]at J,fun k o J=>⟨he k o J,hL k ?_,xU hL ?_⟩,fun m hm=>hm⟩
 ·rw[<-aA];exact p7 ε p b k o J
 ·rw[<-aA];exact DJ p b aG k o J
end
end Go.Pv
namespace Go.Proofs.YtlnndmgfngfeiaaDoor
section
open Go Go.Pv
def Gd:C:=(al [jA 1 0,bQ 2 false] (al [dv 3 4 1,l7 4 48 [.t 3,(cO 5000)],bc 5 .gtr 4 0,ae 2 5] .ret))
@[simp] def Kr:List cG:=[.tmp 2]
def Gc:C:=(al [bQ 2 false] (.seq (al [ae 4 0,a7 5 (.slen (.t 4)),bc 6 .lss 5 1,ae 7 6,b7 7 false 8 0,aO 7 false (a7 9 (.slen (.t 8))),aO 7 false (bc 10 .gtr 9 12),dD 11 7 10,ae 12 11,b7 12 false 13 0,aO 12 false (a7 14 (.sidx (.t 13) (cO 0))),aO 12 false (a7 15 (.bin .lss false (.t 14) (.c (.int .u8 97)))),dD 16 12 15,ae 17 16,b7 17 false 18 0,aO 17 false (a7 19 (.sidx (.t 18) (cO 0))),aO 17 false (a7 20 (.bin .gtr false (.t 19) (.c (.int .u8 122)))),dD 21 17 20] (be 21 (al [bQ 2 false] .ret) .skip)) (.seq (al [cF 3 1] (.block 0 (.loop (.seq (al [ae 22 3,ae 23 0,a7 24 (.slen (.t 23)),c6 25 .lss 22 24] (be 25 .skip (.exit 0))) (.seq (.block 1 (al [ae 28 0,ae 29 3,a7 30 (.sidx (.t 28) (.t 29)),a7 31 (.bin .geq false (.t 30) (.c (.int .u8 97))),ae 32 31,b7 32 true 33 0,b7 32 true 34 3,aO 32 true (a7 35 (.sidx (.t 33) (.t 34))),aO 32 true (a7 36 (.bin .leq false (.t 35) (.c (.int .u8 122)))),ff 37 32 36,ae 38 37,b7 38 false 39 0,b7 38 false 40 3,aO 38 false (a7 41 (.sidx (.t 39) (.t 40))),aO 38 false (a7 42 (.bin .geq false (.t 41) (.c (.int .u8 48)))),b7 38 false 43 42,b7 43 true 44 0,b7 43 true 45 3,aO 43 true (a7 46 (.sidx (.t 44) (.t 45))),aO 43 true (a7 47 (.bin .leq false (.t 46) (.c (.int .u8 57)))),aO 38 false (ff 48 43 47),dD 49 38 48,ae 50 49,b7 50 false 51 0,b7 50 false 52 3,aO 50 false (a7 53 (.sidx (.t 51) (.t 52))),aO 50 false (a7 54 (.bin .eql false (.t 53) (.c (.int .u8 45)))),dD 55 50 54,eK 56 55] (be 56 (al [bQ 2 false] .ret) .skip))) (.region [ae 26 3,bc 27 .add 26 1,ae 3 27])))))) (al [bQ 2 true] .ret))))
@[simp] def AM:List cG:=[.tmp 2]
def yS:C:=(al [jA 2 0,jA 3 1,hZ 4 dO] (al [dv 5 4 2,dv 6 4 3,jd 7 4 51 [.t 5,.t 6],kE 8 dO [(0,1,(cO 4)),(3,1,(.t 7))],bY 4 4 8] .ret))
@[simp] def Ta:List cG:=[.cell 4 true 4]
def Gf:C:=(al [jA 2 0,cF 4 0] (.seq (al [ae 7 1,bc 8 .lss 7 1] (be 8 (al [cF 4 (-1)] .ret) .skip)) (.seq (al [bE 9 0 1 2,bB 10 1 9,bc 11 .neq 10 4] (be 11 (.seq (al [bE 12 3 1 2,bB 13 1 12,ee 14 13,bc 15 .neq 14 0] (be 15 (al [cF 4 (-1)] .ret) .skip)) (.seq (al [bE 16 0 1 2,bB 17 1 16] (.block 0 (al [bc 19 .eql 17 0,ae 18 19] (be 18 (al [bE 20 1 1 2,bB 21 1 20,bc 22 .neq 21 0,ae 23 22,aO 23 false (bE 24 2 1 2),aO 23 false (bB 25 1 24),lD 23 false 26 (.bin .neq false (.t 25) (.c (.str []))),dD 27 23 26] (be 27 (al [cF 4 (-1)] .ret) .skip)) (al [bc 29 .eql 17 1,ae 28 29] (be 28 (al [bE 30 1 1 2,bB 31 1 30,bc 32 .lss 31 0,ae 33 32,aO 33 false (bE 34 1 1 2),aO 33 false (bB 35 1 34),aO 33 false (bc 36 .gtr 35 100000),dD 37 33 36,ae 38 37,aO 38 false (bE 39 2 1 2),aO 38 false (bB 40 1 39),lD 38 false 41 (.bin .neq false (.t 40) (.c (.str []))),dD 42 38 41] (be 42 (al [cF 4 (-1)] .ret) .skip)) (al [bc 44 .eql 17 2,ae 43 44] (be 43 (al [bE 45 1 1 2,bB 46 1 45,bc 47 .neq 46 0,ae 48 47,aO 48 false (bE 49 2 1 2),aO 48 false (bB 50 1 49),aO 48 false (ef 51 41 50),aO 48 false (eK 52 51),dD 53 48 52] (be 53 (al [cF 4 (-1)] .ret) .skip)) (al [bc 55 .eql 17 3,ae 54 55] (be 54 (al [bE 56 1 1 2,bB 57 1 56,bc 58 .lss 57 (-1000000000),ae 59 58,aO 59 false (bE 60 1 1 2),aO 59 false (bB 61 1 60),aO 59 false (bc 62 .gtr 61 1000000000),dD 63 59 62,ae 64 63,aO 64 false (bE 65 2 1 2),aO 64 false (bB 66 1 65),lD 64 false 67 (.bin .neq false (.t 66) (.c (.str []))),dD 68 64 67] (be 68 (al [cF 4 (-1)] .ret) .skip)) (al [cF 4 (-1)] .ret))))))))))) (al [cF 4 1] .ret))) .skip)) (.seq (al [bE 69 1 1 2,bB 70 1 69,bc 71 .neq 70 0,ae 72 71,aO 72 false (bE 73 2 1 2),aO 72 false (bB 74 1 73),lD 72 false 75 (.bin .neq false (.t 74) (.c (.str []))),dD 76 72 75,ae 77 76,aO 77 false (bE 78 3 1 2),aO 77 false (bB 79 1 78),aO 77 false (ee 80 79),aO 77 false (bc 81 .neq 80 2),dD 82 77 81] (be 82 (al [cF 4 (-1)] .ret) .skip)) (al [bE 83 3 1 2,bB 84 1 83,s0 85 4 84 0,dv 86 4 85,ae 87 1,bc 88 .sub 87 1,gK 89 48 86 88,ae 5 89] (.seq (al [ae 90 5,bc 91 .lss 90 0] (be 91 (al [cF 4 (-1)] .ret) .skip)) (al [bE 92 3 1 2,bB 93 1 92,s0 94 4 93 1,dv 95 4 94,ae 96 1,bc 97 .sub 96 1,ae 98 5,c6 99 .sub 97 98,gK 100 48 95 99,ae 6 100] (.seq (al [ae 101 6,bc 102 .lss 101 0] (be 102 (al [cF 4 (-1)] .ret) .skip)) (al [ae 103 5,a7 104 (.bin .add false (cO 1) (.t 103)),ae 105 6,c6 106 .add 104 105,ae 4 106] .ret)))))))))
@[simp] def AN:List cG:=[.tmp 4]
def Gi:C:=(al [bQ 2 false] (.seq (al [ae 5 0,ee 6 5,cF 7 0] (uy 8 7 6 (.seq (.block 1 (al [eS 9 4 5 7,dv 10 4 9,hZ 4 dO,bY 4 4 10] (al [dv 11 4 4,ef 12 33 11,eK 13 12] (be 13 (al [bQ 2 false] .ret) .skip)))) (.region [bc 14 .add 7 1,ae 7 14])))) (al [bQ 2 true] .ret)))
@[simp] def Tc:List cG:=[.tmp 2]
def GB:C:=(al [jA 2 0,jA 3 1,hZ 4 dO] (al [dv 5 4 2,dv 6 4 3,jd 7 4 51 [.t 5,.t 6],kE 8 dO [(0,1,(cO 4)),(3,1,(.t 7))],bY 4 4 8] .ret))
@[simp] def KC:List cG:=[.cell 4 true 4]
def aQ:List (Nat×cm):=[
 (3,⟨1,8,.int .i64,.int .i64 0⟩),
 (9,⟨1,16,.str,.str []⟩),
 (22,⟨1,24,.slice 51,.slice 4 .nil []⟩),
 (51,⟨4,56,.struct [(0,3),(1,3),(2,9),(3,22)],.agg [.int .i64 0,.int .i64 0,.str [],.slice 4 .nil []]⟩)]
theorem mixed:aP.follows .mixedOrders=true:=by kernel_rfl
theorem bZ{aQ:List (Nat×cm)}(au:dE aP aQ=true){f:FuncId}{fn:Func}(aH:aP.funcs[f]? =some fn){c:C}{cz:List cG}{n:Nat}(dI:dA aQ c cz n fn=true){args:List ab}{r:ab}(he:je args->b6 aP [] c (cC cz r) ⟨hg 0 args,[],[],0,[]⟩)(aB:args.length<=n:=by simp)(hr:kin (fun _=>cv) r:=by simp[kin]):ca aP f args r:=ca.mk mixed au aH dI aB hr he
theorem sY:dE aP aQ=true:=by kernel_rfl
theorem Sq:dA aQ Gd Kr 1 Tryd.f33=true:=by kernel_rfl
theorem OI:aP.funcs[(33:Nat)]? =some Tryd.f33:=Tryd.func33
theorem Sp:dA aQ Gc AM 1 Tryd.f41=true:=by kernel_rfl
theorem OH:aP.funcs[(41:Nat)]? =some Tryd.f41:=Tryd.func41
theorem Ec:dA aQ yS Ta 2 Tryd.f43=true:=by kernel_rfl
theorem Ch:aP.funcs[(43:Nat)]? =some Tryd.f43:=Tryd.func43
theorem Ss:dA aQ Gf AN 2 Tryd.f48=true:=by kernel_rfl
theorem OK:aP.funcs[(48:Nat)]? =some Tryd.f48:=Tryd.func48
theorem Sv:dA aQ Gi Tc 1 Tryd.f49=true:=by kernel_rfl
theorem ON:aP.funcs[(49:Nat)]? =some Tryd.f49:=Tryd.func49
theorem SM:dA aQ GB KC 2 Tryd.f54=true:=by kernel_rfl
theorem O4:aP.funcs[(54:Nat)]? =some Tryd.f54:=Tryd.func54
def Gt:C:=(al [jA 2 0,cF 4 0] (al [bE 5 2 1 2,bB 6 1 5,ae 7 1,gK 8 19 6 7,ae 1 8] (al [bE 9 3 1 2,bB 10 1 9,ae 11 1,gK 12 20 10 11,ae 1 12] (al [ae 13 1,ae 4 13] .ret))))
@[simp] def Kx:List cG:=[.tmp 4]
def Gs:C:=(al [jA 2 0,cF 4 0] (al [bE 5 2 1 2,bB 6 1 5,ae 7 1,gK 8 21 6 7,ae 1 8] (.seq (al [ae 9 1,bc 10 .lss 9 0] (be 10 (al [cF 4 (-1)] .ret) .skip)) (al [bE 11 3 1 2,bB 12 1 11,ae 13 1,gK 14 22 12 13,ae 1 14] (.seq (al [ae 15 1,bc 16 .lss 15 0] (be 16 (al [cF 4 (-1)] .ret) .skip)) (al [ae 17 1,ae 4 17] .ret))))))
@[simp] def Ku:List cG:=[.tmp 4]
def BL:C:=(al [cF 4 0] (.seq (al [cF 5 0] (.block 0 (.loop (.seq (al [ae 6 5,ae 7 0,ee 8 7,c6 9 .lss 6 8] (be 9 .skip (.exit 0))) (.seq (.block 1 (al [ae 12 0,ae 13 5,ae 14 1,eS 15 4 12 13,bE 16 0 1 15,bY 1 16 14] (al [ae 17 1,bc 18 .add 17 1,ae 1 18] (al [ae 19 0,ae 20 5,ae 21 1,eS 22 4 19 20,bE 23 1 1 22,bY 1 23 21] (al [ae 24 1,bc 25 .add 24 1,ae 1 25] (al [ae 26 0,ae 27 5,ae 28 1,ef 29 36 28,eS 30 4 26 27,bE 31 2 1 30,bY 1 31 29] (al [ae 32 1,bc 33 .add 32 1,ae 1 33] (.region [ae 34 0,ae 35 5,eS 36 4 34 35,bE 37 3 1 36,bB 38 1 37,ae 39 1,gK 40 19 38 39,ae 1 40])))))))) (.region [ae 10 5,bc 11 .add 10 1,ae 5 11])))))) (al [ae 41 1,ae 4 41] .ret)))
@[simp] def Kz:List cG:=[.tmp 4]
def BK:C:=(al [cF 4 0] (.seq (al [cF 5 0] (.block 0 (.loop (.seq (al [ae 6 5,ae 7 0,ee 8 7,c6 9 .lss 6 8] (be 9 .skip (.exit 0))) (.seq (.block 1 (al [ae 12 0,ae 13 5,ae 14 1,eS 15 4 12 13,bE 16 0 1 15,bY 1 16 14] (al [ae 17 1,bc 18 .add 17 1,ae 1 18] (al [ae 19 0,ae 20 5,ae 21 1,ef 22 36 21,eS 23 4 19 20,bE 24 1 1 23,bY 1 24 22] (al [ae 25 1,bc 26 .add 25 1,ae 1 26] (al [ae 27 0,ae 28 5,eS 29 4 27 28,bE 30 2 1 29,bB 31 1 30,ae 32 1,gK 33 19 31 32,ae 1 33] (.region [ae 34 0,ae 35 5,eS 36 4 34 35,bE 37 3 1 36,bB 38 1 37,ae 39 1,gK 40 20 38 39,ae 1 40]))))))) (.region [ae 10 5,bc 11 .add 10 1,ae 5 11])))))) (al [ae 41 1,ae 4 41] .ret)))
@[simp] def Ky:List cG:=[.tmp 4]
def BJ:C:=(al [cF 4 0] (.seq (al [cF 5 0] (.block 0 (.loop (.seq (al [ae 6 5,ae 7 0,ee 8 7,c6 9 .lss 6 8] (be 9 .skip (.exit 0))) (.seq (.block 1 (.seq (al [ae 12 0,ae 13 5,eS 14 4 12 13,bE 15 0 1 14,bB 16 1 15,ae 17 1,c6 18 .neq 16 17] (be 18 (al [cF 4 (-1)] .ret) .skip)) (al [ae 19 1,bc 20 .add 19 1,ae 1 20] (.seq (al [ae 21 0,ae 22 5,eS 23 4 21 22,bE 24 1 1 23,bB 25 1 24,ae 26 1,c6 27 .neq 25 26] (be 27 (al [cF 4 (-1)] .ret) .skip)) (al [ae 28 1,bc 29 .add 28 1,ae 1 29] (.seq (.seq (.drawn true 50 [ae 30 0,ae 31 5,eS 32 4 30 31,bE 33 2 1 32,bB 34 1 33,ae 35 1,ef 36 36 35,c6 37 .neq 34 36]) (be 37 (al [cF 4 (-1)] .ret) .skip)) (al [ae 38 1,bc 39 .add 38 1,ae 1 39] (al [ae 40 0,ae 41 5,eS 42 4 40 41,bE 43 3 1 42,bB 44 1 43,ae 45 1,gK 46 21 44 45,ae 1 46] (al [ae 47 1,bc 48 .lss 47 0] (be 48 (al [cF 4 (-1)] .ret) .skip)))))))))) (.region [ae 10 5,bc 11 .add 10 1,ae 5 11])))))) (al [ae 49 1,ae 4 49] .ret)))
@[simp] def Kw:List cG:=[.tmp 4]
def BI:C:=(al [cF 4 0] (.seq (al [cF 5 0] (.block 0 (.loop (.seq (al [ae 6 5,ae 7 0,ee 8 7,c6 9 .lss 6 8] (be 9 .skip (.exit 0))) (.seq (.block 1 (.seq (al [ae 12 0,ae 13 5,eS 14 4 12 13,bE 15 0 1 14,bB 16 1 15,ae 17 1,c6 18 .neq 16 17] (be 18 (al [cF 4 (-1)] .ret) .skip)) (al [ae 19 1,bc 20 .add 19 1,ae 1 20] (.seq (.seq (.drawn true 50 [ae 21 0,ae 22 5,eS 23 4 21 22,bE 24 1 1 23,bB 25 1 24,ae 26 1,ef 27 36 26,c6 28 .neq 25 27]) (be 28 (al [cF 4 (-1)] .ret) .skip)) (al [ae 29 1,bc 30 .add 29 1,ae 1 30] (al [ae 31 0,ae 32 5,eS 33 4 31 32,bE 34 2 1 33,bB 35 1 34,ae 36 1,gK 37 21 35 36,ae 1 37] (.seq (al [ae 38 1,bc 39 .lss 38 0] (be 39 (al [cF 4 (-1)] .ret) .skip)) (al [ae 40 0,ae 41 5,eS 42 4 40 41,bE 43 3 1 42,bB 44 1 43,ae 45 1,gK 46 22 44 45,ae 1 46] (al [ae 47 1,bc 48 .lss 47 0] (be 48 (al [cF 4 (-1)] .ret) .skip)))))))))) (.region [ae 10 5,bc 11 .add 10 1,ae 5 11])))))) (al [ae 49 1,ae 4 49] .ret)))
@[simp] def Kv:List cG:=[.tmp 4]
def BM:C:=(al [a7 2 (.mov (.c (.str [])))] (.seq (al [ae 4 0,bc 5 .leq 4 0] (be 5 (al [a7 2 (.mov (.c (.str [109,48])))] .ret) .skip)) (al [a7 3 (.mov (.c (.str [])))] (.seq (.block 0 (.loop (.seq (al [ae 6 0,bc 7 .gtr 6 0] (be 7 .skip (.exit 0))) (.block 1 (al [ae 8 0,bc 9 .rem 8 10,a7 10 (.bin .add false (cO 48) (.t 9)),a7 11 (.conv .u8 (.t 10)),jd 12 1 5 [.t 11],a7 13 (.b2s (.t 12)),ae 14 3,c6 15 .add 13 14,ae 3 15] (.region [ae 16 0,bc 17 .quo 16 10,ae 0 17])))))) (al [ae 18 3,a7 19 (.bin .add false (.c (.str [109])) (.t 18)),ae 2 19] .ret)))))
@[simp] def KA:List cG:=[.tmp 2]
def sW:List (Nat×cm):=[
 (3,⟨1,8,.int .i64,.int .i64 0⟩),
 (5,⟨1,1,.int .u8,.int .u8 0⟩),
 (9,⟨1,16,.str,.str []⟩),
 (22,⟨1,24,.slice 51,.slice 4 .nil []⟩),
 (23,⟨1,24,.slice 25,.slice 4 .nil []⟩),
 (25,⟨4,72,.struct [(0,3),(1,9),(2,22),(3,23)],.agg [.int .i64 0,.str [],.slice 4 .nil [],.slice 4 .nil []]⟩),
 (51,⟨4,56,.struct [(0,3),(1,3),(2,9),(3,22)],.agg [.int .i64 0,.int .i64 0,.str [],.slice 4 .nil []]⟩),
 (72,⟨1,24,.slice 5,.slice 1 .nil []⟩)]
theorem oz:dE aP sW=true:=by kernel_rfl
theorem SE:dA sW Gt Kx 2 Tryd.f7=true:=by kernel_rfl
theorem OW:aP.funcs[(7:Nat)]? =some Tryd.f7:=Tryd.func7
theorem SD:dA sW Gs Ku 2 Tryd.f8=true:=by kernel_rfl
theorem OV:aP.funcs[(8:Nat)]? =some Tryd.f8:=Tryd.func8
theorem J9:dA sW BL Kz 2 Tryd.f19=true:=by kernel_rfl
theorem Ho:aP.funcs[(19:Nat)]? =some Tryd.f19:=Tryd.func19
theorem J8:dA sW BK Ky 2 Tryd.f20=true:=by kernel_rfl
theorem Hn:aP.funcs[(20:Nat)]? =some Tryd.f20:=Tryd.func20
theorem J7:dA sW BJ Kw 2 Tryd.f21=true:=by kernel_rfl
theorem Hm:aP.funcs[(21:Nat)]? =some Tryd.f21:=Tryd.func21
theorem J6:dA sW BI Kv 2 Tryd.f22=true:=by kernel_rfl
theorem Hl:aP.funcs[(22:Nat)]? =some Tryd.f22:=Tryd.func22
theorem Ka:dA sW BM KA 1 Tryd.f36=true:=by kernel_rfl
theorem Hp:aP.funcs[(36:Nat)]? =some Tryd.f36:=Tryd.func36
def tY:Nat->Int->List az->List az
 |0,_,o=>o
 |f+1,k,o=>if k<=0 then o else tY f (k/10) (lF (IntKind.u8.wrap (48+k.tmod 10)).toNat::o)
def bz(k:Int):List az:=if k<=0 then [109,48]else 109::tY k.toNat k []
theorem Bn(k:Int)(J:k<=4611686018427387904):ca aP 36 [.int .i64 k] (.str (bz k)):=by
 by_cases bR:k<=0
 ·rw[bz,if_pos bR];refine bZ oz Hp Ka fun aT=>?_;unfold BM;exact cH
 rw[bz,bh bR];refine bZ oz Hp Ka fun aT=>?_;unfold BM;simp;(with_reducible repeat' first|refine aK ?_|simp[bR]);refine jI (fun(x:Int×List az)=>⟨[(0,.int .i64 x.1),(3,.str x.2)],[],[],0,[]⟩) (fun x=>x.1.toNat) (fun x=>0<=x.1/\x.1<=4611686018427387904/\x.1.toNat*10 ^ x.2.length<=4611686018427387904/\x.2.length<=19/\∃f:Nat,x.1<=f/\tY f x.1 x.2=tY k.toNat k []) (k,[]) dQ ⟨Ω,J,by simp;omega,Ψ,k.toNat,by simp;omega,rfl⟩ ?_;rintro⟨j,o⟩ ⟨I,aa,ak,qM,f,aJ,ba⟩ _;simp only at I aa ak qM aJ ba;by_cases av:0<j
 ·have aB:o.length<=18:=by
   rcases Nat.lt_or_ge 18 o.length with h|h
   ·have cq:10 ^ 19<=10 ^ o.length:=Nat.pow_le_pow_right Ω Ω;have dR:1*10 ^ o.length<=j.toNat*10 ^ o.length:=Nat.mul_le_mul_right _ Ω;omega
   ·exact h
  have aG:j.tdiv 10=j/10:=Int.tdiv_eq_ediv_of_nonneg I;have hm:j.tmod 10=j%10:=Int.tmod_eq_emod_of_nonneg I;have hw:jS.wrap (j.tdiv 10)=j/10:=by rw[aG];exact k9 _ Ω
  simp[av];(with_reducible repeat' first|refine aK ?_|simp);all_goals first|(refine⟨by unfold bk;omega,by unfold b0;omega,?_⟩)|skip
  rw[hw];obtain⟨gB,rfl⟩:∃gB,f=gB+1:=⟨f-1,Ω⟩;refine cQ.whl (j/10,lF (IntKind.u8.wrap (48+j.tmod 10)).toNat::o) (by simp;omega) ⟨by simp;omega,by simp;omega,?_,by simp;omega,gB,by simp;omega,?_⟩ dQ
  ·simp only[mc,Nat.pow_succ];have cq:(j/10).toNat*10<=j.toNat:=Ω
   have dR:=Nat.mul_le_mul_right (10 ^ o.length) cq;rw[Nat.mul_assoc,Nat.mul_comm 10]at dR;omega
  ·rw[<-ba];simp only[tY];rw[bh Ω]
 ·simp[av];(with_reducible repeat' first|refine aK ?_|simp);all_goals first|(refine⟨by unfold b0;omega,?_⟩)|skip
  have rT:tY f j o=o:=by cases f<;>simp[tY];omega
  rw[rT]at ba;rw[<-ba];simp[cC,KA,bd,bo,a6]
theorem gR.dt':∀(n:Nat),(∀p,pD p<=n->gR p->bN p)/\(∀aX,h9 aX<=n->(∀p∈aX,gR p)->dtL aX)
 |0=>by
  refine⟨fun p aV h=>?_,fun aX aV h=>?_⟩
  ·obtain⟨a,b,s,ys,_,_,e⟩:=h.inv;omega
  ·cases aX with
   |nil=>simp[dtL]
   |cons p aX=>obtain⟨a,b,s,ys,_,_,e⟩:=(h p Ψ).inv;simp only[h9]at aV;omega
 |n+1=>by
  obtain⟨_,a8⟩:=gR.dt' n;have I:∀p,pD p<=n+1->gR p->bN p:=fun p aV h=>by obtain⟨a,b,s,ys,rfl,bs,e⟩:=h.inv;simp only[bN,dtL,true_and,and_true];exact⟨Ω,a8 ys Ω bs⟩
  refine⟨I,fun aX aV h=>B0.2 fun x ad=>I x ?_ (h x ad)⟩;have:=uu ad;omega
theorem gR.dtL{aX:List ab}(h:∀p∈aX,gR p):dtL aX:=(gR.dt' _).2 aX (cx _) h
theorem B5(c:Nat)(a bG:Int)(s:List az)(t:iR)(ys:List ab):dr c (.agg [.int .i64 a,.int .i64 bG,.str s,.slice 4 t ys])= .agg [.int .i64 a,.int .i64 bG,.str s,dr c (.slice 4 t ys)]:=rfl
theorem JW(b2:Int->List az)(a bG:Int)(s:List az)(t:iR)(ys:List ab)(k:Int):cK b2 (.agg [.int .i64 a,.int .i64 bG,.str s,.slice 4 t ys]) k=(.agg [.int .i64 k,.int .i64 (k+1),.str (b2 (k+1+1)),.slice 4 t (bf b2 ys (k+1+1+1)).1],(bf b2 ys (k+1+1+1)).2):=by simp[cK,bf]
theorem KV(ε:Nat->Nat)(c:Nat)(a bG:Int)(s:List az)(t:iR)(ys:List ab):cL ε c (.agg [.int .i64 a,.int .i64 bG,.str s,.slice 4 t ys])=cL ε c (.slice 4 t ys):=by show []++([]++([]++(cL ε (c+0+0+0) (.slice 4 t ys)++[])))=_;simp
theorem uM(a bG:Int)(s:List az)(t:iR)(ys:List ab):bu (.agg [.int .i64 a,.int .i64 bG,.str s,.slice 4 t ys])=bu (.slice 4 t ys):=by show 0+(0+(0+(bu (.slice 4 t ys)+0)))=_;omega
theorem UG(k:Int):ca aP 19 [.slice 4 .no [],.int .i64 k] (.int .i64 k):=by refine bZ oz Ho J9 fun aT=>?_;unfold BL;simp;(with_reducible repeat' first|refine aK ?_|simp);refine iy (fun i (_:Unit)=>⟨[(0,.slice 4 .no []),(1,.int .i64 k),(5,.int .i64 i)],[],[],0,[]⟩) 0 (fun _ _=>True) () dQ trivial (fun _ _ _=>?_) (fun i _ aD _ _=>Ω);exact cH
theorem HP(k:Int)(b:Nat)(ε:Nat->Nat):c8 aP 19 [dr b (.slice 4 .no []),.int .i64 k] (dy ε b (.slice 4 .no [])) fun r aj=>r= .int .i64 k/\aj=dy ε b (.slice 4 .no []):=UG k
theorem Uw(k:Int):ca aP 21 [.slice 4 .no [],.int .i64 k] (.int .i64 k):=by refine bZ oz Hm J7 fun aT=>?_;unfold BJ;simp;(with_reducible repeat' first|refine aK ?_|simp);refine iy (fun i (_:Unit)=>⟨[(0,.slice 4 .no []),(1,.int .i64 k),(5,.int .i64 i)],[],[],0,[]⟩) 0 (fun _ _=>True) () dQ trivial (fun _ _ _=>?_) (fun i _ aD _ _=>Ω);exact cH
theorem HM(k:Int)(b:Nat)(ε:Nat->Nat):c8 aP 21 [dr b (.slice 4 .no []),.int .i64 k] (dy ε b (.slice 4 .no [])) fun r aj=>r= .int .i64 k/\aj=dy ε b (.slice 4 .no []):=Uw k
theorem HO:∀(n:Nat) (xs:List ab),h9 xs<=n->(∀x∈xs,gR x)->∀(k:Int) (b:Nat) (ε:Nat->Nat),0<=k->(bf bz xs k).2<=4611686018427387904->
  c8 aP 19 [dr b (.slice 4 .no xs),.int .i64 k] (dy ε b (.slice 4 .no xs)) fun r aj=>r= .int .i64 (bf bz xs k).2/\aj=dy ε b (.slice 4 .no (bf bz xs k).1):=by
 intro n;induction n with
 |zero=>
  intro xs cE ad k b ε bR J;cases xs with
  |nil=>exact HP k b ε
  |cons x xs=>obtain⟨a,bG,s,ys,_,_,e⟩:=(ad x Ψ).inv;simp only[h9]at cE;omega
 |succ n a8=>
 intro xs cE ad k b ε bR J;have aG:dtL xs:=gR.dtL ad;have ao:jU (dy ε b (.slice 4 .no xs)):=nR (by simp[bN,aG]);by_cases b5:xs=[]
 ·subst b5;exact HP k b ε
 have PV:(bf bz (xs.take 0) k).2=k:=by simp[bf]
 refine c8.mk mixed oz Ho J9 Ψ ao.obj fun aT dG=>?_;unfold BL;rw[y8 b5];simp;(with_reducible repeat' first|refine aK ?_|simp);have tE:∀i,bu (.slice 4 .no (jv bz xs k i))=bu (.slice 4 .no xs):=fun i=>nW (q0 ..) (JQ ..);have kS:∀i,bN (.slice 4 .no (jv bz xs k i)):=fun i=>by simp only[bN];exact⟨Ω,JR _ _ _ aG⟩
 have gg:rng b (b+bu (.slice 4 .no xs)) (.obj b):=⟨b,rfl,cx _,by cases xs with|nil=>exact absurd rfl b5|cons x xs=>simp only[bu];omega⟩;have CT:=xX bz (xs:=xs) k fun x h=>by obtain⟨a,bG,s,ys,rfl,_⟩:=(ad x h).inv;exact⟨_,_,_,rfl⟩
 have WX:∀i,jv bz xs k i≠[]:=fun i e=>b5 (List.length_eq_zero_iff.1 (by rw[<-q0 bz xs k i,e];rfl));refine iy (fun i (_:Unit)=>⟨[(0,.row 4 (.obj b) xs.length),(1,.int .i64 (bf bz (xs.take i) k).2),(5,.int .i64 i)],[],cL ε b (.slice 4 .no (jv bz xs k i)),0,ds (dy ε b (.slice 4 .no xs))⟩) xs.length (fun _ _=>True) () ?_ trivial (fun _ _ _=>?_) (fun i _ aD _ _=>?_)
 ·refine hi.to (kS _) (tE _) ?_ (fun k o h=>by rw[JT]at h;exact h);simp[Pv.kin,gg,bf]
 ·rw[vD,ld];simp;(with_reducible repeat' first|refine aK ?_|simp);refine eQ.at (dy ε b (.slice 4 .no (bf bz xs k).1)) Ψ (nR (by rw[<-vD];exact kS _)) (rL (by rw[<-vD];exact tE _)) (fun k cs h=>by simp[Pv.look]at h) (fun k o h=>h) ?_;simp[fG,Kz,bd,bo,a6]
 ·obtain⟨x,hX⟩:∃x,xs[i]? =some x:=⟨_,eo aD⟩;have hm:=gL hX;have I:k<=(bf bz (xs.take i) k).2:=jw _ _ _;have aa:=Ap bz xs k (i+1);have bb:=Am bz k hX;have b9:=JP bz k hX;have ft:=JS bz k hX;have h2:(bf bz (xs.take i) k).1.length=i:=by rw[j6];simp;omega
  have l0:=fun(t':List (Nat×ab)) (st:aM)=>hi.to (t':=t') (st:=st) (ε:=ε) (b:=b) (kS (i+1)) (tE (i+1));rw[bb]at aa;have hlen:((bf bz (xs.take i) k).1++x::xs.drop (i+1)).length=xs.length:=by rw[<-b9];exact q0 ..
  rw[b9,qd (xs:=_++x::_) Ψ,hlen];generalize Cv:(bf bz (xs.take i) k).1=M at h2 b9 ft⊢;generalize cb:(bf bz (xs.take i) k).2=K at bb ft I aa⊢;generalize bI:xs.drop (i+1)=R at b9 ft⊢;obtain⟨a,bG,s,ys,rfl,fw,De⟩:=(ad x hm).inv;have dz:=y7 (b:=b+1) (r:=R) (x:= .agg [.int .i64 a,.int .i64 bG,.str s,.slice 4 .no ys]) h2;have kQ:(fH (b+1) (M++ .agg [.int .i64 a,.int .i64 bG,.str s,.slice 4 .no ys]::R)).length=xs.length:=by rw[pT,<-b9];exact q0 ..
  rw[B5]at dz;rw[JW]at bb ft aa;generalize cS:dr (b+1+bX M) (.slice 4 .no ys)=E at dz;generalize lQ:fH (b+1) (M++ .agg [.int .i64 a,.int .i64 bG,.str s,.slice 4 .no ys]::R)=X at dz kQ⊢;have hU:K+1+1+1<=(bf bz ys (K+1+1+1)).2:=jw ..;simp only at aa;have b8:=Bn (K+1+1) Ω;have od:∀h,(X[i]'h)= .agg [.int .i64 a,.int .i64 bG,.str s,E]:=fun h=>by rw[eo h]at dz;exact iL dz
  clear dz;simp[aD,od,kQ];(with_reducible repeat' first|refine aK ?_|refine bq b8 ?_|refine br b8 ?_|simp[od,kQ,aD]);have vn:dtL ys:=gR.dtL fw;have aH:=a8 ys (by have:=uu hm;omega) fw (K+1+1+1) (b+1+bX M) ε Ω Ω;have sp:(bf bz ys (K+1+1+1)).1.length=ys.length:=j6 ..;have vi:bX (bf bz ys (K+1+1+1)).1=bX ys:=mT ..;generalize bf bz ys (K+1+1+1)=Q at sp vi aH bb ft aa hU;have gi:bC E=E:=by rw[<-cS];exact wm
  rw[gi];subst cS;refine CallDo.sub (ε:=ε) (b:=b+1) (l:=M) (r:=R) (y:= .agg [.int .i64 a,.int .i64 bG,.str s,.slice 4 .no ys]) (y':= .agg [.int .i64 K,.int .i64 (K+1),.str (bz (K+1+1)),.slice 4 .no Q.1]) (by simp[bN,Pv.dtL,vn]) (by rw[uM,uM];exact nW sp vi) (by simp only[dy,KV];exact aH) (fun k o h=>?_) ?_ (fun fC aB hu=>?_)
  ·obtain⟨m,rfl,fx,fV⟩:=qY _ _ _ _ _ h;simp only[Pv.look];rw[bh (by simp;omega)];exact h
  ·rw[uM];simp only[kinL,Pv.kin,and_true];exact og _ _ (by simp only[bN];exact⟨Ω,vn⟩)
  ·have lZ:=hu (.obj b) (fun⟨m,e,fx,fV⟩=>by cases e;omega);simp only[Pv.look,if_true]at lZ;simp;(with_reducible repeat' first|refine aK ?_|simp);refine cQ.rng () aD ?_ ?_
   ·trivial
   rw[show(bf bz (xs.take (i+1)) k).2=Q.2 from bb];refine l0 _ _ (by simp[Pv.kin,gg]) fun k o h=>?_;rw[ft,qd Ψ]at h;simp only[Pv.look]at h;split at h
   ·rename_i e;subst e;rw[lZ,<-h,<-lQ,<-w2 sp,<-B5 (b+1+bX M) K (K+1) (bz (K+1+1)),Ha h2 (by rw[uM,uM];exact nW sp vi),<-q0 bz xs k (i+1),ft]
   ·exact aB k o h
theorem HL:∀(n:Nat) (xs:List ab),h9 xs<=n->(∀x∈xs,gR x)->∀(k:Int) (b:Nat) (ε:Nat->Nat),0<=k->(bf bz xs k).2<=4611686018427387904->
  c8 aP 21 [dr b (.slice 4 .no (bf bz xs k).1),.int .i64 k] (dy ε b (.slice 4 .no (bf bz xs k).1)) fun r aj=>r= .int .i64 (bf bz xs k).2/\aj=dy ε b (.slice 4 .no (bf bz xs k).1):=by
 intro n;induction n with
 |zero=>
  intro xs cE ad k b ε bR J;cases xs with
  |nil=>exact HM k b ε
  |cons x xs=>obtain⟨a,bG,s,ys,_,_,e⟩:=(ad x Ψ).inv;simp only[h9]at cE;omega
 |succ n a8=>
 intro xs cE ad k b ε bR J;have aG:dtL (bf bz xs k).1:=n1 _ _ _ (gR.dtL ad);have kS:bN (.slice 4 .no (bf bz xs k).1):=by simp only[bN];exact⟨Ω,aG⟩
 have ao:jU (dy ε b (.slice 4 .no (bf bz xs k).1)):=nR kS;by_cases b5:xs=[]
 ·subst b5;exact HM k b ε
 have o5:(bf bz xs k).1.length=xs.length:=j6 ..;have o7:(bf bz xs k).1≠[]:=fun e=>b5 (List.length_eq_zero_iff.1 (by rw[<-o5,e];rfl));have CT:=xX bz (xs:=xs) k fun x h=>by obtain⟨a,bG,s,ys,rfl,_⟩:=(ad x h).inv;exact⟨_,_,_,rfl⟩
 have gg:rng b (b+bu (.slice 4 .no (bf bz xs k).1)) (.obj b):=⟨b,rfl,cx _,by revert o7;cases (bf bz xs k).1 with|nil=>exact fun h=>absurd rfl h|cons x xs=>intro _;simp only[bu];omega⟩;have l0:=fun(t':List (Nat×ab)) (st:aM)=>hi.to (t':=t') (st:=st) (ε:=ε) (b:=b) kS rfl;refine c8.mk mixed oz Hm J7 Ψ ao.obj fun aT dG=>?_;unfold BJ;rw[y8 o7,o5];simp;(with_reducible repeat' first|refine aK ?_|simp);refine iy (fun i (_:Unit)=>⟨[(0,.row 4 (.obj b) xs.length),(1,.int .i64 (bf bz (xs.take i) k).2),(5,.int .i64 i)],[],cL ε b (.slice 4 .no (bf bz xs k).1),0,ds (dy ε b (.slice 4 .no (bf bz xs k).1))⟩) xs.length (fun _ _=>True) () ?_ trivial (fun _ _ _=>?_) (fun i _ aD _ _=>?_)
 ·refine l0 _ _ ?_ (fun k o h=>h);simp[Pv.kin,gg,bf]
 ·rw[ld];simp;(with_reducible repeat' first|refine aK ?_|simp);refine eQ.at (dy ε b (.slice 4 .no (bf bz xs k).1)) Ψ ao (rL rfl) (fun k cs h=>by simp[Pv.look]at h) (fun k o h=>h) ?_;simp[fG,Kw,bd,bo,a6]
 ·obtain⟨x,hX⟩:∃x,xs[i]? =some x:=⟨_,eo aD⟩;have hm:=gL hX;have I:k<=(bf bz (xs.take i) k).2:=jw _ _ _;have aa:=Ap bz xs k (i+1);have bb:=Am bz k hX;have b9:=JX bz k hX;have h2:(bf bz (xs.take i) k).1.length=i:=by rw[j6];simp;omega
  rw[bb]at aa;generalize tC:(bf bz xs k).1=Y at*;have jn:=qd (ε:=ε) (b:=b) (sz:=4) (t:= .no) o7;rw[o5]at jn;rw[jn];generalize Cv:(bf bz (xs.take i) k).1=M at h2 b9;generalize cb:(bf bz (xs.take i) k).2=K at bb b9 I aa⊢;obtain⟨a,bG,s,ys,rfl,fw,De⟩:=(ad x hm).inv;rw[JW]at bb b9 aa;simp only at aa;generalize (bf bz (xs.drop (i+1)) _).1=R at b9;have dz:=y7 (b:=b+1) (r:=R) (x:= .agg [.int .i64 K,.int .i64 (K+1),.str (bz (K+1+1)),.slice 4 .no (bf bz ys (K+1+1+1)).1]) h2;rw[<-b9,B5]at dz;have kQ:(fH (b+1) Y).length=xs.length:=by rw[pT,o5]
  generalize cS:dr (b+1+bX M) (.slice 4 .no (bf bz ys (K+1+1+1)).1)=E at dz;generalize lQ:fH (b+1) Y=X at dz kQ jn⊢;have hU:K+1+1+1<=(bf bz ys (K+1+1+1)).2:=jw ..;have b8:=Bn (K+1+1) Ω;have od:∀h,(X[i]'h)= .agg [.int .i64 K,.int .i64 (K+1),.str (bz (K+1+1)),E]:=fun h=>by rw[eo h]at dz;exact iL dz
  clear dz;have aH:=a8 ys (by have:=uu hm;omega) fw (K+1+1+1) (b+1+bX M) ε Ω Ω;have vn:dtL (bf bz ys (K+1+1+1)).1:=n1 _ _ _ (gR.dtL fw);generalize bf bz ys (K+1+1+1)=Q at vn cS aH bb b9 aa hU;simp[aD,od,kQ];(with_reducible repeat' first|refine aK ?_|refine bq b8 ?_|refine br b8 ?_|simp[od,kQ,aD]);have gi:bC E=E:=by rw[<-cS];exact wm
  rw[gi];subst cS;refine CallDo.sub (ε:=ε) (b:=b+1) (l:=M) (r:=R) (y:= .agg [.int .i64 K,.int .i64 (K+1),.str (bz (K+1+1)),.slice 4 .no Q.1]) (y':= .agg [.int .i64 K,.int .i64 (K+1),.str (bz (K+1+1)),.slice 4 .no Q.1]) (by simp[bN,Pv.dtL,vn]) rfl (by simp only[dy,KV];exact aH) (fun k o h=>?_) ?_ (fun fC aB hu=>?_)
  ·rw[<-b9]at h;obtain⟨m,rfl,fx,fV⟩:=qY _ _ _ _ _ h;simp only[Pv.look];rw[bh (by simp;omega)];exact h
  ·rw[uM];simp only[kinL,Pv.kin,and_true];exact og _ _ (by simp only[bN];exact⟨Ω,vn⟩)
  ·have lZ:=hu (.obj b) (fun⟨m,e,fx,fV⟩=>by cases e;omega);simp only[Pv.look,if_true]at lZ;have xC:¬(Q.2<0):=Ω
   simp[xC];(with_reducible repeat' first|refine aK ?_|simp[xC]);refine cQ.rng () aD ?_ ?_
   ·trivial
   rw[show(bf bz (xs.take (i+1)) k).2=Q.2 from bb];have CY:aq.obj b::(e6 ε (b+1) Y).map (fun x=>x.1)=ds (dy ε b (.slice 4 .no Y)):=by simp[qd o7]
   rw[CY,<-jn];refine l0 _ _ ?_ (fun k o h=>?_)
   ·simp[Pv.kin,gg]
   rw[qd o7,o5,lQ]at h;simp only[Pv.look]at h;split at h
   ·rename_i e;subst e;rw[lZ,<-h]
   ·rw[<-b9]at aB;exact aB k o h
inductive hI:ab->Prop
 |mk (a:Int) (s:List az) (ts gs:List ab):(∀t∈ts,gR t)->(∀g∈gs,hI g)->hI (.agg [.int .i64 a,.str s,.slice 4 .no ts,.slice 4 .no gs])
theorem hI.inv{p:ab}(h:hI p):∃a s ts gs,p= .agg [.int .i64 a,.str s,.slice 4 .no ts,.slice 4 .no gs]/\(∀t∈ts,gR t)/\(∀g∈gs,hI g)/\pD p=1+(h9 ts+h9 gs):=by
 cases h with
 |mk a s ts gs I aa=>exact⟨a,s,ts,gs,rfl,I,aa,by simp[pD,h9]⟩
theorem hI.dt':∀(n:Nat),(∀p,pD p<=n->hI p->bN p)/\(∀aX,h9 aX<=n->(∀p∈aX,hI p)->Pv.dtL aX)
 |0=>by
  refine⟨fun p aV h=>?_,fun aX aV h=>?_⟩
  ·obtain⟨a,s,ts,gs,_,_,_,e⟩:=h.inv;omega
  ·cases aX with
   |nil=>simp[Pv.dtL]
   |cons p aX=>obtain⟨a,s,ts,gs,_,_,_,e⟩:=(h p Ψ).inv;simp only[h9]at aV;omega
 |n+1=>by
  obtain⟨_,a8⟩:=hI.dt' n;have I:∀p,pD p<=n+1->hI p->bN p:=fun p aV h=>by obtain⟨a,s,ts,gs,rfl,au,aL,e⟩:=h.inv;simp only[bN,Pv.dtL,true_and,and_true];exact⟨⟨Ω,gR.dtL au⟩,Ω,a8 gs Ω aL⟩
  refine⟨I,fun aX aV h=>B0.2 fun x ad=>I x ?_ (h x ad)⟩;have:=uu ad;omega
theorem hI.dtL{aX:List ab}(h:∀p∈aX,hI p):Pv.dtL aX:=(hI.dt' _).2 aX (cx _) h
theorem rW(c:Nat)(a:Int)(s:List az)(t t':iR)(ts gs:List ab):dr c (.agg [.int .i64 a,.str s,.slice 4 t ts,.slice 4 t' gs])= .agg [.int .i64 a,.str s,dr c (.slice 4 t ts),dr (c+bu (.slice 4 t ts)) (.slice 4 t' gs)]:=rfl
theorem JV(b2:Int->List az)(a:Int)(s:List az)(t t':iR)(ts gs:List ab)(k:Int):cK b2 (.agg [.int .i64 a,.str s,.slice 4 t ts,.slice 4 t' gs]) k=(.agg [.int .i64 k,.str (b2 (k+1)),.slice 4 t (bf b2 ts (k+1+1)).1,.slice 4 t' (bf b2 gs (bf b2 ts (k+1+1)).2).1],(bf b2 gs (bf b2 ts (k+1+1)).2).2):=by simp[cK,bf]
theorem TE(ε:Nat->Nat)(c:Nat)(a:Int)(s:List az)(t t':iR)(ts gs:List ab):cL ε c (.agg [.int .i64 a,.str s,.slice 4 t ts,.slice 4 t' gs])=cL ε c (.slice 4 t ts)++cL ε (c+bu (.slice 4 t ts)) (.slice 4 t' gs):=by show []++([]++(cL ε (c+0+0) (.slice 4 t ts)++(cL ε (c+0+0+bu (.slice 4 t ts)) (.slice 4 t' gs)++[])))=_;simp
theorem ti(a:Int)(s:List az)(t t':iR)(ts gs:List ab):bu (.agg [.int .i64 a,.str s,.slice 4 t ts,.slice 4 t' gs])=bu (.slice 4 t ts)+bu (.slice 4 t' gs):=by show 0+(0+(bu (.slice 4 t ts)+(bu (.slice 4 t' gs)+0)))=_;omega
theorem A5(ε:Nat->Nat)(c:Nat)(M R:List ab)(a:Int)(s:List az)(t t':iR)(ts gs:List ab):e6 ε c (M++ .agg [.int .i64 a,.str s,.slice 4 t ts,.slice 4 t' gs]::R)=e6 ε c (M++ .slice 4 t ts:: .slice 4 t' gs::R):=by rw[yn,yn];simp only[e6];rw[TE,ti,pI,Nat.add_assoc (c+bX M)]
theorem GV(M:List ab)(a:Int)(s:List az)(t t':iR)(ts gs:List ab):bX (M++[.slice 4 t ts])=bX M+bu (.slice 4 t ts):=by rw[yX];simp[bX]
theorem UF(k:Int):ca aP 20 [.slice 4 .no [],.int .i64 k] (.int .i64 k):=by refine bZ oz Hn J8 fun aT=>?_;unfold BK;simp;(with_reducible repeat' first|refine aK ?_|simp);refine iy (fun i (_:Unit)=>⟨[(0,.slice 4 .no []),(1,.int .i64 k),(5,.int .i64 i)],[],[],0,[]⟩) 0 (fun _ _=>True) () dQ trivial (fun _ _ _=>?_) (fun i _ aD _ _=>Ω);exact cH
theorem HN(k:Int)(b:Nat)(ε:Nat->Nat):c8 aP 20 [dr b (.slice 4 .no []),.int .i64 k] (dy ε b (.slice 4 .no [])) fun r aj=>r= .int .i64 k/\aj=dy ε b (.slice 4 .no []):=UF k
theorem Uv(k:Int):ca aP 22 [.slice 4 .no [],.int .i64 k] (.int .i64 k):=by refine bZ oz Hl J6 fun aT=>?_;unfold BI;simp;(with_reducible repeat' first|refine aK ?_|simp);refine iy (fun i (_:Unit)=>⟨[(0,.slice 4 .no []),(1,.int .i64 k),(5,.int .i64 i)],[],[],0,[]⟩) 0 (fun _ _=>True) () dQ trivial (fun _ _ _=>?_) (fun i _ aD _ _=>Ω);exact cH
theorem HK(k:Int)(b:Nat)(ε:Nat->Nat):c8 aP 22 [dr b (.slice 4 .no []),.int .i64 k] (dy ε b (.slice 4 .no [])) fun r aj=>r= .int .i64 k/\aj=dy ε b (.slice 4 .no []):=Uv k
theorem Pu:∀(n:Nat) (xs:List ab),h9 xs<=n->(∀x∈xs,hI x)->∀(k:Int) (b:Nat) (ε:Nat->Nat),0<=k->(bf bz xs k).2<=4611686018427387904->
  c8 aP 20 [dr b (.slice 4 .no xs),.int .i64 k] (dy ε b (.slice 4 .no xs)) fun r aj=>r= .int .i64 (bf bz xs k).2/\aj=dy ε b (.slice 4 .no (bf bz xs k).1):=by
 intro n;induction n with
 |zero=>
  intro xs cE ad k b ε bR J;cases xs with
  |nil=>exact HN k b ε
  |cons x xs=>obtain⟨a,s,ts,gs,_,_,_,e⟩:=(ad x Ψ).inv;simp only[h9]at cE;omega
 |succ n a8=>
 intro xs cE ad k b ε bR J;have aG:Pv.dtL xs:=hI.dtL ad;have ao:jU (dy ε b (.slice 4 .no xs)):=nR (by simp[bN,aG]);by_cases b5:xs=[]
 ·subst b5;exact HN k b ε
 have tE:∀i,bu (.slice 4 .no (jv bz xs k i))=bu (.slice 4 .no xs):=fun i=>nW (q0 ..) (JQ ..);have kS:∀i,bN (.slice 4 .no (jv bz xs k i)):=fun i=>by simp only[bN];exact⟨Ω,JR _ _ _ aG⟩
 have gg:rng b (b+bu (.slice 4 .no xs)) (.obj b):=⟨b,rfl,cx _,by cases xs with|nil=>exact absurd rfl b5|cons x xs=>simp only[bu];omega⟩;refine c8.mk mixed oz Hn J8 Ψ ao.obj fun aT dG=>?_;unfold BK;rw[y8 b5];simp;(with_reducible repeat' first|refine aK ?_|simp);refine iy (fun i (_:Unit)=>⟨[(0,.row 4 (.obj b) xs.length),(1,.int .i64 (bf bz (xs.take i) k).2),(5,.int .i64 i)],[],cL ε b (.slice 4 .no (jv bz xs k i)),0,ds (dy ε b (.slice 4 .no xs))⟩) xs.length (fun _ _=>True) () ?_ trivial (fun _ _ _=>?_) (fun i _ aD _ _=>?_)
 ·refine hi.to (kS _) (tE _) ?_ (fun k o h=>by rw[JT]at h;exact h);simp[Pv.kin,gg,bf]
 ·rw[vD,ld];simp;(with_reducible repeat' first|refine aK ?_|simp);refine eQ.at (dy ε b (.slice 4 .no (bf bz xs k).1)) Ψ (nR (by rw[<-vD];exact kS _)) (rL (by rw[<-vD];exact tE _)) (fun k cs h=>by simp[Pv.look]at h) (fun k o h=>h) ?_;simp[fG,Ky,bd,bo,a6]
 ·obtain⟨x,hX⟩:∃x,xs[i]? =some x:=⟨_,eo aD⟩;have hm:=gL hX;have I:k<=(bf bz (xs.take i) k).2:=jw _ _ _;have aa:=Ap bz xs k (i+1);have bb:=Am bz k hX;have b9:=JP bz k hX;have ft:=JS bz k hX;have h2:(bf bz (xs.take i) k).1.length=i:=by rw[j6];simp;omega
  have l0:=fun(t':List (Nat×ab)) (st:aM)=>hi.to (t':=t') (st:=st) (ε:=ε) (b:=b) (kS (i+1)) (tE (i+1));rw[bb]at aa;have hlen:((bf bz (xs.take i) k).1++x::xs.drop (i+1)).length=xs.length:=by rw[<-b9];exact q0 ..
  have CT:=xX bz (xs:=xs) k fun x h=>by obtain⟨a,s,ts,gs,rfl,_⟩:=(ad x h).inv;exact⟨_,_,_,rfl⟩
  have cU:bk ((i:Int)+1):=by unfold bk;omega
  have Q7:=uu hm;have si:=q0 bz xs k (i+1);rw[b9,qd (xs:=_++x::_) Ψ,hlen];rw[ft]at si;generalize Cv:(bf bz (xs.take i) k).1=M at h2 b9 ft si⊢;generalize cb:(bf bz (xs.take i) k).2=K at bb ft I aa si⊢;generalize bI:xs.drop (i+1)=R at b9 ft si⊢;obtain⟨a,s,ts,gs,rfl,xI,gb,De⟩:=(ad x hm).inv;have dz:=y7 (b:=b+1) (r:=R) (x:= .agg [.int .i64 a,.str s,.slice 4 .no ts,.slice 4 .no gs]) h2;have kQ:(fH (b+1) (M++ .agg [.int .i64 a,.str s,.slice 4 .no ts,.slice 4 .no gs]::R)).length=xs.length:=by rw[pT,<-b9];exact q0 ..
  rw[rW]at dz;rw[JV]at bb ft aa si;have Dg:Pv.dtL ts:=gR.dtL xI;have Ir:Pv.dtL gs:=hI.dtL gb;have hU:K+1+1<=(bf bz ts (K+1+1)).2:=jw ..;have hy:(bf bz ts (K+1+1)).2<=(bf bz gs (bf bz ts (K+1+1)).2).2:=jw ..;simp only at aa;have b8:=Bn (K+1) Ω;have o2:=HO (h9 ts) ts (cx _) xI (K+1+1) (b+1+bX M) ε Ω Ω;have sp:(bf bz ts (K+1+1)).1.length=ts.length:=j6 ..;have vi:bX (bf bz ts (K+1+1)).1=bX ts:=mT ..;have xf:Pv.dtL (bf bz ts (K+1+1)).1:=n1 _ _ _ Dg;generalize bf bz ts (K+1+1)=Q at sp vi xf o2 bb ft aa hU hy si;have lT:bu (.slice 4 .no Q.1)=bu (.slice 4 .no ts):=nW sp vi;have kr:=a8 gs Ω gb Q.2 (b+1+bX (M++[.slice 4 .no Q.1])) ε Ω Ω;have lR:b+1+bX (M++[.slice 4 .no Q.1])=b+1+bX M+bu (.slice 4 .no ts):=by rw[GV M 0 [] .no .no Q.1 [],lT];omega
  have gE:(bf bz gs Q.2).1.length=gs.length:=j6 ..;have IM:bX (bf bz gs Q.2).1=bX gs:=mT ..;generalize bf bz gs Q.2=U at gE IM kr bb ft aa hy si;have mu:bu (.slice 4 .no U.1)=bu (.slice 4 .no gs):=nW gE IM;generalize cS:dr (b+1+bX M) (.slice 4 .no ts)=E at dz o2;generalize r5:dr (b+1+bX M+bu (.slice 4 .no ts)) (.slice 4 .no gs)=iM at dz;generalize lQ:fH (b+1) (M++ .agg [.int .i64 a,.str s,.slice 4 .no ts,.slice 4 .no gs]::R)=X at dz kQ⊢;have od:∀h,(X[i]'h)= .agg [.int .i64 a,.str s,E,iM]:=fun h=>by rw[eo h]at dz;exact iL dz
  clear dz;rw[A5];simp[aD,od,kQ];(with_reducible repeat' first|refine aK ?_|refine bq b8 ?_|refine br b8 ?_|simp[od,kQ,aD]);have gi:bC E=E:=by rw[<-cS];exact wm
  rw[gi];refine CallDo.sub (ε:=ε) (b:=b+1) (l:=M) (r:= .slice 4 .no gs::R) (y:= .slice 4 .no ts) (y':= .slice 4 .no Q.1) (by simp only[bN];exact⟨Ω,Dg⟩) lT o2 (fun k o h=>?_) ?_ (fun fC aB hu=>?_)
  ·obtain⟨m,rfl,fx,fV⟩:=qY _ _ _ _ _ h;simp only[Pv.look];rw[bh (by simp;omega)];exact h
  ·rw[<-cS];simp only[kinL,Pv.kin,and_true];exact og _ _ (by simp only[bN];exact⟨Ω,Dg⟩)
  have lZ:=hu (.obj b) (fun⟨m,e,fx,fV⟩=>by cases e;omega);simp only[Pv.look,if_true]at lZ;have WE:i<X.length:=Ω
  have gu:∀h,((X.set i (.agg [.int .i64 K,.str (bz (K+1)),E,iM]))[i]'h)= .agg [.int .i64 K,.str (bz (K+1)),E,iM]:=fun h=>by simp
  simp[lZ];(with_reducible repeat' first|refine aK ?_|simp[lZ,gu,kQ,aD]);have C8:bC iM=iM:=by rw[<-r5];exact wm
  rw[C8];rw[lR,r5]at kr;refine CallDo.sub (ε:=ε) (b:=b+1) (l:=M++[.slice 4 .no Q.1]) (r:=R) (y:= .slice 4 .no gs) (y':= .slice 4 .no U.1) (by simp only[bN];exact⟨Ω,Ir⟩) mu (by rw[lR];exact kr) (fun k o h=>?_) ?_ (fun aE hd Di=>?_)
  ·rw[pI]at h;exact aB k o h
  ·rw[lR,<-r5];simp only[kinL,Pv.kin,and_true];exact og _ _ (by simp only[bN];exact⟨Ω,Ir⟩)
  have xJ:=Di (.obj b) (fun⟨m,e,fx,fV⟩=>by cases e;omega);rw[lZ]at xJ;simp;(with_reducible repeat' first|refine aK ?_|simp[cU]);refine cQ.rng () aD ?_ ?_
  ·trivial
  rw[show(bf bz (xs.take (i+1)) k).2=U.2 from bb];refine l0 _ _ (by simp[Pv.kin,gg]) fun k o h=>?_;rw[ft,qd Ψ]at h;simp only[Pv.look]at h;split at h
  ·rename_i e;subst e;rw[xJ,<-h,<-lQ,<-cS,<-r5,<-w2 sp,<-w2 (sz:=4) (t:= .no) gE,<-lT,<-rW (b+1+bX M) K (bz (K+1)),Ha h2 (by rw[ti,ti,lT,mu]),si]
  ·rw[A5]at h;refine hd k o ?_;rw[pI];exact h
theorem Pr:∀(n:Nat) (xs:List ab),h9 xs<=n->(∀x∈xs,hI x)->∀(k:Int) (b:Nat) (ε:Nat->Nat),0<=k->(bf bz xs k).2<=4611686018427387904->
  c8 aP 22 [dr b (.slice 4 .no (bf bz xs k).1),.int .i64 k] (dy ε b (.slice 4 .no (bf bz xs k).1)) fun r aj=>r= .int .i64 (bf bz xs k).2/\aj=dy ε b (.slice 4 .no (bf bz xs k).1):=by
 intro n;induction n with
 |zero=>
  intro xs cE ad k b ε bR J;cases xs with
  |nil=>exact HK k b ε
  |cons x xs=>obtain⟨a,s,ts,gs,_,_,_,e⟩:=(ad x Ψ).inv;simp only[h9]at cE;omega
 |succ n a8=>
 intro xs cE ad k b ε bR J;have aG:Pv.dtL (bf bz xs k).1:=n1 _ _ _ (hI.dtL ad);have kS:bN (.slice 4 .no (bf bz xs k).1):=by simp only[bN];exact⟨Ω,aG⟩
 have ao:jU (dy ε b (.slice 4 .no (bf bz xs k).1)):=nR kS;by_cases b5:xs=[]
 ·subst b5;exact HK k b ε
 have o5:(bf bz xs k).1.length=xs.length:=j6 ..;have o7:(bf bz xs k).1≠[]:=fun e=>b5 (List.length_eq_zero_iff.1 (by rw[<-o5,e];rfl));have CT:=xX bz (xs:=xs) k fun x h=>by obtain⟨a,s,ts,gs,rfl,_⟩:=(ad x h).inv;exact⟨_,_,_,rfl⟩
 have gg:rng b (b+bu (.slice 4 .no (bf bz xs k).1)) (.obj b):=⟨b,rfl,cx _,by revert o7;cases (bf bz xs k).1 with|nil=>exact fun h=>absurd rfl h|cons x xs=>intro _;simp only[bu];omega⟩;have l0:=fun(t':List (Nat×ab)) (st:aM)=>hi.to (t':=t') (st:=st) (ε:=ε) (b:=b) kS rfl;refine c8.mk mixed oz Hl J6 Ψ ao.obj fun aT dG=>?_;unfold BI;rw[y8 o7,o5];simp;(with_reducible repeat' first|refine aK ?_|simp);refine iy (fun i (_:Unit)=>⟨[(0,.row 4 (.obj b) xs.length),(1,.int .i64 (bf bz (xs.take i) k).2),(5,.int .i64 i)],[],cL ε b (.slice 4 .no (bf bz xs k).1),0,ds (dy ε b (.slice 4 .no (bf bz xs k).1))⟩) xs.length (fun _ _=>True) () ?_ trivial (fun _ _ _=>?_) (fun i _ aD _ _=>?_)
 ·refine l0 _ _ ?_ (fun k o h=>h);simp[Pv.kin,gg,bf]
 ·rw[ld];simp;(with_reducible repeat' first|refine aK ?_|simp);refine eQ.at (dy ε b (.slice 4 .no (bf bz xs k).1)) Ψ ao (rL rfl) (fun k cs h=>by simp[Pv.look]at h) (fun k o h=>h) ?_;simp[fG,Kv,bd,bo,a6]
 ·obtain⟨x,hX⟩:∃x,xs[i]? =some x:=⟨_,eo aD⟩;have hm:=gL hX;have Q7:=uu hm;have I:k<=(bf bz (xs.take i) k).2:=jw _ _ _;have aa:=Ap bz xs k (i+1);have bb:=Am bz k hX;have b9:=JX bz k hX;have cU:bk ((i:Int)+1):=by unfold bk;omega
  have h2:(bf bz (xs.take i) k).1.length=i:=by rw[j6];simp;omega
  rw[bb]at aa;generalize tC:(bf bz xs k).1=Y at*;have jn:=qd (ε:=ε) (b:=b) (sz:=4) (t:= .no) o7;rw[o5]at jn;rw[jn];generalize Cv:(bf bz (xs.take i) k).1=M at h2 b9;generalize cb:(bf bz (xs.take i) k).2=K at bb b9 I aa⊢;obtain⟨a,s,ts,gs,rfl,xI,gb,De⟩:=(ad x hm).inv;rw[JV]at bb b9 aa;simp only at aa;generalize (bf bz (xs.drop (i+1)) _).1=R at b9;have dz:=y7 (b:=b+1) (r:=R) (x:= .agg [.int .i64 K,.str (bz (K+1)),.slice 4 .no (bf bz ts (K+1+1)).1,.slice 4 .no (bf bz gs (bf bz ts (K+1+1)).2).1]) h2;rw[<-b9,rW]at dz;have kQ:(fH (b+1) Y).length=xs.length:=by rw[pT,o5]
  have hU:K+1+1<=(bf bz ts (K+1+1)).2:=jw ..;have hy:(bf bz ts (K+1+1)).2<=(bf bz gs (bf bz ts (K+1+1)).2).2:=jw ..;have b8:=Bn (K+1) Ω;have o2:=HL (h9 ts) ts (cx _) xI (K+1+1) (b+1+bX M) ε Ω Ω;have xf:Pv.dtL (bf bz ts (K+1+1)).1:=n1 _ _ _ (gR.dtL xI);generalize bf bz ts (K+1+1)=Q at xf o2 bb b9 dz aa hU hy;have kr:=a8 gs Ω gb Q.2 (b+1+bX (M++[.slice 4 .no Q.1])) ε Ω Ω;have Cx:Pv.dtL (bf bz gs Q.2).1:=n1 _ _ _ (hI.dtL gb);have lR:b+1+bX (M++[.slice 4 .no Q.1])=b+1+bX M+bu (.slice 4 .no Q.1):=by rw[GV M 0 [] .no .no Q.1 []];omega
  generalize bf bz gs Q.2=U at Cx kr bb b9 dz aa hy;generalize cS:dr (b+1+bX M) (.slice 4 .no Q.1)=E at dz o2;generalize r5:dr (b+1+bX M+bu (.slice 4 .no Q.1)) (.slice 4 .no U.1)=iM at dz;generalize lQ:fH (b+1) Y=X at dz kQ jn⊢;have od:∀h,(X[i]'h)= .agg [.int .i64 K,.str (bz (K+1)),E,iM]:=fun h=>by rw[eo h]at dz;exact iL dz
  clear dz;simp[aD,od,kQ];(with_reducible repeat' first|refine aK ?_|refine bq b8 ?_|refine br b8 ?_|simp[od,kQ,aD]);have gi:bC E=E:=by rw[<-cS];exact wm
  have C8:bC iM=iM:=by rw[<-r5];exact wm
  rw[gi];refine CallDo.sub (ε:=ε) (b:=b+1) (l:=M) (r:= .slice 4 .no U.1::R) (y:= .slice 4 .no Q.1) (y':= .slice 4 .no Q.1) (by simp only[bN];exact⟨Ω,xf⟩) rfl o2 (fun k o h=>?_) ?_ (fun fC aB hu=>?_)
  ·rw[<-A5 ε (b+1) M R K (bz (K+1)),<-b9]at h;obtain⟨m,rfl,fx,fV⟩:=qY _ _ _ _ _ h;simp only[Pv.look];rw[bh (by simp;omega)];exact h
  ·rw[<-cS];simp only[kinL,Pv.kin,and_true];exact og _ _ (by simp only[bN];exact⟨Ω,xf⟩)
  have lZ:=hu (.obj b) (fun⟨m,e,fx,fV⟩=>by cases e;omega);simp only[Pv.look,if_true]at lZ;have xC:¬(Q.2<0):=Ω
  simp[lZ,xC];(with_reducible repeat' first|refine aK ?_|simp[lZ,od,kQ,aD,xC]);rw[C8];rw[lR,r5]at kr;refine CallDo.sub (ε:=ε) (b:=b+1) (l:=M++[.slice 4 .no Q.1]) (r:=R) (y:= .slice 4 .no U.1) (y':= .slice 4 .no U.1) (by simp only[bN];exact⟨Ω,Cx⟩) rfl (by rw[lR];exact kr) (fun k o h=>?_) ?_ (fun aE hd Di=>?_)
  ·rw[pI]at h;exact aB k o h
  ·rw[lR,<-r5];simp only[kinL,Pv.kin,and_true];exact og _ _ (by simp only[bN];exact⟨Ω,Cx⟩)
  have xJ:=Di (.obj b) (fun⟨m,e,fx,fV⟩=>by cases e;omega);rw[lZ]at xJ;have vl:¬(U.2<0):=Ω
  simp[vl];(with_reducible repeat' first|refine aK ?_|simp[vl,cU]);refine cQ.rng () aD ?_ ?_
  ·trivial
  rw[show(bf bz (xs.take (i+1)) k).2=U.2 from bb];have CY:aq.obj b::(e6 ε (b+1) Y).map (fun x=>x.1)=ds (dy ε b (.slice 4 .no Y)):=by simp[qd o7]
  rw[CY,<-jn];refine l0 _ _ ?_ (fun k o h=>?_)
  ·simp[Pv.kin,gg]
  rw[qd o7,o5,lQ]at h;simp only[Pv.look]at h;split at h
  ·rename_i e;subst e;rw[xJ,<-h]
  ·rw[b9,A5]at h;refine hd k o ?_;rw[pI];exact h
def yU:iM:=(.sq (.region [bQ 2 false]) (.sq (al [ae 11 0,a7 12 (.slen (.t 11)),bc 13 .gtr 12 1048576] (be 13 (al [bQ 2 true] .ret) .skip)) (.sq (.region [ae 15 0,ef 16 4 15,ae 14 16,eI 17 0 14,eI 18 1 14,fk (.alloc 3 none (.agg [.int .i64 0,.str [],.slice 4 .nil [],.slice 4 .nil []])),bY 4 3 17,ae 4 18]) (.sl (.sq (.region [ae 20 0,ef 21 5 20,ae 19 21,eI 22 0 19,eI 23 1 19,fk (.alloc 5 none (.agg [.int .i64 0,.str [],.slice 4 .nil [],.slice 4 .nil []])),bY 4 5 22,ae 6 23]) (.sq (al [dv 24 4 5,dv 25 4 3,gK 26 6 24 25,eK 27 26,ae 28 27,b7 28 false 29 6,b7 28 false 30 4,aO 28 false (a7 31 (.beq true none (.t 29) (.t 30))),dD 32 28 31] (be 32 (al [bQ 2 false] .ret) .skip)) (.sq (.region [cF 7 1]) (.th 5 (.sq (.region [dv 33 4 5,ae 34 7,gK 35 7 33 34,ae 7 35]) (.sq (.region [cF 8 1]) (.sq (.region [dv 36 4 5,ae 37 8,gK 38 8 36 37,ae 8 38]) (.sq (al [ae 39 8,bc 40 .lss 39 0] (be 40 (al [bQ 2 false] .ret) .skip)) (.sq (al [ae 41 8,ae 42 7,c6 43 .neq 41 42] (be 43 (al [bQ 2 false] .ret) .skip)) (.sq (.region [ae 45 0,ef 46 5 45,ae 44 46,eI 47 0 44,eI 48 1 44,fk (.alloc 9 none (.agg [.int .i64 0,.str [],.slice 4 .nil [],.slice 4 .nil []])),bY 4 9 47,ae 10 48]) (.sq (al [dv 49 4 9,dv 50 4 3,gK 51 6 49 50,eK 52 51,ae 53 52,b7 53 false 54 10,b7 53 false 55 4,aO 53 false (a7 56 (.beq true none (.t 54) (.t 55))),dD 57 53 56] (be 57 (al [bQ 2 false] .ret) .skip)) (.sq (.region [cF 8 1]) (.sq (.region [dv 58 4 5,ae 59 8,gK 60 8 58 59,ae 8 60]) (.sq (al [ae 61 8,bc 62 .lss 61 0] (be 62 (al [bQ 2 false] .ret) .skip)) (.sq (al [ae 63 8,ae 64 7,c6 65 .neq 63 64] (be 65 (al [bQ 2 false] .ret) .skip)) (.sq (.region [bQ 2 true]) (.of .ret)))))))))))))))))))))
@[simp] def Kt:List cG:=[.tmp 2]
def LA:List (Nat×cm):=[
 (4,⟨1,1,.bool,.bool false⟩),
 (9,⟨1,16,.str,.str []⟩),
 (25,⟨4,72,.struct [(0,3),(1,9),(2,22),(3,23)],.agg [.int .i64 0,.str [],.slice 4 .nil [],.slice 4 .nil []]⟩)]
theorem Ff:dE aP LA=true:=by kernel_rfl
theorem Ee:zh LA yU Kt 1 ie=true:=by kernel_rfl
theorem Cj:aP.funcs[(3:Nat)]? =some ie:=Tryd.func3
def et(ts:List ab)(k:Int):=bf bz ts k
def fc(ts gs:List ab)(k:Int):=bf bz gs (et ts k).2
theorem Pt(a:Int)(s:List az)(ts gs:List ab)(au:∀y∈ts,gR y)(aL:∀y∈gs,hI y)(k:Int)(b:Nat)(ε:Nat->Nat)(bR:0<=k)(J:(fc ts gs k).2<=4611686018427387904):
  c8 aP 7 [dr b (.agg [.int .i64 a,.str s,.slice 4 .no ts,.slice 4 .no gs]),.int .i64 k] (dy ε b (.agg [.int .i64 a,.str s,.slice 4 .no ts,.slice 4 .no gs])) fun r aj=>r= .int .i64 (fc ts gs k).2/\aj=dy ε b (.agg [.int .i64 a,.str s,.slice 4 .no (et ts k).1,.slice 4 .no (fc ts gs k).1]):=by
 have ct:k<=(et ts k).2:=jw ..;have cN:(et ts k).2<=(fc ts gs k).2:=jw ..;have cJ:bu (.slice 4 .no (et ts k).1)=bu (.slice 4 .no ts):=nW (j6 ..) (mT ..);have c2:bu (.slice 4 .no (fc ts gs k).1)=bu (.slice 4 .no gs):=nW (j6 ..) (mT ..);have ai:bN (.slice 4 .no ts):=by simp only[bN];exact⟨Ω,gR.dtL au⟩
 have aE:bN (.slice 4 .no gs):=by simp only[bN];exact⟨Ω,hI.dtL aL⟩
 have kM:bN (.slice 4 .no (et ts k).1):=wZ bz (.slice 4 .no ts) k ai;have rU:bN (.slice 4 .no (fc ts gs k).1):=wZ bz (.slice 4 .no gs) _ aE;have d0:bN (.agg [.int .i64 a,.str s,.slice 4 .no ts,.slice 4 .no gs]):=by simp only[bN,Pv.dtL,and_true,true_and]at ai aE⊢;exact⟨ai,aE⟩
 have d5:bN (.agg [.int .i64 a,.str s,.slice 4 .no (et ts k).1,.slice 4 .no (fc ts gs k).1]):=by simp only[bN,Pv.dtL,and_true,true_and]at kM rU⊢;exact⟨kM,rU⟩
 have ao:jU (dy ε b (.agg [.int .i64 a,.str s,.slice 4 .no ts,.slice 4 .no gs])):=nR d0;have f1:c8 aP 19 [dr b (.slice 4 .no ts),.int .i64 k] (dy ε b (.slice 4 .no ts)) fun r aj=>r= .int .i64 (et ts k).2/\aj=dy ε b (.slice 4 .no (et ts k).1):=HO _ ts (cx _) au k b ε bR (show(et ts k).2<=_ by omega);have f2:c8 aP 20 [dr (b+bu (.slice 4 .no ts)) (.slice 4 .no gs),.int .i64 (et ts k).2] (dy ε (b+bu (.slice 4 .no ts)) (.slice 4 .no gs)) fun r aj=>r= .int .i64 (fc ts gs k).2/\aj=dy ε (b+bu (.slice 4 .no ts)) (.slice 4 .no (fc ts gs k).1):=Pu _ gs (cx _) aL (et ts k).2 _ ε Ω J;refine c8.mk mixed oz OW SE Ψ ao.obj fun aT dG=>?_;unfold Gt;rw[rW];simp;((with_reducible repeat' first|refine aK ?_|simp|((first|apply dY|apply ed|apply ec)<;>intro h<;>try simp at h))<;>(try exact eM));have bO:b+bX [.int .i64 a,.str s]=b:=by show b+(0+(0+0))=_;omega
 refine CallDo.sub (ε:=ε) (b:=b) (l:=[.int .i64 a,.str s]) (r:=[.slice 4 .no gs]) (y:= .slice 4 .no ts) (y':= .slice 4 .no (et ts k).1) ai cJ (by rw[bO];exact f1) (fun k o h=>?_) ?_ (fun kM fx hY=>?_)
 ·exact h
 ·simp only[kinL,and_true];rw[bO];exact⟨og _ _ ai,by simp[Pv.kin]⟩
 simp;(with_reducible repeat' first|refine aK ?_|simp);have bU:b+bX [.int .i64 a,.str s,.slice 4 .no (et ts k).1]=b+bu (.slice 4 .no ts):=by show b+(0+(0+(bu (.slice 4 .no (et ts k).1)+0)))=_;omega
 refine CallDo.sub (ε:=ε) (b:=b) (l:=[.int .i64 a,.str s,.slice 4 .no (et ts k).1]) (r:=[]) (y:= .slice 4 .no gs) (y':= .slice 4 .no (fc ts gs k).1) aE c2 (by rw[bU];exact f2) (fun k o h=>?_) ?_ (fun rU fV hP=>?_)
 ·exact fx k o h
 ·simp only[kinL,and_true];rw[bU];exact⟨og _ _ aE,by simp[Pv.kin]⟩
 simp;(with_reducible repeat' first|refine aK ?_|simp);refine eQ.at (dy ε b (.agg [.int .i64 a,.str s,.slice 4 .no (et ts k).1,.slice 4 .no (fc ts gs k).1])) Ψ (nR d5) (rL (by rw[ti,ti];omega)) (fun k cs h=>by simp[Pv.look]at h) (fun k o h=>?_) ?_
 ·exact fV k o h
 simp[fG,Kx,bd,bo,a6]
theorem Pq(a:Int)(s:List az)(ts gs:List ab)(au:∀y∈ts,gR y)(aL:∀y∈gs,hI y)(k:Int)(b:Nat)(ε:Nat->Nat)(bR:0<=k)(J:(fc ts gs k).2<=4611686018427387904):
  c8 aP 8 [dr b (.agg [.int .i64 a,.str s,.slice 4 .no (et ts k).1,.slice 4 .no (fc ts gs k).1]),.int .i64 k] (dy ε b (.agg [.int .i64 a,.str s,.slice 4 .no (et ts k).1,.slice 4 .no (fc ts gs k).1])) fun r aj=>r= .int .i64 (fc ts gs k).2/\aj=dy ε b (.agg [.int .i64 a,.str s,.slice 4 .no (et ts k).1,.slice 4 .no (fc ts gs k).1]):=by
 have ct:k<=(et ts k).2:=jw ..;have cN:(et ts k).2<=(fc ts gs k).2:=jw ..;have cJ:bu (.slice 4 .no (et ts k).1)=bu (.slice 4 .no ts):=nW (j6 ..) (mT ..);have c2:bu (.slice 4 .no (fc ts gs k).1)=bu (.slice 4 .no gs):=nW (j6 ..) (mT ..);have ai:bN (.slice 4 .no ts):=by simp only[bN];exact⟨Ω,gR.dtL au⟩
 have aE:bN (.slice 4 .no gs):=by simp only[bN];exact⟨Ω,hI.dtL aL⟩
 have kM:bN (.slice 4 .no (et ts k).1):=wZ bz (.slice 4 .no ts) k ai;have rU:bN (.slice 4 .no (fc ts gs k).1):=wZ bz (.slice 4 .no gs) _ aE;have d0:bN (.agg [.int .i64 a,.str s,.slice 4 .no ts,.slice 4 .no gs]):=by simp only[bN,Pv.dtL,and_true,true_and]at ai aE⊢;exact⟨ai,aE⟩
 have d5:bN (.agg [.int .i64 a,.str s,.slice 4 .no (et ts k).1,.slice 4 .no (fc ts gs k).1]):=by simp only[bN,Pv.dtL,and_true,true_and]at kM rU⊢;exact⟨kM,rU⟩
 have ao:jU (dy ε b (.agg [.int .i64 a,.str s,.slice 4 .no (et ts k).1,.slice 4 .no (fc ts gs k).1])):=nR d5;have f1:c8 aP 21 [dr b (.slice 4 .no (et ts k).1),.int .i64 k] (dy ε b (.slice 4 .no (et ts k).1)) fun r aj=>r= .int .i64 (et ts k).2/\aj=dy ε b (.slice 4 .no (et ts k).1):=HL _ ts (cx _) au k b ε bR (show(et ts k).2<=_ by omega);have f2:c8 aP 22 [dr (b+bu (.slice 4 .no (et ts k).1)) (.slice 4 .no (fc ts gs k).1),.int .i64 (et ts k).2] (dy ε (b+bu (.slice 4 .no (et ts k).1)) (.slice 4 .no (fc ts gs k).1)) fun r aj=>r= .int .i64 (fc ts gs k).2/\aj=dy ε (b+bu (.slice 4 .no (et ts k).1)) (.slice 4 .no (fc ts gs k).1):=Pr _ gs (cx _) aL (et ts k).2 _ ε Ω J;have e9:¬(et ts k).2<0:=Ω
 have eA:¬(fc ts gs k).2<0:=Ω
 refine c8.mk mixed oz OV SD Ψ ao.obj fun aT dG=>?_;unfold Gs;rw[rW];simp;((with_reducible repeat' first|refine aK ?_|simp|((first|apply dY|apply ed|apply ec)<;>intro h<;>try simp at h))<;>(try exact eM));have bO:b+bX [.int .i64 a,.str s]=b:=by show b+(0+(0+0))=_;omega
 refine CallDo.sub (ε:=ε) (b:=b) (l:=[.int .i64 a,.str s]) (r:=[.slice 4 .no (fc ts gs k).1]) (y:= .slice 4 .no (et ts k).1) (y':= .slice 4 .no (et ts k).1) kM rfl (by rw[bO];exact f1) (fun k o h=>?_) ?_ (fun We fx hY=>?_)
 ·exact h
 ·simp only[kinL,and_true];rw[bO];exact⟨og _ _ kM,by simp[Pv.kin]⟩
 simp[e9];(with_reducible repeat' first|refine aK ?_|simp[e9]);have bU:b+bX [.int .i64 a,.str s,.slice 4 .no (et ts k).1]=b+bu (.slice 4 .no (et ts k).1):=by show b+(0+(0+(bu (.slice 4 .no (et ts k).1)+0)))=_;omega
 refine CallDo.sub (ε:=ε) (b:=b) (l:=[.int .i64 a,.str s,.slice 4 .no (et ts k).1]) (r:=[]) (y:= .slice 4 .no (fc ts gs k).1) (y':= .slice 4 .no (fc ts gs k).1) rU rfl (by rw[bU];exact f2) (fun k o h=>?_) ?_ (fun Wf fV hP=>?_)
 ·exact fx k o h
 ·simp only[kinL,and_true];rw[bU];exact⟨og _ _ rU,by simp[Pv.kin]⟩
 simp[eA];(with_reducible repeat' first|refine aK ?_|simp[eA]);refine eQ.at (dy ε b (.agg [.int .i64 a,.str s,.slice 4 .no (et ts k).1,.slice 4 .no (fc ts gs k).1])) Ψ (nR d5) (rL rfl) (fun k cs h=>by simp[Pv.look]at h) (fun k o h=>?_) ?_
 ·exact fV k o h
 simp[fG,Ku,bd,bo,a6]
end
end Go.Proofs.YtlnndmgfngfeiaaDoor
namespace Go.Pv
section
open Go
inductive aZ where
 |mk (kind n:Int) (name:List az) (args:List aZ)
def aZ.kind:aZ->Int| .mk k _ _ _=>k
def aZ.num:aZ->Int| .mk _ n _ _=>n
def aZ.name:aZ->List az| .mk _ _ s _=>s
def aZ.args:aZ->List aZ| .mk _ _ _ a=>a
mutual
def enc:aZ->ab
 | .mk k n s a=>.agg [.int .i64 k,.int .i64 n,.str s,.slice 4 .no (jY a)]
def jY:List aZ->List ab
 |[]=>[]
 |x::xs=>enc x::jY xs
end
theorem uP:∀l,jY l=l.map enc
 |[]=>rfl
 |x::xs=>by simp[jY,uP xs]
theorem uQ(t:aZ):enc t= .agg [.int .i64 t.kind,.int .i64 t.num,.str t.name,.slice 4 .no (t.args.map enc)]:=by cases t;simp[enc,uP,aZ.kind,aZ.num,aZ.name,aZ.args]
mutual
theorem Jt(S:aq->Prop):∀t:aZ,kin S (enc t)
 | .mk k n s a=>by simp[enc,kin,kinL,DG S a]
theorem DG(S:aq->Prop):∀l:List aZ,kinL S (jY l)
 |[]=>by simp[jY,kinL]
 |x::xs=>by simp[jY,kinL,Jt S x,DG S xs]
end
mutual
theorem Ld:∀t:aZ,bC (enc t)=enc t
 | .mk k n s a=>by simp[enc,bC,bF,EW a]
theorem EW:∀l:List aZ,bF (jY l)=jY l
 |[]=>by simp[jY,bF]
 |x::xs=>by simp[jY,bF,Ld x,EW xs]
end
@[simp]theorem Xn(S:aq->Prop)(t:aZ):kin S (enc t)=True:=eq_true (Jt S t)
@[simp]theorem Xk(S:aq->Prop)(l:List aZ):kinL S (l.map enc)=True:=by rw[<-uP];exact eq_true (DG S l)
theorem T3(l:List aZ):bF (l.map enc)=l.map enc:=by rw[<-uP];exact EW l
attribute [simp] Ld T3
@[simp]theorem Yj(t:aZ):dK (enc t)=true:=by rw[uQ];rfl
@[simp]theorem VS(t:aZ):cells (enc t)=[.int .i64 t.kind,.int .i64 t.num,.str t.name,.slice 4 .no (t.args.map enc)]:=by rw[uQ];rfl
@[simp]theorem Vi(t:aZ):ab.agg [.int .i64 t.kind,.int .i64 t.num,.str t.name,.slice 4 .no (t.args.map enc)]=enc t:=(uQ t).symm
@[simp]theorem Wo(off:Nat)(ep:Bool)(sz:Nat)(t:aZ):mn off ep sz (.eptr (enc t))=if ep then some (off+sz<=4,.eptr (.agg (([.int .i64 t.kind,.int .i64 t.num,.str t.name,.slice 4 .no (t.args.map enc)].drop off).take sz)))else(([.int .i64 t.kind,.int .i64 t.num,.str t.name,.slice 4 .no (t.args.map enc)]:List ab)[off]?).map fun p=>(dK p=true/\cells p=[p],.eptr p):=by rw[uQ];rfl
@[simp]theorem Xb(t:aZ):Pv.isAgg 4 (enc t):=by rw[uQ];exact⟨_,rfl,rfl⟩
inductive T where
 |nil
 |var (n:Int)
 |sym (s:List az)
 |num (n:Int)
 |pair (a b:T)
 deriving DecidableEq,Inhabited
def T.tm:T->aZ
 | .nil=>.mk 0 0 [] []
 | .var n=>.mk 1 n [] []
 | .sym s=>.mk 2 0 s []
 | .num n=>.mk 3 n [] []
 | .pair a b=>.mk 4 0 [] [a.tm,b.tm]
def T.e:T->ab
 | .nil=>.agg [.int .i64 0,.int .i64 0,.str [],.slice 4 .no []]
 | .var n=>.agg [.int .i64 1,.int .i64 n,.str [],.slice 4 .no []]
 | .sym s=>.agg [.int .i64 2,.int .i64 0,.str s,.slice 4 .no []]
 | .num n=>.agg [.int .i64 3,.int .i64 n,.str [],.slice 4 .no []]
 | .pair a b=>.agg [.int .i64 4,.int .i64 0,.str [],.slice 4 .no [a.e,b.e]]
theorem tp:∀t:T,enc t.tm=t.e
 | .nil| .var _| .sym _| .num _=>rfl
 | .pair a b=>by simp[T.tm,enc,jY,T.e,tp a,tp b]
def T.kind:T->Int
 | .nil=>0| .var _=>1| .sym _=>2| .num _=>3| .pair _ _=>4
def T.int:T->Int
 | .var n=>n| .num n=>n|_=>0
def T.name:T->List az
 | .sym s=>s|_=>[]
def T.args:T->List T
 | .pair a b=>[a,b]|_=>[]
theorem T.e_eq(t:T):t.e= .agg [.int .i64 t.kind,.int .i64 t.int,.str t.name,.slice 4 .no (t.args.map T.e)]:=by cases t<;>rfl
@[simp]theorem Vh(t:T):ab.agg [.int .i64 t.kind,.int .i64 t.int,.str t.name,.slice 4 .no (t.args.map T.e)]=t.e:=(T.e_eq t).symm
@[simp]theorem Vl:ab.agg [.int .i64 0,.int .i64 0,.str [],.slice 4 .no []]=T.nil.e:=rfl
@[simp]theorem Vp(n:Int):ab.agg [.int .i64 1,.int .i64 n,.str [],.slice 4 .no []]=(T.var n).e:=rfl
@[simp]theorem Vo(s:List az):ab.agg [.int .i64 2,.int .i64 0,.str s,.slice 4 .no []]=(T.sym s).e:=rfl
@[simp]theorem Vm(n:Int):ab.agg [.int .i64 3,.int .i64 n,.str [],.slice 4 .no []]=(T.num n).e:=rfl
@[simp]theorem Vn(a b:T):ab.agg [.int .i64 4,.int .i64 0,.str [],.slice 4 .no [a.e,b.e]]=(T.pair a b).e:=rfl
@[simp]theorem Xp:(T.nil).kind=0:=rfl
@[simp]theorem W3:(T.nil).int=0:=rfl
@[simp]theorem XK:(T.nil).name=[]:=rfl
@[simp]theorem Vq:(T.nil).args=[]:=rfl
@[simp]theorem Xt(n:Int):(T.var n).kind=1:=rfl
@[simp]theorem W7(n:Int):(T.var n).int=n:=rfl
@[simp]theorem XO(n:Int):(T.var n).name=[]:=rfl
@[simp]theorem Vu(n:Int):(T.var n).args=[]:=rfl
@[simp]theorem Xs(s:List az):(T.sym s).kind=2:=rfl
@[simp]theorem W6(s:List az):(T.sym s).int=0:=rfl
@[simp]theorem XN(s:List az):(T.sym s).name=s:=rfl
@[simp]theorem Vt(s:List az):(T.sym s).args=[]:=rfl
@[simp]theorem Xq(n:Int):(T.num n).kind=3:=rfl
@[simp]theorem W4(n:Int):(T.num n).int=n:=rfl
@[simp]theorem XL(n:Int):(T.num n).name=[]:=rfl
@[simp]theorem Vr(n:Int):(T.num n).args=[]:=rfl
@[simp]theorem Xr(a b:T):(T.pair a b).kind=4:=rfl
@[simp]theorem W5(a b:T):(T.pair a b).int=0:=rfl
@[simp]theorem XM(a b:T):(T.pair a b).name=[]:=rfl
@[simp]theorem Vs(a b:T):(T.pair a b).args=[a,b]:=rfl
@[simp]theorem Xm(S:aq->Prop)(t:T):kin S t.e=True:=by rw[<-tp];simp
@[simp]theorem YC(t:T):bC t.e=t.e:=by rw[<-tp];simp
theorem Js(S:aq->Prop):∀l:List T,kinL S (l.map T.e)
 |[]=>by simp[kinL]
 |x::xs=>by simp[kinL,Js S xs]
@[simp]theorem Xj(S:aq->Prop)(l:List T):kinL S (l.map T.e)=True:=eq_true (Js S l)
@[simp]theorem T2:∀l:List T,bF (l.map T.e)=l.map T.e
 |[]=>rfl
 |x::xs=>by simp[bF,T2 xs]
@[simp]theorem Yi(t:T):dK t.e=true:=by rw[T.e_eq];rfl
@[simp]theorem VR(t:T):cells t.e=[.int .i64 t.kind,.int .i64 t.int,.str t.name,.slice 4 .no (t.args.map T.e)]:=by rw[T.e_eq];rfl
@[simp]theorem Xa(t:T):Pv.isAgg 4 t.e:=by rw[T.e_eq];exact⟨_,rfl,rfl⟩
def T.size:T->Nat
 | .pair a b=>1+a.size+b.size
 |_=>1
theorem T.size_pos(t:T):1<=t.size:=by cases t<;>simp[T.size]<;>omega
def low(b:az):Bool:=decide (97<=b.toNat/\b.toNat<=122)
def j5(b:az):Bool:=low b||decide (48<=b.toNat/\b.toNat<=57)||b.toNat==45
def gU(s:List az):Bool:=decide (1<=s.length/\s.length<=12)&&low (s.getD 0 0)&&(s.drop 1).all j5
def T.ok:T->Bool
 | .nil=>true
 | .var n=>decide (0<=n/\n<=100000)
 | .sym s=>gU s
 | .num n=>decide (-1000000000<=n/\n<=1000000000)
 | .pair a b=>a.ok&&b.ok
def ju(k n:Int)(s:List az):Bool:=if k=0 then n==0&&s==[]else if k=1 then decide (0<=n/\n<=100000)&&s==[]else if k=2 then n==0&&gU s else if k=3 then decide (-1000000000<=n/\n<=1000000000)&&s==[]else false
def eH:aZ->Int->Int
 | .mk k n s [a,b],room=>if room<1\/k≠4\/n≠0\/s≠[]then-1 else if eH a (room-1)<0 then-1 else if eH b (room-1-eH a (room-1))<0 then-1 else 1+eH a (room-1)+eH b (room-1-eH a (room-1))
 | .mk k n s args,room=>if room<1\/k=4\/args≠[]\/ju k n s=false then-1 else 1
theorem D5(k n:Int)(s:List az)(args:List aZ)(room:Int):eH (.mk k n s args) room=if room<1 then-1 else if k≠4 then(if args≠[]then-1 else if ju k n s then 1 else-1)else if n≠0\/s≠[]then-1 else match args with
  |[a,b]=>if eH a (room-1)<0 then-1 else if eH b (room-1-eH a (room-1))<0 then-1 else 1+eH a (room-1)+eH b (room-1-eH a (room-1))
  |_=> -1:=by
 match args with
 |[]=>simp only[eH];by_cases I:room<1<;>by_cases aa:k=4<;>by_cases ak:ju k n s=true<;>simp[I,aa,ak]
 |[a]=>simp[eH]
 |[a,b]=>simp only[eH];by_cases I:room<1<;>by_cases aa:k=4<;>simp[I,aa]
 |a::b::c::r=>simp[eH]
theorem D4:∀(t:T) (room:Int),eH t.tm room=if t.ok=true/\(t.size:Int)<=room then(t.size:Int)else-1
 | .nil,room=>by simp[T.tm,eH,T.ok,T.size,ju];split<;>rename_i h<;>simp_all<;>omega
 | .var n,room=>by simp[T.tm,eH,T.ok,T.size,ju];split<;>split<;>simp_all<;>omega
 | .sym s,room=>by simp[T.tm,eH,T.ok,T.size,ju];by_cases I:room<1<;>by_cases aa:gU s=true<;>simp[I,aa]<;>omega
 | .num n,room=>by simp[T.tm,eH,T.ok,T.size,ju];split<;>split<;>simp_all<;>omega
 | .pair a b,room=>by
  have b1:=a.size_pos;have af:=b.size_pos;simp only[T.tm,eH,D4 a,D4 b,T.ok,T.size,bD];by_cases I:room<1
  ·simp[I];omega
  ·by_cases aa:a.ok=true/\(a.size:Int)<=room-1
   ·rw[if_pos aa];by_cases ak:b.ok=true/\(b.size:Int)<=room-1-a.size
    ·rw[if_pos ak];simp[I,aa.1,ak.1];split<;>omega
    ·rw[bh ak];simp[I,aa.1];intro qD;have:=ak;simp[qD]at this;omega
   ·rw[bh aa];simp[I];intro PT;have:=aa;simp[PT]at this;omega
theorem Av:∀(t:aZ) (room:Int),eH t room= -1\/1<=eH t room
 | .mk k n s [a,b],room=>by
  simp only[eH];split
  ·exact .inl rfl
  ·split
   ·exact .inl rfl
   ·split
    ·exact .inl rfl
    ·right;omega
 | .mk k n s [],room=>by simp only[eH];split<;>simp
 | .mk k n s [a],room=>by simp[eH]
 | .mk k n s (a::b::c::r),room=>by simp[eH]
theorem D7:∀(t:aZ) (room:Int),0<eH t room->∃x:T,x.tm=t
 | .mk k n s [a,b],room,h=>by
  simp only[eH]at h;split at h
  ·omega
  ·rename_i I;simp only[not_or,Int.not_lt,ne_eq,YO]at I;obtain⟨I,rfl,rfl,rfl⟩:=I;split at h
   ·omega
   ·split at h
    ·omega
    ·obtain⟨x,rfl⟩:=D7 a (room-1) (by rcases Av a (room-1)with h|h<;>omega);obtain⟨y,rfl⟩:=D7 b (room-1-eH x.tm (room-1)) (by rcases Av b (room-1-eH x.tm (room-1))with h|h<;>omega);exact⟨.pair x y,rfl⟩
 | .mk k n s [],room,h=>by
  simp only[eH]at h;split at h
  ·omega
  ·rename_i I;simp only[not_or,ne_eq,not_true_eq_false,not_false_eq_true,true_and,Bool.not_eq_false]at I;obtain⟨_,_,I⟩:=I;unfold ju at I;split at I
   ·rename_i e;subst e;simp at I;obtain⟨rfl,rfl⟩:=I;exact⟨.nil,rfl⟩
   ·split at I
    ·rename_i e;subst e;simp at I;obtain⟨_,rfl⟩:=I;exact⟨.var n,rfl⟩
    ·split at I
     ·rename_i e;subst e;simp at I;obtain⟨rfl,_⟩:=I;exact⟨.sym s,rfl⟩
     ·split at I
      ·rename_i e;subst e;simp at I;obtain⟨_,rfl⟩:=I;exact⟨.num n,rfl⟩
      ·cases I
 | .mk k n s [a],room,h=>by simp[eH]at h
 | .mk k n s (a::b::c::r),room,h=>by simp[eH]at h
theorem D6:∀(t:aZ) (room:Int),eH t room<=room\/eH t room= -1
 | .mk k n s [a,b],room=>by
  simp only[eH];split
  ·exact .inr rfl
  ·split
   ·exact .inr rfl
   ·split
    ·exact .inr rfl
    ·rcases D6 b (room-1-eH a (room-1))with h|h<;>omega
 | .mk k n s [],room=>by simp only[eH];split<;>simp;rename_i h;omega
 | .mk k n s [a],room=>by simp[eH]
 | .mk k n s (a::b::c::r),room=>by simp[eH]
mutual
def aZ.sz:aZ->Nat
 | .mk _ _ _ a=>1+aZ.szL a
def aZ.szL:List aZ->Nat
 |[]=>0
 |x::xs=>x.sz+aZ.szL xs
end
theorem Lh:∀{l:List aZ} {x:aZ},x∈l->x.sz<=aZ.szL l
 |y::l,x,h=>by
  rcases gZ.1 h with rfl|h
  ·simp[aZ.szL]
  ·have:=Lh h;simp[aZ.szL];omega
theorem Lj{t x:aZ}(h:x∈t.args):x.sz<t.sz:=by cases t;simp[aZ.args]at h;have:=Lh h;simp[aZ.sz];omega
def T.fit(t:T):Bool:=t.ok&&decide (t.size<=5000)
def aZ.fits(t:aZ):Bool:=decide (0<eH t 5000)
theorem aZ.fits_T(t:T):t.tm.fits=t.fit:=by
 unfold aZ.fits T.fit;rw[D4];have:=t.size_pos;by_cases I:t.ok=true<;>by_cases aa:t.size<=5000
 ·rw[if_pos ⟨I,Ω⟩];simp[I,aa];omega
 ·rw[bh Ω];simp[aa]
 ·rw[bh (by simp[I])];simp[I]
 ·rw[bh (by simp[I])];simp[I]
theorem aZ.fits_ex{t:aZ}(h:t.fits=true):∃x:T,x.tm=t/\x.fit=true:=by obtain⟨x,rfl⟩:=D7 t 5000 (by simpa[aZ.fits]using h);exact⟨x,rfl,by rw[<-aZ.fits_T];exact h⟩
structure hR where
 v:Int
 t:T
 deriving DecidableEq,Inhabited
def hR.e(b:hR):ab:= .agg [.int .i64 b.v,.int .i64 b.t.kind,.int .i64 b.t.int,.str b.t.name,.slice 4 .no (b.t.args.map T.e)]
@[simp]theorem hR.eta(b:hR):hR.mk b.v b.t=b:=rfl
@[simp]theorem U9(v:Int)(t:T):ab.agg [.int .i64 v,.int .i64 t.kind,.int .i64 t.int,.str t.name,.slice 4 .no (t.args.map T.e)]=(hR.mk v t).e:=rfl
@[simp]theorem Va(v:Int):ab.agg [.int .i64 v,.int .i64 0,.int .i64 0,.str [],.slice 4 .no []]=(hR.mk v .nil).e:=rfl
@[simp]theorem Ve(v n:Int):ab.agg [.int .i64 v,.int .i64 1,.int .i64 n,.str [],.slice 4 .no []]=(hR.mk v (.var n)).e:=rfl
@[simp]theorem Vd(v:Int)(s:List az):ab.agg [.int .i64 v,.int .i64 2,.int .i64 0,.str s,.slice 4 .no []]=(hR.mk v (.sym s)).e:=rfl
@[simp]theorem Vb(v n:Int):ab.agg [.int .i64 v,.int .i64 3,.int .i64 n,.str [],.slice 4 .no []]=(hR.mk v (.num n)).e:=rfl
@[simp]theorem Vc(v:Int)(a b:T):ab.agg [.int .i64 v,.int .i64 4,.int .i64 0,.str [],.slice 4 .no [a.e,b.e]]=(hR.mk v (.pair a b)).e:=rfl
@[simp]theorem Yc(b:hR):dK b.e=true:=rfl
@[simp]theorem VN(b:hR):cells b.e=[.int .i64 b.v,.int .i64 b.t.kind,.int .i64 b.t.int,.str b.t.name,.slice 4 .no (b.t.args.map T.e)]:=rfl
@[simp]theorem Ww(off:Nat)(ep:Bool)(sz:Nat)(b:hR):pV off ep sz b.e=if ep then some (off+sz<=5,.agg (([.int .i64 b.v,.int .i64 b.t.kind,.int .i64 b.t.int,.str b.t.name,.slice 4 .no (b.t.args.map T.e)].drop off).take sz))else(([.int .i64 b.v,.int .i64 b.t.kind,.int .i64 b.t.int,.str b.t.name,.slice 4 .no (b.t.args.map T.e)]:List ab)[off]?).map fun p=>(True,p):=rfl
@[simp]theorem Wl(off:Nat)(ep:Bool)(sz:Nat)(b:hR):mn off ep sz (.eptr b.e)=if ep then some (off+sz<=5,.eptr (.agg (([.int .i64 b.v,.int .i64 b.t.kind,.int .i64 b.t.int,.str b.t.name,.slice 4 .no (b.t.args.map T.e)].drop off).take sz)))else(([.int .i64 b.v,.int .i64 b.t.kind,.int .i64 b.t.int,.str b.t.name,.slice 4 .no (b.t.args.map T.e)]:List ab)[off]?).map fun p=>(dK p=true/\cells p=[p],.eptr p):=rfl
def T.occ(v:Int):T->Bool
 | .var n=>n==v
 | .pair a b=>a.occ v||b.occ v
 |_=>false
structure oH where
 v:Int
 t:aZ
def oH.e(b:oH):ab:= .agg [.int .i64 b.v,.int .i64 b.t.kind,.int .i64 b.t.num,.str b.t.name,.slice 4 .no (b.t.args.map enc)]
def hR.b(b:hR):oH:=⟨b.v,b.t.tm⟩
@[simp]theorem oH.eta(b:oH):oH.mk b.v b.t=b:=rfl
@[simp]theorem Vf(v:Int)(t:aZ):ab.agg [.int .i64 v,.int .i64 t.kind,.int .i64 t.num,.str t.name,.slice 4 .no (t.args.map enc)]=(oH.mk v t).e:=rfl
@[simp]theorem Ye(b:oH):dK b.e=true:=rfl
@[simp]theorem VP(b:oH):cells b.e=[.int .i64 b.v,.int .i64 b.t.kind,.int .i64 b.t.num,.str b.t.name,.slice 4 .no (b.t.args.map enc)]:=rfl
@[simp]theorem Wx(off:Nat)(ep:Bool)(sz:Nat)(b:oH):pV off ep sz b.e=if ep then some (off+sz<=5,.agg (([.int .i64 b.v,.int .i64 b.t.kind,.int .i64 b.t.num,.str b.t.name,.slice 4 .no (b.t.args.map enc)].drop off).take sz))else(([.int .i64 b.v,.int .i64 b.t.kind,.int .i64 b.t.num,.str b.t.name,.slice 4 .no (b.t.args.map enc)]:List ab)[off]?).map fun p=>(True,p):=rfl
@[simp]theorem Wm(off:Nat)(ep:Bool)(sz:Nat)(b:oH):mn off ep sz (.eptr b.e)=if ep then some (off+sz<=5,.eptr (.agg (([.int .i64 b.v,.int .i64 b.t.kind,.int .i64 b.t.num,.str b.t.name,.slice 4 .no (b.t.args.map enc)].drop off).take sz)))else(([.int .i64 b.v,.int .i64 b.t.kind,.int .i64 b.t.num,.str b.t.name,.slice 4 .no (b.t.args.map enc)]:List ab)[off]?).map fun p=>(dK p=true/\cells p=[p],.eptr p):=rfl
def T.sub(f:Int->aR T):T->T
 | .var n=>match f n with|some x=>x|none=>.var n
 | .pair a b=>.pair (a.sub f) (b.sub f)
 |t=>t
def Mr(l:List hR)(v:Int):aR T:=(l.find? fun b=>b.v==v).map (·.t)
end
end Go.Pv
namespace Go.Proofs.YtlnndmgfngfeiaaDoor
section
open Go Go.Pv
def Rt(s:List az)(k:Nat)(st:aM):Prop:=∃i:Nat,1<=i/\i<=s.length/\k=s.length-i/\((s.drop 1).all j5=(s.drop i).all j5)/\st=⟨[(0,.str s),(3,.int .i64 i)],[],[],0,[]⟩
theorem Fi(s:List az):ca aP 41 [.str s] (.bool (gU s)):=by
 refine ca.mk mixed sY OH Sp Ψ (by simp[kin]) fun af=>?_;unfold Gc;simp;(with_reducible repeat' first|((first|refine dY (fun h=>?_) fun h=>?_|refine ed (fun h=>?_) fun h=>?_|refine ec (fun h=>?_) fun h=>?_)<;>try simp at h)|refine aK ?_|simp);case refine_1.refine_1.refine_1.refine_2=>
  have tM:gU s=(s.drop 1).all j5:=by simp[gU,low];omega
  rw[tM];refine B9 (Rt s) (s.length-1) _ ⟨Ψ,by simp[mK],by simp[nC],Ψ⟩ ⟨1,Ω,Ω,rfl,rfl,rfl⟩ ?_;rintro k st ⟨i,lp,xp,J,mr,rfl⟩ WL dG;rw[mr];simp;refine dY (fun b4=>?_) (fun j1=>?_)
  ·simp at b4;have aG:s.drop i=s[i]?.getD 0::s.drop (i+1):=by rw[pJ b4];simp[b4]
   simp;(with_reducible repeat' first|((first|refine dY (fun h=>?_) fun h=>?_|refine ed (fun h=>?_) fun h=>?_|refine ec (fun h=>?_) fun h=>?_)<;>try simp at h)|refine aK ?_|simp);all_goals first
    |(simp[cC,AM,bd,bo,a6,aG,j5,low];omega)
    |(simp only[L8];refine⟨s.length-(i+1),_,Ω,⟨Ψ,by simp[mK],by simp[nC],Ψ⟩,i+1,Ω,Ω,rfl,?_,rfl⟩;rw[mr,aG];simp[j5,low];omega)
  ·simp at j1;have:s.drop i=[]:=by simp;omega
   simp[cC,AM,bd,bo,a6,this]
 all_goals simp[cC,AM,bd,bo,a6,gU,low]
 all_goals omega
theorem UH(m:Nat):∀(t:aZ),t.sz<=m->∀(room:Int),0<=room/\room<=10000->ca aP 48 [enc t,.int .i64 room] (.int .i64 (eH t room)):=by
 induction m with
 |zero=>intro t au;cases t;simp[aZ.sz]at au
 |succ m a8=>
 rintro⟨k,n,s,args⟩ au room ls;refine bZ sY OK Ss fun aT=>?_;unfold Gf;simp[aZ.kind,aZ.num,aZ.name,aZ.args];(with_reducible repeat' first|((first|refine dY (fun h=>?_) fun h=>?_|refine ed (fun h=>?_) fun h=>?_|refine ec (fun h=>?_) fun h=>?_)<;>try simp at h)|refine aK ?_|simp);all_goals try refine CallDo.val Ψ (Fi _) ?_
 all_goals try simp
 (with_reducible repeat' first|((first|refine dY (fun h=>?_) fun h=>?_|refine ed (fun h=>?_) fun h=>?_|refine ec (fun h=>?_) fun h=>?_)<;>try simp at h)|refine aK ?_|simp);all_goals try simp[cC,AN,bd,bo,a6]
 case succ.refine_2.refine_2.refine_1.refine_1.refine_2=>
  rename_i bR I aa ak;match args,h with
  |[a,b],_=>
  simp[aZ.sz,aZ.szL]at au;subst I aa ak;simp;(with_reducible repeat' first|((first|refine dY (fun h=>?_) fun h=>?_|refine ed (fun h=>?_) fun h=>?_|refine ec (fun h=>?_) fun h=>?_)<;>try simp at h)|refine aK ?_|simp);refine CallDo.val Ψ (a8 a Ω (room-1) Ω) ?_;simp;have b1:=D6 a (room-1);have u9:=Av a (room-1);(with_reducible repeat' first|((first|refine dY (fun h=>?_) fun h=>?_|refine ed (fun h=>?_) fun h=>?_|refine ec (fun h=>?_) fun h=>?_)<;>try simp at h)|refine aK ?_|simp)
  ·simp[cC,AN,bd,bo,a6];rw[D5];simp;omega
  ·refine CallDo.val Ψ (a8 b Ω (room-1-eH a (room-1)) Ω) ?_;simp;have af:=D6 b (room-1-eH a (room-1));have dM:=Av b (room-1-eH a (room-1));(with_reducible repeat' first|((first|refine dY (fun h=>?_) fun h=>?_|refine ed (fun h=>?_) fun h=>?_|refine ec (fun h=>?_) fun h=>?_)<;>try simp at h)|refine aK ?_|simp);all_goals simp[cC,AN,bd,bo,a6]
   all_goals rw[D5];simp;omega
 all_goals rw[D5]
 all_goals simp_all[ju]
 all_goals first|omega|(split<;>simp at h⊢)
theorem LJ(t:aZ):ca aP 33 [enc t] (.bool t.fits):=by refine bZ sY OI Sq fun aT=>?_;unfold Gd;simp;refine CallDo.val Ψ (UH t.sz t (cx _) 5000 Ω) ?_;simp;simp[cC,Kr,bd,bo,a6];simp[aZ.fits]
def Gb:C:=(al [jA 1 0,bQ 2 false] (al [dv 3 4 1,l7 4 34 [.t 3,(cO 80)],bc 5 .gtr 4 0,ae 2 5] .ret))
@[simp] def S6:List cG:=[.tmp 2]
def BG:C:=(al [bQ 2 false] (.seq (al [ae 3 0] (.block 0 (.seq (al [a7 5 (.bin .eql false (.t 3) (.c (.str [116,114,117,101]))),ae 4 5] (be 4 .skip (al [a7 6 (.bin .eql false (.t 3) (.c (.str [102,97,105,108]))),ae 4 6] (be 4 .skip (al [a7 7 (.bin .eql false (.t 3) (.c (.str [115,121,109,98,111,108]))),ae 4 7] (be 4 .skip (al [a7 8 (.bin .eql false (.t 3) (.c (.str [110,117,109,98,101,114]))),ae 4 8] (be 4 .skip (al [a7 9 (.bin .eql false (.t 3) (.c (.str [97,98,115,101,110,116]))),ae 4 9] (be 4 .skip (al [a7 10 (.bin .eql false (.t 3) (.c (.str [97,110,100]))),ae 4 10] (be 4 .skip (al [a7 11 (.bin .eql false (.t 3) (.c (.str [111,114]))),ae 4 11] (be 4 .skip (al [a7 12 (.bin .eql false (.t 3) (.c (.str [110,111,116]))),ae 4 12] (be 4 .skip (.region [a7 13 (.bin .eql false (.t 3) (.c (.str [100,101,102,105,110,101]))),ae 4 13]))))))))))))))))) (be 4 (al [bQ 2 false] .ret) .skip)))) (al [ae 14 0,ef 15 41 14,ae 2 15] .ret)))
@[simp] def S7:List cG:=[.tmp 2]
def nV:C:=(al [jA 2 0,cF 4 0] (.seq (al [ae 10 1,bc 11 .lss 10 1,ae 12 11,aO 12 false (bE 13 2 1 2),aO 12 false (bB 14 1 13),aO 12 false (ef 15 49 14),aO 12 false (eK 16 15),dD 17 12 16] (be 17 (al [cF 4 (-1)] .ret) .skip)) (al [fk (.mkmap 18 none),fk (.mput .i (.t 18) (cO 2) (cO 2)),fk (.mput .i (.t 18) (cO 3) (cO 2)),fk (.mput .i (.t 18) (cO 4) (cO 1)),fk (.mput .i (.t 18) (cO 5) (cO 1)),fk (.mput .i (.t 18) (cO 6) (cO 2)),ae 19 18,bE 20 0 1 2,bB 21 1 20,a7 22 (.mget .i (.int .i64 0) false (.t 19) (.t 21)),ae 5 22] (.seq (al [bE 23 0 1 2,bB 24 1 23] (.block 0 (.seq (al [bc 26 .eql 24 0,ae 25 26] (be 25 .skip (al [bc 27 .eql 24 1,ae 25 27] (be 25 .skip (al [bc 28 .eql 24 2,ae 25 28] (be 25 .skip (al [bc 29 .eql 24 3,ae 25 29] (be 25 .skip (al [bc 30 .eql 24 4,ae 25 30] (be 25 .skip (al [bc 31 .eql 24 5,ae 25 31] (be 25 .skip (.region [bc 32 .eql 24 6,ae 25 32]))))))))))))) (be 25 (.seq (al [bE 33 1 1 2,bB 34 1 33,a7 35 (.bin .neq false (.t 34) (.c (.str []))),ae 36 35,aO 36 false (bE 37 3 1 2),aO 36 false (bB 38 1 37),aO 36 false (ee 39 38),aO 36 false (bc 40 .neq 39 0),dD 41 36 40,ae 42 41,aO 42 false (bE 43 2 1 2),aO 42 false (bB 44 1 43),aO 42 false (ee 45 44),b7 42 false 46 5,aO 42 false (c6 47 .neq 45 46),dD 48 42 47,ae 49 48,aO 49 false (bE 50 0 1 2),aO 49 false (bB 51 1 50),aO 49 false (bc 52 .eql 51 6),b7 49 false 53 52,aO 53 true (bE 54 2 1 2),aO 53 true (bB 55 1 54),aO 53 true (s0 56 4 55 0),aO 53 true (bE 57 0 1 56),aO 53 true (bB 58 1 57),aO 53 true (bc 59 .neq 58 2),aO 49 false (ff 60 53 59),dD 61 49 60] (be 61 (al [cF 4 (-1)] .ret) .skip)) (al [cF 4 1] .ret)) (al [bc 63 .eql 24 9,ae 62 63] (be 62 (.seq (al [bE 64 1 1 2,bB 65 1 64,ef 66 31 65,eK 67 66,ae 68 67,aO 68 false (bE 69 3 1 2),aO 68 false (bB 70 1 69),aO 68 false (ee 71 70),aO 68 false (bc 72 .neq 71 0),dD 73 68 72,ae 74 73,aO 74 false (bE 75 2 1 2),aO 74 false (bB 76 1 75),aO 74 false (ee 77 76),aO 74 false (bc 78 .gtr 77 4),dD 79 74 78] (be 79 (al [cF 4 (-1)] .ret) .skip)) (al [cF 4 1] .ret)) (.seq (al [bc 81 .eql 24 7,ae 80 81] (be 80 .skip (.region [bc 82 .eql 24 8,ae 80 82]))) (be 80 (al [bE 83 1 1 2,bB 84 1 83,a7 85 (.bin .neq false (.t 84) (.c (.str []))),ae 86 85,aO 86 false (bE 87 2 1 2),aO 86 false (bB 88 1 87),aO 86 false (ee 89 88),aO 86 false (bc 90 .neq 89 0),dD 91 86 90,ae 92 91,aO 92 false (bE 93 3 1 2),aO 92 false (bB 94 1 93),aO 92 false (ee 95 94),aO 92 false (bc 96 .gtr 95 8),dD 97 92 96] (be 97 (al [cF 4 (-1)] .ret) .skip)) (al [bc 99 .eql 24 10,ae 98 99] (be 98 (al [bE 100 1 1 2,bB 101 1 100,a7 102 (.bin .neq false (.t 101) (.c (.str []))),ae 103 102,aO 103 false (bE 104 2 1 2),aO 103 false (bB 105 1 104),aO 103 false (ee 106 105),aO 103 false (bc 107 .neq 106 0),dD 108 103 107,ae 109 108,aO 109 false (bE 110 3 1 2),aO 109 false (bB 111 1 110),aO 109 false (ee 112 111),aO 109 false (bc 113 .neq 112 1),dD 114 109 113,ae 115 114,aO 115 false (bE 116 3 1 2),aO 115 false (bB 117 1 116),aO 115 false (s0 118 4 117 0),aO 115 false (bE 119 0 1 118),aO 115 false (bB 120 1 119),aO 115 false (bc 121 .neq 120 9),dD 122 115 121] (be 122 (al [cF 4 (-1)] .ret) .skip)) (al [cF 4 (-1)] .ret))))))))))) (al [cF 6 1] (.seq (al [bE 123 3 1 2,bB 124 1 123,ee 125 124,cF 126 0] (.block 1 (.loop (al [c6 127 .lss 126 125] (.seq (be 127 .skip (.exit 1)) (.seq (.block 2 (al [eS 128 4 124 126,dv 129 4 128,fk (.alloc 8 none (.agg [.int .i64 0,.str [],.slice 4 .nil [],.slice 4 .nil []])),bY 4 8 129] (al [dv 130 4 8,ae 131 1,ae 132 6,c6 133 .sub 131 132,gK 134 34 130 133,ae 9 134] (.seq (al [ae 135 9,bc 136 .lss 135 0] (be 136 (al [cF 4 (-1)] .ret) .skip)) (.region [ae 137 6,ae 138 9,c6 139 .add 137 138,ae 6 139]))))) (.region [bc 140 .add 126 1,ae 126 140]))))))) (al [ae 141 6,ae 4 141] .ret)))))))
@[simp] def qa:List cG:=[.tmp 4]
def Bm:List (Nat×cm):=[
 (3,⟨1,8,.int .i64,.int .i64 0⟩),
 (9,⟨1,16,.str,.str []⟩),
 (22,⟨1,24,.slice 51,.slice 4 .nil []⟩),
 (23,⟨1,24,.slice 25,.slice 4 .nil []⟩),
 (25,⟨4,72,.struct [(0,3),(1,9),(2,22),(3,23)],.agg [.int .i64 0,.str [],.slice 4 .nil [],.slice 4 .nil []]⟩),
 (51,⟨4,56,.struct [(0,3),(1,3),(2,9),(3,22)],.agg [.int .i64 0,.int .i64 0,.str [],.slice 4 .nil []]⟩),
 (71,⟨1,8,.map 3 3,.junk⟩)]
theorem mL:dE aP Bm=true:=by kernel_rfl
theorem Sn:dA Bm Gb S6 1 Tryd.f16=true:=by kernel_rfl
theorem OG:aP.funcs[(16:Nat)]? =some Tryd.f16:=Tryd.func16
theorem J4:dA Bm BG S7 1 Tryd.f31=true:=by kernel_rfl
theorem Hj:aP.funcs[(31:Nat)]? =some Tryd.f31:=Tryd.func31
theorem pt:dA Bm nV qa 2 Tryd.f34=true:=by kernel_rfl
theorem oS:aP.funcs[(34:Nat)]? =some Tryd.f34:=Tryd.func34
end
end Go.Proofs.YtlnndmgfngfeiaaDoor
namespace Go.Pv
section
open Go Go.Lib
theorem Kg:∀(a b:List az) (acc:Nat),parseUint10 acc (a++b)=match parseUint10 acc a with| .ok v=>parseUint10 v b|x=>x
 |[],b,acc=>rfl
 |c::r,b,acc=>by
  simp only[eP,parseUint10];split
  ·split
   ·rfl
   ·split
    ·rfl
    ·exact Kg r b _
  ·rfl
theorem pR{u:Nat}(h:u<10):decDigits u=[lF (48+u)]:=by rw[decDigits,dif_pos h]
theorem rR{u:Nat}(h:10<=u):decDigits u=decDigits (u/10)++[lF (48+u%10)]:=by rw[decDigits,dif_neg Ω]
theorem wY{d:Nat}(h:d<10):(lF (48+d)).toNat=48+d:=by rw[UInt8.toNat_ofNat'];omega
theorem SZ(u:Nat)(h:u<18446744073709551616):parseUint10 0 (decDigits u)= .ok u:=by
 induction u using Nat.strongRecOn with
 |_ u a8=>
  have step:∀v d,d<10->v*10+d<18446744073709551616->parseUint10 v [lF (48+d)]= .ok (v*10+d):=by intro v d aG aY;simp only[parseUint10,wY aG];rw[if_pos Ω,bh Ω,bh Ω];congr 1;omega
  by_cases hu:u<10
  ·rw[pR hu,step 0 u hu Ω];congr 1;omega
  ·rw[rR Ω,Kg,a8 (u/10) Ω Ω];simp only;rw[step _ _ (Nat.mod_lt _ Ω) Ω];congr 1;omega
theorem mU(u:Nat):decDigits u≠[]:=by
 by_cases hu:u<10
 ·rw[pR hu];simp
 ·rw[rR Ω];simp
theorem BW(u:Nat):∀c∈decDigits u,48<=c.toNat/\c.toNat<=57:=by
 induction u using Nat.strongRecOn with
 |_ u a8=>
  by_cases hu:u<10
  ·rw[pR hu];intro c aA;rw[List.mem_singleton.1 aA,wY hu];omega
  ·rw[rR Ω];intro c aA;rcases hp.1 aA with h|h
   ·exact a8 _ Ω c h
   ·rw[List.mem_singleton.1 h,wY (Nat.mod_lt _ Ω)];omega
theorem Kf{u:Nat}(h:u<18446744073709551616):parseMag (decDigits u)= .ok u:=by unfold parseMag;rw[bh (mU u)];exact SZ u h
theorem Ml{n:Int}(h:bk n):atoiAll (itoa n)= .ok n:=by
 unfold bk at h;unfold itoa;by_cases aU:n<0
 ·rw[if_pos aU];simp only[atoiAll];rw[if_pos Ψ,Kf Ω];simp only;rw[bh Ψ,bh (by simp;omega),if_pos Ψ];congr 1;omega
 ·rw[bh aU];obtain⟨c,r,aA⟩:∃c r,decDigits n.toNat=c::r:=by
   cases aG:decDigits n.toNat with
   |nil=>exact absurd aG (mU _)
   |cons c r=>exact⟨c,r,rfl⟩
  have hm:=BW n.toNat c (by rw[aA];simp);have aV:=Kf (u:=n.toNat) Ω;rw[aA]at aV⊢;simp only[atoiAll];rw[bh Ω,aV];simp only;rw[bh Ω,bh Ω,bh Ω];congr 1;omega
theorem Mk{s:List az}{n:Int}(h:atoiAll s= .ok n):bk n:=by
 unfold atoiAll at h;unfold bk;split at h
 ·cases h
 ·rename_i c r;simp only at h;split at h
  ·cases h
  ·cases h
  ·split at h
   ·cases h
   ·split at h
    ·cases h
    ·injection h with h;split at h<;>omega
def gQ(s:List az):aR Int:=match atoiAll s with
 | .ok n=>if itoa n=s then some n else none
 |_=>none
theorem AG{s:List az}{n:Int}:gQ s=some n↔bk n/\itoa n=s:=by
 unfold gQ;constructor
 ·intro h;rcases b1:atoiAll s with m|_|_
  ·rw[b1]at h;simp only at h;split at h
   ·rename_i e;cases h;exact⟨Mk b1,e⟩
   ·cases h
  ·rw[b1]at h;cases h
  ·rw[b1]at h;cases h
 ·rintro⟨I,rfl⟩;rw[Ml I];simp
theorem pv{s:List az}(h:∀n,bk n->itoa n≠s):gQ s=none:=by
 cases aV:gQ s with
 |none=>rfl
 |some n=>exact absurd (AG.1 aV).2 (h n (AG.1 aV).1)
theorem G3:∀(k u:Nat),u<10 ^ k->(decDigits u).length<=max k 1
 |0,u,h=>by rw[pR (by simpa using Nat.lt_of_lt_of_le h Ψ)];simp
 |k+1,u,h=>by
  by_cases hu:u<10
  ·rw[pR hu];simp
  ·rw[rR Ω];have:=G3 k (u/10) (by rw[Nat.pow_succ]at h;omega);simp;have:k≠0:=fun e=>by subst e;simp at h;omega
   omega
def lM(c:az):Bool:=c==32||c==10||c==40||c==41||c==59
def mH(c:az):Bool:= !(c==10)
def h5(c:az):Bool:= !lM c
theorem y3{α:Type}(p:α->Bool):∀l:List α,(l.dropWhile p).length<=l.length
 |[]=>by simp
 |x::r=>by
  simp only[List.dropWhile];split
  ·have:=y3 p r;simp;omega
  ·simp
def fO:List az->List (List az)
 |[]=>[]
 |c::r=>if c=32\/c=10 then fO r else if c=59 then fO (r.dropWhile mH)else if c=40\/c=41 then [c]::fO r else(c::r.takeWhile h5)::fO (r.dropWhile h5)
termination_by l=>l.length
decreasing_by
 all_goals simp
 all_goals exact Nat.lt_succ_of_le (y3 _ _)
theorem Bj:fO []=[]:=by rw[fO]
theorem Bi(c:az)(r:List az):fO (c::r)=if c=32\/c=10 then fO r else if c=59 then fO (r.dropWhile mH)else if c=40\/c=41 then [c]::fO r else(c::r.takeWhile h5)::fO (r.dropWhile h5):=by rw[fO]
def ps(c:az):Bool:=c==10||(decide (32<=c.toNat)&&decide (c.toNat<=126))
def ho(s:List az):aR (List (List az)):=if s.length<=100000/\(∀c∈s,ps c=true)/\(fO s).length<=20000 then some (fO s)else none
theorem fY{α:Type}{l:List α}{i:Nat}{x:α}(h:l[i]? =some x):l.drop i=x::l.drop (i+1):=by obtain⟨aD,rfl⟩:=gp.1 h;exact pJ aD
theorem yz:∀(n:Nat) (s:List az),s.length<=n->∀t∈fO s,t≠[]
 |_,[],_=>by simp[Bj]
 |0,_::_,h=>by simp at h
 |n+1,c::r,h=>by
  rw[Bi];simp at h;have I:=y3 mH r;have aa:=y3 h5 r;split
  ·exact yz n r h
  ·split
   ·exact yz n _ Ω
   ·split
    ·intro t au;rcases gZ.1 au with rfl|au
     ·simp
     ·exact yz n r h t au
    ·intro t au;rcases gZ.1 au with rfl|au
     ·simp
     ·exact yz n _ Ω t au
def gv:List T->T->T
 |[],t=>t
 |x::r,t=>.pair x (gv r t)
theorem RV(a b:List T)(t:T):gv (a++b) t=gv a (gv b t):=by
 induction a with
 |nil=>rfl
 |cons x r a8=>simp[gv,a8]
def fR(w:List az):aR T:=
 match w with
 |63::r=>match gQ r with
  |some n=>if 0<=n/\n<=100000 then some (.var n)else none
  |none=>none
 |w=>if gU w then some (.sym w)else(gQ w).map .num
mutual
def rd(at':List az->aR T):Nat->List (List az)->aR (T×List (List az))
 |0,_=>none
 |_+1,[]=>none
 |n+1,w::r=>if w=[40]then bP at' n r []else if w=[41]\/w=[46]then none else(at' w).map fun t=>(t,r)
def bP(at':List az->aR T):Nat->List (List az)->List T->aR (T×List (List az))
 |0,_,_=>none
 |_+1,[],_=>none
 |n+1,w::r,acc=>if w=[41]then some (gv acc .nil,r)
  else if w=[46]then(if acc=[]then none else match rd at' n r with
   |some (t,v::cr)=>if v=[41]then some (gv acc t,cr)else none
   |_=>none)
  else match rd at' n (w::r)with
   |some (t,cr)=>bP at' n cr (acc++[t])
   |none=>none
end
mutual
theorem qb{at':List az->aR T}:∀(n:Nat) (l:List (List az)) (t:T) (r:List (List az)),rd at' n l=some (t,r)->r<:+l/\r.length<l.length
 |0,_,_,_,h=>by simp[rd]at h
 |_+1,[],_,_,h=>by simp[rd]at h
 |n+1,w::l,t,r,h=>by
  simp only[rd]at h;split at h
  ·obtain⟨I,aa⟩:=Ja n l [] t r h;exact⟨I.trans (List.suffix_cons _ _),by simp;omega⟩
  ·split at h
   ·cases h
   ·cases b1:at' w with
    |none=>rw[b1]at h;cases h
    |some x=>rw[b1]at h;cases h;exact⟨List.suffix_cons _ _,Ψ⟩
theorem Ja{at':List az->aR T}:∀(n:Nat) (l:List (List az)) (acc:List T) (t:T) (r:List (List az)),bP at' n l acc=some (t,r)->r<:+l/\r.length<l.length
 |0,_,_,_,_,h=>by simp[bP]at h
 |_+1,[],_,_,_,h=>by simp[bP]at h
 |n+1,w::l,acc,t,r,h=>by
  simp only[bP]at h;split at h
  ·cases h;exact⟨List.suffix_cons _ _,Ψ⟩
  ·split at h
   ·split at h
    ·cases h
    ·split at h
     ·rename_i x v cr hr;split at h
      ·cases h;obtain⟨I,aa⟩:=qb n l x (v::r) hr;simp at aa;exact⟨((List.suffix_cons _ _).trans I).trans (List.suffix_cons _ _),by simp;omega⟩
      ·cases h
     ·cases h
   ·split at h
    ·rename_i x cr hr;obtain⟨I,aa⟩:=qb n (w::l) x cr hr;obtain⟨ak,aJ⟩:=Ja n cr _ t r h;exact⟨ak.trans I,Ω⟩
    ·cases h
end
theorem Nk{α:Type}{l r:List α}(h:r<:+l):l.drop (l.length-r.length)=r:=by obtain⟨p,rfl⟩:=h;simp
def Hb:List az->Prop
 |[]=>True
 |c::_=>lM c=true
theorem Dt(c:az):h5 c=true↔ ¬(c=32\/c=10)/\¬c=59/\¬(c=40\/c=41):=by unfold h5 lM;simp;grind
theorem J0{s:List az}(h:gU s=true):∃c r,s=c::r/\low c=true/\(∀x∈r,j5 x=true)/\r.length<=11:=by
 unfold gU at h;simp only[bD,fQ,kd]at h;cases s with
 |nil=>simp at h
 |cons c r=>exact⟨c,r,rfl,by simpa using h.1.2,by simpa using h.2,by have:=h.1.1.2;simp at this;omega⟩
inductive Gm where
 |mk (kind:Int) (name:List az) (ts:List aZ) (gs:List Gm)
 deriving Inhabited
def Gm.kind:Gm->Int| .mk k _ _ _=>k
def Gm.name:Gm->List az| .mk _ s _ _=>s
def Gm.ts:Gm->List aZ| .mk _ _ t _=>t
def Gm.gs:Gm->List Gm| .mk _ _ _ g=>g
mutual
def nb:Gm->ab
 | .mk k s t g=>.agg [.int .i64 k,.str s,.slice 4 .no (t.map enc),.slice 4 .no (ko g)]
def ko:List Gm->List ab
 |[]=>[]
 |x::xs=>nb x::ko xs
end
def Gm.e(g:Gm):ab:=nb g
theorem zo:∀l,ko l=l.map Gm.e
 |[]=>rfl
 |x::xs=>by simp[ko,zo xs,Gm.e]
theorem Gm.e_eq(g:Gm):g.e= .agg [.int .i64 g.kind,.str g.name,.slice 4 .no (g.ts.map enc),.slice 4 .no (g.gs.map Gm.e)]:=by cases g;simp[Gm.e,nb,zo,Gm.kind,Gm.name,Gm.ts,Gm.gs]
mutual
theorem Ju(S:aq->Prop):∀g:Gm,kin S (nb g)
 | .mk k s t g=>by simp[nb,kin,kinL,DH S g]
theorem DH(S:aq->Prop):∀l:List Gm,kinL S (ko l)
 |[]=>by simp[ko,kinL]
 |x::xs=>by simp[ko,kinL,Ju S x,DH S xs]
end
mutual
theorem Le:∀g:Gm,bC (nb g)=nb g
 | .mk k s t g=>by simp[nb,bC,bF,EX g]
theorem EX:∀l:List Gm,bF (ko l)=ko l
 |[]=>by simp[ko,bF]
 |x::xs=>by simp[ko,bF,Le x,EX xs]
end
@[simp]theorem Xo(S:aq->Prop)(g:Gm):kin S g.e=True:=eq_true (Ju S g)
@[simp]theorem Xl(S:aq->Prop)(l:List Gm):kinL S (l.map Gm.e)=True:=by rw[<-zo];exact eq_true (DH S l)
@[simp]theorem YD(g:Gm):bC g.e=g.e:=Le g
@[simp]theorem YA(l:List Gm):bF (l.map Gm.e)=l.map Gm.e:=by rw[<-zo];exact EX l
@[simp]theorem Yn(g:Gm):dK g.e=true:=by rw[Gm.e_eq];rfl
@[simp]theorem VW(g:Gm):cells g.e=[.int .i64 g.kind,.str g.name,.slice 4 .no (g.ts.map enc),.slice 4 .no (g.gs.map Gm.e)]:=by rw[Gm.e_eq];rfl
@[simp]theorem nS(g:Gm):ab.agg [.int .i64 g.kind,.str g.name,.slice 4 .no (g.ts.map enc),.slice 4 .no (g.gs.map Gm.e)]=g.e:=(Gm.e_eq g).symm
@[simp]theorem Wq(off:Nat)(ep:Bool)(sz:Nat)(g:Gm):mn off ep sz (.eptr g.e)=if ep then some (off+sz<=4,.eptr (.agg (([.int .i64 g.kind,.str g.name,.slice 4 .no (g.ts.map enc),.slice 4 .no (g.gs.map Gm.e)].drop off).take sz)))else(([.int .i64 g.kind,.str g.name,.slice 4 .no (g.ts.map enc),.slice 4 .no (g.gs.map Gm.e)]:List ab)[off]?).map fun p=>(dK p=true/\cells p=[p],.eptr p):=by rw[Gm.e_eq];rfl
@[simp]theorem Xc(g:Gm):Pv.isAgg 4 g.e:=by rw[Gm.e_eq];exact⟨_,rfl,rfl⟩
def gX:List az:=[116,114,117,101]
def hG:List az:=[102,97,105,108]
def wz:List az:=[61]
def wy:List az:=[47,61]
def rC:List az:=[115,121,109,98,111,108]
def rA:List az:=[110,117,109,98,101,114]
def rv:List az:=[97,98,115,101,110,116]
def ry:List az:=[97,110,100]
def rB:List az:=[111,114]
def rz:List az:=[110,111,116]
def Fq:List az:=[100,101,102,105,110,101]
def iu:List (List az):=[gX,hG,rC,rA,rv,ry,rB,rz,Fq]
def h6(s:List az):Bool:= !iu.contains s&&gU s
def kB(k:Int):Int:=if k=2 then 2 else if k=3 then 2 else if k=4 then 1 else if k=5 then 1 else if k=6 then 2 else 0
mutual
def Gm.sz:Gm->Nat
 | .mk _ _ _ g=>1+mo g
def mo:List Gm->Nat
 |[]=>0
 |x::xs=>x.sz+mo xs
end
theorem H7{x:Gm}:∀{l:List Gm},x∈l->x.sz<=mo l
 |[],h=>by simp at h
 |y::l,h=>by
  simp only[mo];rcases gZ.1 h with rfl|h
  ·omega
  ·have:=H7 h;omega
theorem Gm.gs_lt{g x:Gm}(h:x∈g.gs):x.sz<g.sz:=by
 cases g with
 |mk k s t gs=>have:=H7 (l:=gs) h;simp only[Gm.sz];omega
theorem Gm.sz_pos(g:Gm):1<=g.sz:=by cases g;simp[Gm.sz]
mutual
def Gm.shape:Gm->Bool
 | .mk k s t g=>t.all aZ.fits&&(
  if 0<=k/\k<=6 then s==[]&&g.isEmpty&&decide ((t.length:Int)=kB k)&&(k !=6||(match t with|x::_=>decide (x.kind=2)|[]=>false))
  else if k=9 then h6 s&&g.isEmpty&&decide (t.length<=4)
  else if k=7\/k=8 then s==[]&&t.isEmpty&&decide (g.length<=8)&&uo g
  else if k=10 then s==[]&&t.isEmpty&&(match g with|[x]=>decide (x.kind=9)|_=>false)&&uo g
  else false)
def uo:List Gm->Bool
 |[]=>true
 |x::xs=>x.shape&&uo xs
end
def Gm.fits(n:Nat)(g:Gm):Bool:=g.shape&&decide (g.sz<=n)
def lW(w:List az):aR Int:=if w=wz then some 2 else if w=wy then some 3 else if w=rC then some 4 else if w=rA then some 5 else if w=rv then some 6 else if w=ry then some 7 else if w=rB then some 8 else if w=rz then some 10 else none
def iY(k:Int):Bool:=k==7||k==8||k==10
mutual
def ek(tr:List (List az)->aR (T×List (List az)))(aG:List az->aR (Int×List az)):Nat->List (List az)->aR (Gm×List (List az))
 |0,_=>none
 |_+1,[]=>none
 |n+1,w::r=>if w=gX then some (.mk 0 [] [] [],r)else if w=hG then some (.mk 1 [] [] [],r)
  else if w=[40]then(match r with
   |[]=>none
   |h::cr=>match aG h with
    |some (k,s)=>dJ tr aG n k s [] [] cr
    |none=>none)
  else none
def dJ(tr:List (List az)->aR (T×List (List az)))(aG:List az->aR (Int×List az)):Nat->Int->List az->List T->List Gm->List (List az)->aR (Gm×List (List az))
 |0,_,_,_,_,_=>none
 |_+1,_,_,_,_,[]=>none
 |n+1,k,s,ts,gs,w::r=>if w=[41]then(if 1<k then some (.mk k s (ts.map T.tm) gs,r)else none)
  else if iY k then(match ek tr aG n (w::r)with
   |some (g,cr)=>dJ tr aG n k s ts (gs++[g]) cr
   |none=>none)
  else match tr (w::r)with
   |some (t,cr)=>dJ tr aG n k s (ts++[t]) gs cr
   |none=>none
end
def Bk(tr:List (List az)->aR (T×List (List az))):Prop:= ∀l t r,tr l=some (t,r)->r<:+l/\r.length<l.length
mutual
theorem vW{tr:List (List az)->aR (T×List (List az))}(au:Bk tr){aG:List az->aR (Int×List az)}:∀(n:Nat) (l:List (List az)) (g:Gm) (r:List (List az)),ek tr aG n l=some (g,r)->r<:+l/\r.length<l.length
 |0,_,_,_,h=>by simp[ek]at h
 |_+1,[],_,_,h=>by simp[ek]at h
 |n+1,w::l,g,r,h=>by
  simp only[ek]at h;split at h
  ·cases h;exact⟨List.suffix_cons _ _,Ψ⟩
  ·split at h
   ·cases h;exact⟨List.suffix_cons _ _,Ψ⟩
   ·split at h
    ·split at h
     ·cases h
     ·split at h
      ·obtain⟨I,aa⟩:=Ep au n _ _ _ _ _ g r h;exact⟨(I.trans (List.suffix_cons _ _)).trans (List.suffix_cons _ _),by simp;omega⟩
      ·cases h
    ·cases h
theorem Ep{tr:List (List az)->aR (T×List (List az))}(au:Bk tr){aG:List az->aR (Int×List az)}:∀(n:Nat) (k:Int) (s:List az) (ts:List T) (gs:List Gm) (l:List (List az)) (g:Gm) (r:List (List az)),dJ tr aG n k s ts gs l=some (g,r)->r<:+l/\r.length<l.length
 |0,_,_,_,_,_,_,_,h=>by simp[dJ]at h
 |_+1,_,_,_,_,[],_,_,h=>by simp[dJ]at h
 |n+1,k,s,ts,gs,w::l,g,r,h=>by
  simp only[dJ]at h;split at h
  ·split at h
   ·cases h;exact⟨List.suffix_cons _ _,Ψ⟩
   ·cases h
  ·split at h
   ·split at h
    ·rename_i x cr hr;obtain⟨I,aa⟩:=vW au n (w::l) x cr hr;obtain⟨ak,aJ⟩:=Ep au n _ _ _ _ _ g r h;exact⟨ak.trans I,Ω⟩
    ·cases h
   ·split at h
    ·rename_i x cr hr;obtain⟨I,aa⟩:=au (w::l) x cr hr;obtain⟨ak,aJ⟩:=Ep au n _ _ _ _ _ g r h;exact⟨ak.trans I,Ω⟩
    ·cases h
end
def gz(w:List az):aR T:=match fR w with
 |some t=>if t.ok then some t else none
 |none=>none
theorem xV:∀(a:List T) (t:T),(gv a t).ok=(a.all T.ok&&t.ok)
 |[],t=>by simp[gv]
 |x::r,t=>by simp[gv,T.ok,xV r t,Bool.and_assoc]
theorem I8:∀(n:Nat) (l:List (List az)) (acc:List T) (t:T) (r:List (List az)),bP fR n l acc=some (t,r)->t.ok=true->acc.all T.ok=true
 |0,_,_,_,_,h,_=>by simp[bP]at h
 |_+1,[],_,_,_,h,_=>by simp[bP]at h
 |n+1,w::l,acc,t,r,h,ag=>by
  simp only[bP]at h;split at h
  ·cases h;rw[xV]at ag;simp only[bD]at ag;exact ag.1
  ·split at h
   ·split at h
    ·cases h
    ·split at h
     ·split at h
      ·cases h;rw[xV]at ag;simp only[bD]at ag;exact ag.1
      ·cases h
     ·cases h
   ·split at h
    ·have:=I8 n _ _ t r h ag;simp only[List.all_append,bD]at this;exact this.1
    ·cases h
def l2:aR (T×List (List az))->aR (T×List (List az))
 |some (t,r)=>if t.ok then some (t,r)else none
 |none=>none
mutual
theorem AT:∀(n:Nat) (l:List (List az)),rd gz n l=l2 (rd fR n l)
 |0,_=>by simp[rd,l2]
 |_+1,[]=>by simp[rd,l2]
 |n+1,w::l=>by
  simp only[rd];split
  ·exact I9 n l [] rfl
  ·split
   ·rfl
   ·unfold gz;cases fR w with
    |none=>rfl
    |some t=>by_cases h:t.ok=true<;>simp[l2,h]
theorem I9:∀(n:Nat) (l:List (List az)) (acc:List T),acc.all T.ok=true->bP gz n l acc=l2 (bP fR n l acc)
 |0,_,_,_=>by simp[bP,l2]
 |_+1,[],_,_=>by simp[bP,l2]
 |n+1,w::l,acc,b1=>by
  simp only[bP];split
  ·simp[l2,xV,b1,T.ok]
  ·split
   ·split
    ·rfl
    ·rw[AT n l];cases hr:rd fR n l with
     |none=>rfl
     |some x=>
      obtain⟨t,r⟩:=x;cases r with
      |nil=>by_cases h:t.ok=true<;>simp[l2,h]
      |cons v cr=>by_cases h:t.ok=true<;>by_cases aY:v=[41]<;>simp[l2,h,aY,xV,b1]
   ·rw[AT n (w::l)];cases hr:rd fR n (w::l)with
    |none=>rfl
    |some x=>
     obtain⟨t,r⟩:=x;by_cases h:t.ok=true
     ·simp only[l2,h,if_true];exact I9 n r _ (by simp[b1,h])
     ·simp only[l2,h,ib,if_false];cases aD:bP fR n r (acc++[t])with
      |none=>rfl
      |some y=>
       obtain⟨u,fy⟩:=y;by_cases hu:u.ok=true
       ·have:=I8 n r _ u fy aD hu;simp at this;exact absurd this.2 h
       ·simp[l2,hu]
end
def en(l:List (List az)):aR (T×List (List az)):=match rd fR (2*l.length+1) l with
 |some (t,r)=>if t.fit then some (t,r)else none
 |none=>none
def hF(l:List (List az)):aR (T×List (List az)):=rd gz (2*l.length+1) l
theorem Pc{t:T}(h:t.fit=true):t.ok=true:=by unfold T.fit at h;simp only[bD]at h;exact h.1
theorem Ud{l:List (List az)}{t:T}{r:List (List az)}(h:en l=some (t,r)):hF l=some (t,r)/\t.fit=true:=by
 unfold en at h;unfold hF;rw[AT];cases hr:rd fR (2*l.length+1) l with
 |none=>rw[hr]at h;cases h
 |some x=>
  obtain⟨u,cr⟩:=x;rw[hr]at h;simp only at h;split at h
  ·rename_i aH;cases h;simp[l2,Pc aH,aH]
  ·cases h
theorem Ue{l:List (List az)}{t:T}{r:List (List az)}(h:hF l=some (t,r))(aH:t.fit=true):en l=some (t,r):=by
 unfold hF at h;unfold en;rw[AT]at h;cases hr:rd fR (2*l.length+1) l with
 |none=>rw[hr]at h;cases h
 |some x=>
  obtain⟨u,cr⟩:=x;rw[hr]at h;simp only[l2]at h;split at h
  ·cases h;simp[aH]
  ·cases h
theorem E7:Bk en:=fun l t r h=>by
 unfold en at h;split at h
 ·rename_i x y hr;split at h
  ·cases h;exact qb _ _ _ _ hr
  ·cases h
 ·cases h
theorem yB:Bk hF:=fun l t r h=>qb _ _ _ _ h
def ey(h:List az):aR (Int×List az):=match lW h with
 |some k=>some (k,[])
 |none=>if h6 h then some (9,h)else none
def hdS(h:List az):aR (Int×List az):=if h=gX then some (0,[])else if h=hG then some (1,[])else match lW h with
 |some k=>some (k,[])
 |none=>some (9,h)
theorem P9{h:List az}{x:Int×List az}(e:ey h=some x):hdS h=some x:=by
 unfold ey at e;unfold hdS;have I:h≠gX:=by rintro rfl;revert e;simp[lW,gX,wz,wy,rC,rA,rv,ry,rB,rz,h6,iu]
 have aa:h≠hG:=by rintro rfl;revert e;simp[lW,hG,wz,wy,rC,rA,rv,ry,rB,rz,h6,iu,gX]
 rw[bh I,bh aa];cases J:lW h with
 |some k=>rw[J]at e;exact e
 |none=>
  rw[J]at e;simp only at e⊢;split at e
  ·exact e
  ·cases e
mutual
theorem KE:∀(n:Nat) (l:List (List az)) (g:Gm) (r:List (List az)),ek en ey n l=some (g,r)->ek hF hdS n l=some (g,r)
 |0,_,_,_,h=>by simp[ek]at h
 |_+1,[],_,_,h=>by simp[ek]at h
 |n+1,w::l,g,r,h=>by
  simp only[ek]at h⊢;split at h
  ·rename_i e;rw[if_pos e];exact h
  ·rename_i ai;rw[bh ai];split at h
   ·rename_i e;rw[if_pos e];exact h
   ·rename_i aE;rw[bh aE];split at h
    ·rename_i bb;rw[if_pos bb];cases l with
     |nil=>exact h
     |cons v l=>
      simp only at h⊢;cases bn:ey v with
      |none=>rw[bn]at h;cases h
      |some x=>obtain⟨k,s⟩:=x;rw[bn]at h;rw[P9 bn];exact En n k s [] [] l g r h
    ·cases h
theorem En:∀(n:Nat) (k:Int) (s:List az) (ts:List T) (gs:List Gm) (l:List (List az)) (g:Gm) (r:List (List az)),dJ en ey n k s ts gs l=some (g,r)->dJ hF hdS n k s ts gs l=some (g,r)
 |0,_,_,_,_,_,_,_,h=>by simp[dJ]at h
 |_+1,_,_,_,_,[],_,_,h=>by simp[dJ]at h
 |n+1,k,s,ts,gs,w::l,g,r,h=>by
  simp only[dJ]at h⊢;split at h
  ·rename_i e;rw[if_pos e];exact h
  ·rename_i e;rw[bh e];split at h
   ·rename_i aU;rw[if_pos aU];cases hr:ek en ey n (w::l)with
    |none=>rw[hr]at h;cases h
    |some x=>obtain⟨dF,cr⟩:=x;rw[hr]at h;rw[KE n _ _ _ hr];exact En n k s ts _ cr g r h
   ·rename_i aU;rw[bh aU];cases hr:en (w::l)with
    |none=>rw[hr]at h;cases h
    |some x=>obtain⟨t',cr⟩:=x;rw[hr]at h;rw[(Ud hr).1];exact En n k s _ gs cr g r h
end
theorem yd{tr:List (List az)->aR (T×List (List az))}{aG:List az->aR (Int×List az)}:∀(n:Nat) (k:Int) (s:List az) (ts:List T) (gs:List Gm) (l:List (List az)) (g:Gm) (r:List (List az)),dJ tr aG n k s ts gs l=some (g,r)->
  g.kind=k/\1<k/\g.name=s/\(∀t∈ts,t.tm∈g.ts)/\∀x∈gs,x∈g.gs
 |0,_,_,_,_,_,_,_,h=>by simp[dJ]at h
 |_+1,_,_,_,_,[],_,_,h=>by simp[dJ]at h
 |n+1,k,s,ts,gs,w::l,g,r,h=>by
  simp only[dJ]at h;split at h
  ·split at h
   ·rename_i J;cases h;exact⟨rfl,J,rfl,fun t au=>List.mem_map_of_mem au,fun x ad=>ad⟩
   ·cases h
  ·split at h
   ·split at h
    ·obtain⟨I,aa,ak,aJ,ba⟩:=yd n k s ts _ _ g r h;exact⟨I,aa,ak,aJ,fun x ad=>ba x (by simp[ad])⟩
    ·cases h
   ·split at h
    ·obtain⟨I,aa,ak,aJ,ba⟩:=yd n k s _ gs _ g r h;exact⟨I,aa,ak,fun t au=>aJ t (by simp[au]),ba⟩
    ·cases h
theorem ER:∀{l:List Gm},uo l=true->∀x∈l,x.shape=true
 |[],_,x,h=>by simp at h
 |y::l,h,x,ad=>by
  simp only[uo,bD]at h;rcases gZ.1 ad with rfl|ad
  ·exact h.1
  ·exact ER h.2 x ad
theorem ES{g:Gm}(h:g.shape=true):∀t∈g.ts,t.fits=true:=by
 cases g with
 |mk k s ts gs=>simp only[Gm.shape,bD,kd]at h;exact h.1
theorem shape_gs{g:Gm}(h:g.shape=true)(J:iY g.kind=true):∀x∈g.gs,x.shape=true:=by
 cases g with
 |mk k s ts gs=>
  have J:(k=7\/k=8)\/k=10:=by simpa[iY,Gm.kind]using J
  simp only[Gm.shape,bD]at h;have aa:=h.2;rw[bh Ω,bh Ω]at aa;split at aa
  ·simp only[bD]at aa;exact ER aa.2
  ·rw[if_pos Ω]at aa;simp only[bD]at aa;exact ER aa.2
theorem K8{g:Gm}(h:g.shape=true)(J:g.kind=9):h6 g.name=true:=by
 cases g with
 |mk k s ts gs=>simp only[Gm.kind]at J;subst J;simp only[Gm.shape,bD]at h;have aa:=h.2;simp at aa;exact aa.1.1
mutual
theorem KF:∀(n:Nat) (l:List (List az)) (g:Gm) (r:List (List az)),ek hF hdS n l=some (g,r)->g.shape=true->ek en ey n l=some (g,r)
 |0,_,_,_,h,_=>by simp[ek]at h
 |_+1,[],_,_,h,_=>by simp[ek]at h
 |n+1,w::l,g,r,h,aL=>by
  simp only[ek]at h⊢;split at h
  ·rename_i e;rw[if_pos e];exact h
  ·rename_i ai;rw[bh ai];split at h
   ·rename_i e;rw[if_pos e];exact h
   ·rename_i aE;rw[bh aE];split at h
    ·rename_i bb;rw[if_pos bb];cases l with
     |nil=>exact h
     |cons v l=>
      simp only at h⊢;cases bn:hdS v with
      |none=>rw[bn]at h;cases h
      |some x=>
       obtain⟨k,s⟩:=x;rw[bn]at h;simp only at h;obtain⟨m1,m2,m3,_⟩:=yd n k s [] [] l g r h;have aD:ey v=some (k,s):=by
        unfold hdS at bn;unfold ey;split at bn
        ·cases bn;omega
        ·split at bn
         ·cases bn;omega
         ·cases J:lW v with
          |some aW=>rw[J]at bn;exact bn
          |none=>rw[J]at bn;cases bn;have:=K8 aL m1;rw[m3]at this;simp[this]
       rw[aD];exact Eo n k s [] [] l g r h aL
    ·cases h
theorem Eo:∀(n:Nat) (k:Int) (s:List az) (ts:List T) (gs:List Gm) (l:List (List az)) (g:Gm) (r:List (List az)),dJ hF hdS n k s ts gs l=some (g,r)->g.shape=true->dJ en ey n k s ts gs l=some (g,r)
 |0,_,_,_,_,_,_,_,h,_=>by simp[dJ]at h
 |_+1,_,_,_,_,[],_,_,h,_=>by simp[dJ]at h
 |n+1,k,s,ts,gs,w::l,g,r,h,aL=>by
  simp only[dJ]at h⊢;split at h
  ·rename_i e;rw[if_pos e];exact h
  ·rename_i e;rw[bh e];split at h
   ·rename_i aU;rw[if_pos aU];cases hr:ek hF hdS n (w::l)with
    |none=>rw[hr]at h;cases h
    |some x=>obtain⟨dF,cr⟩:=x;rw[hr]at h;simp only at h;obtain⟨m1,_,_,_,m5⟩:=yd n k s ts _ cr g r h;rw[KF n _ _ _ hr (shape_gs aL (by rw[m1];exact aU) dF (m5 dF Ψ))];exact Eo n k s ts _ cr g r h aL
   ·rename_i aU;rw[bh aU];cases hr:hF (w::l)with
    |none=>rw[hr]at h;cases h
    |some x=>obtain⟨t',cr⟩:=x;rw[hr]at h;simp only at h;obtain⟨_,_,_,m4,_⟩:=yd n k s _ gs cr g r h;have aH:=ES aL _ (m4 t' Ψ);rw[aZ.fits_T]at aH;rw[Ue hr aH];exact Eo n k s _ gs cr g r h aL
end
def nv(s:List az):aR Gm:=match ho s with
 |none=>none
 |some l=>match ek en ey (2*l.length+1) l with
  |some (g,[])=>if g.fits 80 then some g else none
  |_=>none
theorem SV(s:List az):nv s=match ho s with
  |none=>none
  |some l=>match ek hF hdS (2*l.length+1) l with
   |some (g,[])=>if g.fits 80 then some g else none
   |_=>none:=by
 unfold nv;cases ho s with
 |none=>rfl
 |some l=>
  simp only;cases aD:ek en ey (2*l.length+1) l with
  |some x=>obtain⟨g,r⟩:=x;rw[KE _ _ _ _ aD]
  |none=>
   simp only;cases ao:ek hF hdS (2*l.length+1) l with
   |none=>rfl
   |some x=>
    obtain⟨g,r⟩:=x;cases r with
    |cons _ _=>rfl
    |nil=>
     simp only;split
     ·rename_i aH;unfold Gm.fits at aH;simp only[bD]at aH;rw[KF _ _ _ _ ao aH.1]at aD;cases aD
     ·rfl
def UQ(s:List az):Bool:=gU s||(match gQ s with|some n=>decide (0<=n/\n<=100000)|none=>false)
def num:List (List az)->List (List az)->aR (List (List az)×List (List az))
 |ns,[]=>some ([],ns)
 |ns,w::r=>match w with
  |63::s=>if UQ s then(num (if w∈ns then ns else ns++[w]) r).map fun x=>((63::itoa (ns.idxOf w))::x.1,x.2)else none
  |_=>(num ns r).map fun x=>(w::x.1,x.2)
structure oJ where
 name:List az
 ar:Int
 loc:Int
 body:Gm
 deriving Inhabited
mutual
def aZ.vs:aZ->List Int
 | .mk k n _ a=>if k=1 then [n]else aZ.vsL a
def aZ.vsL:List aZ->List Int
 |[]=>[]
 |x::xs=>x.vs++aZ.vsL xs
end
mutual
def Gm.vs:Gm->List Int
 | .mk _ _ t g=>aZ.vsL t++Gm.vsL g
def Gm.vsL:List Gm->List Int
 |[]=>[]
 |x::xs=>x.vs++Gm.vsL xs
end
mutual
def Gm.cf(P:List oJ):Gm->Bool
 | .mk k s t g=>if k=9 then(match P.find? fun r=>r.name==s with|some r=>r.ar==(t.length:Int)|none=>false)else Gm.cfL P g
def Gm.cfL(P:List oJ):List Gm->Bool
 |[]=>true
 |x::xs=>x.cf P&&Gm.cfL P xs
end
def oJ.ok(P:List oJ)(x:oJ):Bool:=h6 x.name&&decide (0<=x.ar/\x.ar<=4)&&decide (0<=x.loc/\x.loc<=8)&&x.body.fits 60&&(x.body.vs.all fun v=>decide (v<x.ar+x.loc))&&x.body.cf P
structure Ix where
 op:Int
 a:Int
 b:Int
 g:Gm
structure Ey where
 name:List az
 pos:Int
 ar:Int
 vars:Int
structure Cd where
 is:List Ix
 es:List Ey
def Sj(g:Gm):Bool:=g.kind==0&&g.name==[]&&g.ts.isEmpty&&g.gs.isEmpty
def Hc(es:List Ey)(s:List az):Int:=match es.findIdx? fun e=>e.name==s with
 |some i=>i
 |none=> -1
def Cd.fin(c:Cd)(i:Nat):Int:=match c.es[i+1]? with
 |some e=>e.pos
 |none=>c.is.length
def UP(g:Gm)(n:Int):Prop:= ∀v∈g.vs,v<n
def Nv(es:List Ey)(s:List az):Int:=Hc (es.take (es.length-1)) s
def PB(c:Cd)(x:Ix)(vars:Int):Prop:=
 (x.op≠0->x.op≠5->Sj x.g=true)/\(x.op=0\/x.op=5->x.g.fits 80=true/\UP x.g vars/\(x.op=0->2<=x.g.kind/\x.g.kind<=6)/\
  (x.op=5->x.g.kind=9/\∃k f,Nv c.es x.g.name=(k:Nat)/\c.es[k]? =some f/\(x.g.ts.length:Int)=f.ar))
def Ry(c:Cd)(e:Ey)(uO:Int)(at':Int)(x:Ix):Prop:=
 (0<=x.op/\x.op<=6)/\(x.op=6↔at'=uO-1)/\PB c x e.vars/\(x.op=1\/x.op=3->at'+1<=x.a/\x.a<=uO-1)/\(¬(x.op=1\/x.op=3)->x.a=0)/\
 (x.op=1\/x.op=2->0<=x.b/\x.b<=7)/\(¬(x.op=1\/x.op=2)->x.b=0)/\(x.op=1->∃y,c.is[x.a.toNat]? =some y/\(y.op=1\/y.op=2)/\y.b=x.b+1)
def Bu(c:Cd)(e:Ey)(uO:Int):Prop:= ∀(k:Nat) x,e.pos<=k->(k:Int)<uO->c.is[k]? =some x->Ry c e uO k x
def P7(e:Ey):List az:=e.name++([47]++(itoa e.ar++[58,10]))
def zP(es:List Ey)(k:Nat):List az:=((es.filter fun e=>e.pos==(k:Int)).map P7).flatten
end
end Go.Pv
namespace Go.Proofs.YtlnndmgfngfeiaaDoor
section
open Go Go.Pv
def mB{α:Type}(p:α->Bool)(s:List α)(i:Nat)(_:Unit):Prop:= ∀k b,k<i->s[k]? =some b->p b=true
theorem mB.step{α:Type}{p:α->Bool}{s:List α}{i:Nat}(h:mB p s i ()){b:α}(af:s[i]? =some b)(aV:p b=true):mB p s (i+1) ():=fun k c J aA=>by
 rcases Nat.lt_or_ge k i with cD|cD
 ·exact h k c cD aA
 ·obtain rfl:k=i:=Ω
  rw[af]at aA;cases aA;exact aV
theorem mB.fin{α:Type}{p:α->Bool}{s:List α}(h:mB p s s.length ()):s.all p=true:=by rw[kd];intro b af;obtain⟨i,aD⟩:=List.mem_iff_getElem?.1 af;exact h i b (gp.1 aD).1 aD
theorem uE{α:Type}{p:α->Bool}{s:List α}{i:Nat}{b:α}(af:s[i]? =some b)(aV:p b=false):s.all p=false:=by rw[List.all_eq_false];exact⟨b,gL af,by rw[aV];simp⟩
theorem qm(l:List aZ):ca aP 49 [.slice 4 .no (l.map enc)] (.bool (l.all aZ.fits)):=by
 generalize bI:l.all aZ.fits=R;refine bZ sY ON Sv fun aT=>?_;unfold Gi;have hf:l.length<=68719476736:=by simp[je,jE,jf,b0]at aT;omega
 simp;refine iy (fun i (_:Unit)=>⟨[(5,.slice 4 .no (l.map enc)),(6,.int .i64 l.length),(7,.int .i64 i)],[],[],0,[]⟩) l.length (mB aZ.fits l) () dQ (fun k b J=>Ω) (fun _ av _=>?_) (fun i _ aD av _=>?_)
 ·have:R=true:=by rw[<-bI];exact av.fin
  subst this;clear av bI;exact cH
 ·obtain⟨t,au,Q9⟩:=h0 aD;have b8:=LJ t;cases g:t.fits
  ·rw[g]at b8;have:R=false:=by rw[<-bI];exact uE au g
   subst this;clear au av bI;exact cH
  ·rw[g]at b8;have aU:=av.step au g;clear au av bI;exact vR
theorem LH(s:List az):ca aP 31 [.str s] (.bool (h6 s)):=by
 have iZ:=Fi s;by_cases h:iu.contains s=true
 ·have:h6 s=false:=by unfold h6;rw[h];rfl
  rw[this];have hm:s∈iu:=by simpa using h
  simp only[iu,gZ,List.not_mem_nil,or_false]at hm;rcases hm with rfl|rfl|rfl|rfl|rfl|rfl|rfl|rfl|rfl;all_goals
   refine bZ mL Hj J4 fun aT=>?_;unfold BG
   clear aT iZ
   simp[gX,hG,rC,rA,rv,ry,rB,rz,Fq]
   exact cH
 ·have:h6 s=gU s:=by unfold h6;rw[Bool.not_eq_true]at h;rw[h];rfl
  rw[this];have hm:∀w∈iu,(s==w)=false:=fun w hw=>by rw[beq_eq_false_iff_ne];rintro rfl;exact h (by simpa using hw)
  simp only[iu,gZ,List.not_mem_nil,or_false,forall_eq_or_imp,forall_eq]at hm;obtain⟨I,aa,ak,aJ,ba,cq,dR,hK,gC⟩:=hm;simp only[gX,hG,rC,rA,rv,ry,rB,rz,Fq]at I aa ak aJ ba cq dR hK gC;refine bZ mL Hj J4 fun aT=>?_;unfold BG;clear aT;exact cH
theorem Ad{α:Type}(l:List α):((l.length:Int)==0)=l.isEmpty:=by
 cases l with
 |nil=>rfl
 |cons a l=>simp;omega
def ja(g:Gm)(room:Int):Int:=if g.shape=true/\(g.sz:Int)<=room then g.sz else-1
theorem ua{g:Gm}{room:Int}(h:g.shape=true)(aa:(g.sz:Int)<=room):ja g room=g.sz:=if_pos ⟨h,aa⟩
theorem sE{g:Gm}{room:Int}(h:g.shape=false):ja g room= -1:=bh fun aa=>by rw[h]at aa;cases aa.1
theorem Sb{g:Gm}{room:Int}(h:room<g.sz):ja g room= -1:=bh fun aa=>Ω
theorem nB(g:Gm):g.shape=(g.ts.all aZ.fits&&(
  if 0<=g.kind/\g.kind<=6 then g.name==[]&&g.gs.isEmpty&&decide ((g.ts.length:Int)=kB g.kind)&&(g.kind !=6||(match g.ts with|x::_=>decide (x.kind=2)|[]=>false))
  else if g.kind=9 then h6 g.name&&g.gs.isEmpty&&decide (g.ts.length<=4)
  else if g.kind=7\/g.kind=8 then g.name==[]&&g.ts.isEmpty&&decide (g.gs.length<=8)&&g.gs.all Gm.shape
  else if g.kind=10 then g.name==[]&&g.ts.isEmpty&&(match g.gs with|[x]=>decide (x.kind=9)|_=>false)&&g.gs.all Gm.shape
  else false)):=by
 have h2:∀l:List Gm,uo l=l.all Gm.shape:=by
  intro l;induction l with
  |nil=>rfl
  |cons x l a8=>simp[uo,a8]
 cases g;simp only[Gm.shape,Gm.kind,Gm.name,Gm.ts,Gm.gs,h2];rfl
theorem qh(g:Gm):g.sz=1+(g.gs.map Gm.sz).sum:=by
 have h2:∀l:List Gm,mo l=(l.map Gm.sz).sum:=by
  intro l;induction l with
  |nil=>rfl
  |cons x l a8=>simp[mo,a8]
 cases g;simp only[Gm.sz,Gm.gs,h2]
abbrev E2:List (Int×ab):=s8 6 (.int .i64 2) (s8 5 (.int .i64 1) (s8 4 (.int .i64 1) (s8 3 (.int .i64 2) (s8 2 (.int .i64 2) []))))
theorem pn(f:aq->aR (List ab))(m:aq)(k:Int)(hm:f m=some (mF E2)):nr f .i (.int .i64 0) false (.gmap m) (.int .i64 k)=some (True,.int .i64 (kB k)):=by
 rw[oh _ _ _ _ false k hm];by_cases aa:k=2
 ·subst aa;rfl
 by_cases ak:k=3
 ·subst ak;rfl
 by_cases aJ:k=4
 ·subst aJ;rfl
 by_cases ba:k=5
 ·subst ba;rfl
 by_cases cq:k=6
 ·subst cq;rfl
 have:s7 k E2=none:=by have e:E2=[(2,.int .i64 2),(3,.int .i64 2),(4,.int .i64 1),(5,.int .i64 1),(6,.int .i64 2)]:=rfl;rw[e];simp[s7,aa,ak,aJ,ba,cq]
 rw[this];simp[kB,aa,ak,aJ,ba,cq]
theorem RE(k:Int):k=0\/k=1\/k=2\/k=3\/k=4\/k=5\/k=6\/k=7\/k=8\/k=9\/k=10\/(k<0\/10<k):=Ω
theorem Lx{α:Type}{l:List α}(h:l.length=2):∃x y,l=[x,y]:=by
 match l,h with
 |[x,y],_=>exact⟨x,y,rfl⟩
theorem PF(g:Gm){room:Int}(h:room<1):ca aP 34 [g.e,.int .i64 room] (.int .i64 (-1)):=by refine bZ mL oS pt fun aT=>?_;unfold nV;clear aT;exact cH
theorem PK(g:Gm){room:Int}(h:¬room<1)(au:g.ts.all aZ.fits=false):ca aP 34 [g.e,.int .i64 room] (.int .i64 (-1)):=by have b8:=qm g.ts;rw[au]at b8;refine bZ mL oS pt fun aT=>?_;unfold nV;clear aT;exact cH
theorem PD(g:Gm){room:Int}(h:¬room<1)(au:g.ts.all aZ.fits=true)(J:0<=g.kind/\g.kind<=6):ca aP 34 [g.e,.int .i64 room] (.int .i64 (if g.shape then 1 else-1)):=by
 have b8:=qm g.ts;rw[au]at b8;generalize bI:(if g.shape then(1:Int)else-1)=R;rw[nB,au,if_pos J,Bool.true_and]at bI;have mw:g.kind=0\/g.kind=1\/g.kind=2\/g.kind=3\/g.kind=4\/g.kind=5\/g.kind=6:=Ω
 have af:∀l:List Gm,((l.length:Int) !=0)= !l.isEmpty:=fun l=>by simp only[bne,Ad]
 clear J au;rcases mw with J|J|J|J|J|J|J;all_goals
  rw[J]at bI
  simp[kB]at bI
  refine bZ mL oS pt fun aT=>?_;unfold nV
  clear aT
  simp
  simp[J]
  ((with_reducible repeat' first|refine aK ?_|refine bq b8 ?_|refine br b8 ?_|simp[h,J,pn,kB,af,-oh]|((first|apply dY|apply ed|apply ec)<;>intro h<;>try simp at h))<;>(try exact eM))
  all_goals try(simp[cC,qa,bd,bo,a6];simp_all;done)
  all_goals
   obtain⟨x,y,e⟩:∃x y,g.ts=[x,y]:=Lx Ω
   simp only[e]at bI⊢
   simp
   ((with_reducible repeat' first|refine aK ?_|simp|((first|apply dY|apply ed|apply ec)<;>intro h<;>try simp at h))<;>(try exact eM))
   all_goals(simp[cC,qa,bd,bo,a6];simp_all;done)
end
end Go.Proofs.YtlnndmgfngfeiaaDoor
