/- Contracts: instances. -/
import Derived.Test.YtlnndmgfngfeiaaGreatDoorProg
import Derived.Lib.ItoaNum
import Derived.Lib.AtoiAll
import Derived.Test.YtlnndmgfngfeiaaGreatDoorZf4
set_option linter.all false
set_option maxHeartbeats 4000000
set_option maxRecDepth 4000
open Bool renaming and_eq_true->bA,false_eq_true->ia,not_eq_true'->oO
open Decidable renaming not_not->aat
open Go renaming Program->bp
open Go.IntKind renaming i64->jY
open Go.IntWalk renaming i64_in->ll
open Go.Proofs.Tryz renaming f5->ic,prog->aS
open List renaming all_eq_true->kj,cons_append->eI,drop_eq_getElem_cons->pR,getElem?_eq_getElem->eh,getElem?_eq_some_iff->fG,length_cons->lN,map_cons->gZ,mem_append->ha,mem_append_right->iz,mem_cons->gp,mem_map->lO,mem_of_getElem?->gB,nodup_append->nU,take_add_one->lq,take_length->kQ
open List.Pairwise renaming map->WE
open Nat renaming le_refl->cE
open Option renaming isSome_iff_exists->ei
open Option.some renaming inj->iN
open UInt8 renaming ofNat->lP
open _root_ renaming False->cw,Option->aV,UInt8->aC,decide_eq_true_eq->fH,if_neg->be
namespace Go.Pv
section
open Go Go.RowKit
def r5(N:List (aq×Nat))(l:List (Nat×ab)):List (Nat×ab):=l.map fun x=>(x.1,hR N x.2)
def qO(N:List (aq×Nat))(l:List (aq×List ab)):List (aq×List ab):=l.map fun x=>(x.1,lV N x.2)
def Bm:List (aq×List ab)->Prop
 |[]=>True
 |(_,cs)::r=>fm cs=true/\Bm r
theorem EZ:∀{l:List (aq×List ab)} {k:aq} {cs:List ab},Bm l->look k l=some cs->fm cs=true
 |[],_,_,_,h=>by simp[look]at h
 |(j,p)::r,k,cs,h,J=>by
  simp only[look]at J;split at J
  ·cases J;exact h.1
  ·exact EZ h.2 J
def oG(st:aN)(s:Nat):ab:=match get s st.t with
 | .ptr k 0=>(match look k st.b with|some cs=>.agg cs|none=>.junk)
 |p=>p
def y5(base n:Nat):List aq:=(List.range' base n).map .obj
def qA(st:aN)(p:ab)(base:Nat)(ε:Nat->Nat):aN:=⟨r5 (tn p) st.t,qO (tn p) st.b,cR ε base (bC p),st.n,y5 base (bZ (bC p))++st.o⟩
def qB(st:aN)(s base:Nat)(ε:Nat->Nat):aN:=match get s st.t with
 | .ptr k 0=>(match look k st.b with|some cs=>{qA st (.agg cs) base ε with b:=ck k (gE base (bz cs)) (qO (tn (.agg cs)) st.b)}|none=>qA st .junk base ε)
 |p=>{qA st p base ε with t:=put s (eP base (bC p)) (r5 (tn p) st.t)}
def y4(st:aN)(p:ab)(base:Nat):Prop:=dk p/\(tn p).Nodup/\(∀m,.obj m∈st.o->m<base)/\Bm st.b
theorem Ky{base n:Nat}{k:aq}:k∈y5 base n↔∃m,k= .obj m/\base<=m/\m<base+n:=by simp only[y5,lO,List.mem_range'_1];exact⟨fun⟨m,h,e⟩=>⟨m,e.symm,h⟩,fun⟨m,e,h⟩=>⟨m,h,e.symm⟩⟩
theorem Nf(N:List (aq×Nat))(p:ab):(match hR N p with| .hdm _ _=>false| .hdi _ _ _=>false|_=>true)=true:=by
 cases p with
 |slice sz tag xs=>
  cases tag with
  |tr k j=>by_cases e:(k,j)∈N<;>simp[hR,e]
  |lo k=>by_cases e:(k,0)∈N<;>simp[hR,e]
  |_=>cases xs<;>rfl
 |_=>rfl
theorem Uu(N:List (aq×Nat)):∀cs,fm (lV N cs)=true
 |[]=>rfl
 |c::cs=>by have:=Nf N c;simp only[lV];cases h:hR N c<;>simp_all[fm]
theorem UY{C:dh}{st:aN}{a:Act}{w:World}{ν:aD}(h:bH C st a w ν){k:aq}{cs cs':List ab}(J:look k st.b=some cs)(aY:fm cs=true)
  (hr:∀bl us el,ν.bx k=some bl->w.heap[bl]? =some (.cells us el)->bV w ν cs us.toList->bV w ν cs' us.toList):bH C {st with b:=ck k cs' st.b} a w ν:=by
 have ao:∀j,(look j (ck k cs' st.b)).isSome->(look j st.b).isSome:=fun j av=>by
  rw[hJ]at av;split at av
  ·rename_i e;subst e;simp[J]
  ·exact av
 refine⟨⟨h.good.alt,fun j cn av=>?_,fun j dj bl I aa=>h.good.inj j dj bl (ao j I) (ao dj aa),h.good.own,h.good.oinj,fun g j n v bl I aa=>h.good.obx g j n v bl I (ao j aa),h.good.one,fun bl au=>h.good.otr bl (au.imp (fun⟨j,ah,aE⟩=>⟨j,ao j ah,aE⟩) id)⟩,h.fr,h.defers,h.size,h.slot,h.new,h.ext,h.obk⟩;rw[hJ]at av;split at av
 ·rename_i e;subst e;cases av;obtain⟨bl,us,el,g1,g2,g3,g4,g5⟩:=h.good.box k cs J;rw[lk aY]at g5;rw[lJ aY]at g4;have g6:=hr bl us _ g1 g4 g5;have mP:=qu g6;exact⟨bl,us,el,g1,g2,g3,by rw[lJ mP];exact g4,by rw[lk mP];exact g6⟩
 ·exact h.good.box j cn av
theorem Mf{C:dh}{st:aN}{a:Act}{w:World}{ν:aD}(h:bH C st a w ν)(hex:C.ex=[])(bN:∀b o,C.ν0.A b o->b<C.w0.heap.size){p:ab}{v:Value}{base:Nat}(aY:aw w ν p v)(az:y4 st p base):
  ∃ε ν',bH C (qA st p base ε) a w ν'/\aw w ν' (eP base (bC p)) v/\ν'.bx=ν.bx:=by
 obtain⟨cM,c2,c3,c4⟩:=az;obtain⟨ε,ω,y9,tr,VL⟩:=FM (bC p) _ v base (Bb h.fr.trd p v aY cM c2);have kz:∀m,base<=m->fresh st.n st.o (.obj m):=fun m hm=>⟨trivial,fun J=>by have:=c3 m J;omega⟩;have D0:∀m x,ω m=some x->ν.bx (.obj m)=none/\ν.ow (.obj m)=none/\∀j b,¬ν.tr (.obj m) j b:=fun m x hm=>h.new _ (kz m ((y9.dom m).1 (by rw[hm];rfl)).1);have hU:∀m x,ω m=some x->(iK ν (tn p) ω).ow (.obj m)=some x:=fun m x hm=>by simp only[iK,hm]
 have hold:∀k n u,ν.ow k=some (n,u)->(iK ν (tn p) ω).ow k=some (n,u):=fun k n u J=>by
  cases k with
  |loc m=>exact J
  |obj m=>
   simp only[iK];cases hm:ω m with
   |none=>exact J
   |some x=>rw[(D0 m x hm).2.1]at J;cases J
 have iE:∀k n u,(iK ν (tn p) ω).ow k=some (n,u)->ν.ow k=some (n,u)\/ ∃m,k= .obj m/\ω m=some (n,u):=fun k n u J=>by
  cases k with
  |loc m=>exact .inl J
  |obj m=>
   simp only[iK]at J;cases hm:ω m with
   |none=>rw[hm]at J;exact .inl J
   |some x=>rw[hm]at J;exact .inr ⟨m,rfl,by rw[<-J];exact hm⟩
 have ly:∀bl,iG ν (tn p) bl->C.w0.heap.size<=bl:=fun bl ⟨k,j,ah,aE⟩=>by have J:k≠cV:=KN p cM _ ah;exact(h.fr.trb k j bl aE).1.resolve_left J
 have hn:∀g o,look g (cR ε base (bC p))=some o->∃m,g= .obj m/\base<=m/\m<base+bZ (bC p)/\∃u us,ω m=some (o.n,u)/\w.ownsRow 0 o.el o.sz u o.n us/\∃xs,o.xs=some xs/\xs.length=o.n/\b4 w (iK ν (tn p) ω) o.sz xs us:=fun g o aP=>by
  obtain⟨m,e,gP,ir⟩:=qm ε _ base g o aP;obtain⟨u,us,bJ,cj,de⟩:=tr (iK ν (tn p) ω) hU g o aP;subst e;refine⟨m,rfl,gP,ir,u,us,?_,cj,de⟩;rcases iE _ _ _ bJ with q|⟨lb,q,hh⟩
  ·rw[(h.new _ (kz m gP)).2.1]at q;cases q
  ·cases q;exact hh
 have fV:∀k cs,look k (qO (tn p) st.b)=some cs->∃cn,look k st.b=some cn/\cs=lV (tn p) cn:=fun k cs J=>by
  rw[qO,AV]at J;cases aA:look k st.b with
  |none=>rw[aA]at J;cases J
  |some cn=>rw[aA]at J;cases J;exact⟨cn,rfl,rfl⟩
 have nt:∀k,(look k (qO (tn p) st.b)).isSome->(look k st.b).isSome:=fun k J=>by obtain⟨cs,ch⟩:=ei.1 J;obtain⟨cn,e,_⟩:=fV k cs ch;simp[e]
 have q8:∀g n v bl,(look g (cR ε base (bC p))).isSome->(iK ν (tn p) ω).ow g=some (n,v)->v.ownBlock=some bl->iG ν (tn p) bl:=fun g n v bl I aa ak=>by obtain⟨o,ag⟩:=ei.1 I;obtain⟨m,rfl,gP,ir,u,us,bJ,cj,de⟩:=hn g o ag;rw[hU m _ bJ]at aa;cases aa;obtain⟨fC,ah,aE⟩:=y9.blk m _ _ bJ;rw[ak]at ah;cases ah;exact aE
 refine⟨ε,iK ν (tn p) ω,⟨⟨fun bl o aT=>h.good.alt bl o aT.1,fun k cs J=>?_,fun k aX bl I aa=>h.good.inj k aX bl (nt k I) (nt aX aa),fun g o aP=>?_,fun g dH n n' v v' bl I aa ak aK bb ct=>?_,fun g k n v bl I aa ak aK bb=>?_,fun k=>?_,fun bl au k j af=>?_⟩,
  ⟨h.fr.os,h.fr.tape,h.fr.output,h.fr.size,h.fr.block,fun b o aT=>⟨⟨(h.fr.keep b o aT).1,fun af=>?_⟩,(h.fr.keep b o aT).2⟩,fun b o aT=>h.fr.fresh b o aT.1,h.fr.obj,h.fr.obn,fun m n u hm=>?_,h.fr.obr,fun k j aX dj b I aa=>h.fr.trd k j aX dj b I.1 aa.1,fun k j b af=>h.fr.trb k j b af.1,fun k j b af=>⟨(h.fr.trn k j b af.1).1,?_⟩,h.fr.sh,h.fr.nrow⟩,h.defers,h.size,fun i=>?_,fun k J=>?_,fun x ad=>(by rw[hex]at ad;cases ad),fun m hm aH=>h.obk m hm (oh (cE _) (fun _ h=>iz _ h) aH)⟩,VL _ hU,rfl⟩
 ·obtain⟨cn,ah,rfl⟩:=fV k cs J;obtain⟨bl,us,el,g1,g2,g3,g4,g5⟩:=h.good.box k cn ah;have gy:=EZ c4 ah;rw[lk gy]at g5;rw[lJ gy]at g4;have g6:=Cg (N:=tn p) (ω:=ω) h.fr.trd cn _ g5;have mP:=qu g6;exact⟨bl,us,el,g1,g2,fun o aT=>g3 o aT.1,by rw[lJ mP];exact g4,by rw[lk mP];exact g6⟩
 ·obtain⟨m,rfl,gP,ir,u,us,bJ,cj,xs,de,du,cy⟩:=hn g o aP;obtain⟨bl,ah,aE⟩:=y9.blk m _ _ bJ;have gd:∀fC,u.ownBlock=some fC->∀j,¬(iK ν (tn p) ω).A fC j:=fun fC af j aT=>by rw[ah]at af;cases af;exact aT.2 aE
  exact⟨u,us,hU m _ bJ,cj,fun fC af=>⟨.inr (by rw[ah]at af;cases af;exact ly _ aE),fun j aT=>absurd aT (gd fC af j)⟩,fun xs' ad=>by rw[de]at ad;cases ad;exact⟨du,cy,gd⟩⟩
 ·obtain⟨o,ag⟩:=ei.1 I;obtain⟨o',fM⟩:=ei.1 aa;obtain⟨m,rfl,_,_,u,us,bJ,_⟩:=hn g o ag;obtain⟨lb,rfl,_,_,dw,a6,K9,_⟩:=hn dH o' fM;rw[hU m _ bJ]at ak;cases ak;rw[hU lb _ K9]at aK;cases aK;rw[y9.inj m lb _ _ _ _ bl bJ K9 bb ct]
 ·obtain⟨et,D6,_,aE⟩:=q8 g n v bl I ak aK;exact h.good.otr bl (.inl ⟨k,nt k aa,bb⟩) et D6 aE
 ·rcases h.good.one k with I|I
  ·exact .inl I
  ·cases J:(iK ν (tn p) ω).ow k with
   |none=>exact .inr rfl
   |some x=>
    rcases iE k x.1 x.2 J with aa|⟨m,rfl,aa⟩
    ·rw[I]at aa;cases aa
    ·exact .inl (D0 m _ aa).1
 ·rcases au with⟨aX,ah,aE⟩|⟨g,n,v,ah,aE,bg⟩
  ·exact h.good.otr bl (.inl ⟨aX,nt aX ah,aE⟩) k j af.1
  ·obtain⟨et,D6,f1,f2⟩:=q8 g n v bl ah aE bg;obtain⟨rfl,rfl⟩:=h.fr.trd k j et D6 bl af.1 f2;exact af.2 f1
 ·have:=ly b af;have:=bN b o aT;omega
 ·obtain⟨n',dw,ah,aE⟩:=h.fr.row m n u hm;exact⟨n',dw,hold _ _ _ ah,aE⟩
 ·have e:=(h.fr.trn k j b af.1).2;cases J:(iK ν (tn p) ω).ow k with
  |none=>rfl
  |some x=>
   rcases iE k x.1 x.2 J with aa|⟨m,rfl,aa⟩
   ·rw[e]at aa;cases aa
   ·exact absurd af.1 ((D0 m _ aa).2.2 j b)
 ·show aw w (iK ν (tn p) ω) (get i (r5 (tn p) st.t)) _;rw[r5,C0 (by simp[hR])];exact Cf h.fr.trd _ _ (h.slot i)
 ·obtain⟨bJ,cj⟩:=J;have de:k∉y5 base (bZ (bC p))/\k∉st.o:=by simp only[qA,ha,not_or]at cj;exact cj
  obtain⟨m1,m2,m3⟩:=h.new k ⟨bJ,de.2⟩;refine⟨m1,?_,fun j b af=>m3 j b af.1⟩;cases J:(iK ν (tn p) ω).ow k with
  |none=>rfl
  |some x=>
   rcases iE k x.1 x.2 J with aa|⟨m,rfl,aa⟩
   ·rw[m2]at aa;cases aa
   ·exact absurd (Ky.2 ⟨m,rfl,(y9.dom m).1 (by rw[aa];rfl)⟩) de.1
theorem VG{C:dh}{st:aN}{a:Act}{w:World}{ν:aD}(h:bH C st a w ν)(hex:C.ex=[])(bN:∀b o,C.ν0.A b o->b<C.w0.heap.size){s base:Nat}(az:y4 st (oG st s) base):∃ε ν',bH C (qB st s base ε) a w ν':=by
 have L1:oG st s=get s st.t->∃ε ν',bH C {qA st (get s st.t) base ε with t:=put s (eP base (bC (get s st.t))) (r5 (tn (get s st.t)) st.t)} a w ν':=fun e=>by rw[e]at az;obtain⟨ε,ν',eH,fB,_⟩:=Mf h hex bN (h.slot s) az;exact⟨ε,ν',Bz eH fB⟩
 cases J:get s st.t with
 |ptr k off=>
  cases off with
  |zero=>
   cases aA:look k st.b with
   |none=>simp only[oG,J,aA]at az;exact absurd az.1 (by simp[dk])
   |some cs=>
    have ah:oG st s= .agg cs:=by simp only[oG,J,aA]
    have aE:∀ε,qB st s base ε={qA st (.agg cs) base ε with b:=ck k (gE base (bz cs)) (qO (tn (.agg cs)) st.b)}:=fun ε=>by simp only[qB,J,aA]
    rw[ah]at az;simp only[aE];obtain⟨bl,us,el,g1,g2,g3,g4,g5⟩:=h.good.box k cs aA;have gy:=EZ az.2.2.2 aA;rw[lk gy]at g5;rw[lJ gy]at g4;obtain⟨ε,ν',eH,fB,kL⟩:=Mf h hex bN (p:= .agg cs) (v:= .agg us) (by simp only[aw];exact⟨us,rfl,g5⟩) az;have gM:look k (qO (tn (.agg cs)) st.b)=some (lV (tn (.agg cs)) cs):=by rw[qO,AV,aA];rfl
    refine⟨ε,ν',UY eH gM (Uu _ _) fun Nj oK Oj f1 f2 _=>?_⟩;rw[kL,g1]at f1;cases f1;rw[g4]at f2;cases f2;simp only[eP,bC,aw]at fB;obtain⟨aan,bg,cB⟩:=fB;cases bg;exact cB
  |succ off=>
   have ah:oG st s=get s st.t:=by simp only[oG,J]
   have aE:∀ε,qB st s base ε={qA st (get s st.t) base ε with t:=put s (eP base (bC (get s st.t))) (r5 (tn (get s st.t)) st.t)}:=fun ε=>by simp only[qB,J]
   simp only[aE];exact L1 ah
 |_=>
  have ah:oG st s=get s st.t:=by simp only[oG,J]
  have aE:∀ε,qB st s base ε={qA st (get s st.t) base ε with t:=put s (eP base (bC (get s st.t))) (r5 (tn (get s st.t)) st.t)}:=fun ε=>by simp only[qB,J]
  simp only[aE];exact L1 ah
end
section
open Go Go.RowKit
inductive nW where
 |of (c:C)
 |sq (c:C) (d:nW)
 |sl (d:nW)
 |th (s:Nat) (d:nW)
def l0(P:bp)(ob:List aq):nW->(Exit->aN->Prop)->aN->Prop
 | .of c,Q,st=>b3 P ob c Q st
 | .sq c d,Q,st=>b3 P ob c (fun e st'=>match e with| .normal=>l0 P ob d Q st'|e=>Q e st') st
 | .sl d,Q,st=> ∃st',hQ ob st st'/\BM st'/\l0 P ob d Q (qv st')
 | .th s d,Q,st=> ∃st' base,hQ ob st st'/\y4 st' (oG st' s) base/\∀ε,l0 P ob d Q (qB st' s base ε)
def tK(N:Nat)(aW:List (Nat×cm)):nW->Code->Bool
 | .of c,code=>fi N aW c code
 | .sq c d,.seq x y=>fi N aW c x&&tK N aW d y
 | .sl d,code=>tK N aW d code
 | .th _ d,code=>tK N aW d code
 |_,_=>false
theorem zI{P:bp}(hm:P.follows .mixedOrders=true){aW:List (Nat×cm)}(au:dJ P aW=true){X:dh}(hex:X.ex=[])(bN:∀b o,X.ν0.A b o->b<X.w0.heap.size):∀(d:nW) (code:Code) (Q:Exit->aN->Prop) (st:aN),tK X.N aW d code=true->l0 P X.ob d Q st->B3 P X code Q st
 | .of c,code,Q,st,ag,he=>lv hm au c code Q st ag he
 | .sq c d,code,Q,st,ag,he=>by
  cases code<;>try(simp[tK]at ag;done)
  rename_i oa iT;simp only[tK,bA]at ag;intro a w ν hr;refine wp_seq ?_;refine wp_mono (lv hm au c oa _ st ag.1 he a w ν hr) fun e bE w' bq=>?_;obtain⟨st',ν',bj,bG⟩:=bq;cases e with
  |normal=>exact zI hm au hex bN d iT Q st' ag.2 bj bE w' ν' bG
  |_=>exact⟨st',ν',bj,bG⟩
 | .sl d,code,Q,st,ag,he=>fun a w ν hr=>by obtain⟨st',I,aa,ak⟩:=he;exact zI hm au hex bN d code Q _ ag ak a w _ (Ve (hr.weaker I) hex aa)
 | .th s d,code,Q,st,ag,he=>fun a w ν hr=>by obtain⟨st',base,hw,I,aa⟩:=he;obtain⟨ε,ν',bG⟩:=VG (hr.weaker hw) hex bN I;exact zI hm au hex bN d code Q _ ag (aa ε) a w ν' bG
def zQ(aW:List (Nat×cm))(d:nW)(cA:List cr)(EE:Nat)(fn:Func):Bool:=
 match fn.body with
 |some code=>tK fn.ntmps aW d code&&mb aW cA fn.results.toList&& !(fn.name== "runtime.NumGoroutine")&&decide (EE<=fn.ntmps)
 |none=>false
theorem cS.mkD{P:bp}(hm:P.follows .mixedOrders=true){aW:List (Nat×cm)}(au:dJ P aW=true){f:FuncId}{fn:Func}(aH:P.funcs[f]? =some fn){d:nW}{cA:List cr}{n:Nat}(dM:zQ aW d cA n fn=true)
  {args:List ab} (aA:args.length<=n) {s:cZ} (iZ:gw s) {Q:ab->cZ->Prop} (he:jf args->(∀j cs,look j s.b=some cs->fm cs=true->jg cs)->l0 P (dG s) d (ev cA s Q) ⟨gW 0 args,s.b,s.e,0,dG s⟩):cS P f args s Q:=by
 unfold zQ at dM;split at dM
 ·rename_i code af;simp only[bA,fH,oO]at dM;obtain⟨⟨⟨I,aa⟩,ak⟩,aK⟩:=dM;exact cS.ofW au aH af ak aa (Nat.le_trans aA aK) iZ fun X j5 iF hex bN bJ cj=>zI hm au hex bN d code _ _ (by rw[j5];exact I) (by rw[iF];exact he bJ cj)
 ·cases dM
theorem b5.mkD{P:bp}(hm:P.follows .mixedOrders=true){aW:List (Nat×cm)}(au:dJ P aW=true){f:FuncId}{fn:Func}(aH:P.funcs[f]? =some fn){d:nW}{cA:List cr}{n:Nat}(dM:zQ aW d cA n fn=true)
  {args:List ab} (aA:args.length<=n) {r:ab} (hr:kin (fun _=>cw) r) (he:jf args->l0 P [] d (ca cA r) ⟨gW 0 args,[],[],0,[]⟩):b5 P f args r:=by
 refine cS.mkD hm au aH dM aA oz fun I _=>?_;rw[<-Gv hr];exact he I
def zi(P:bp)(ob:List aq)(d:nW)(Q:Exit->aN->Prop)(e:Exit)(st:aN):Prop:=match e with
 | .normal=>l0 P ob d Q st
 |e=>Q e st
section
variable {P:bp} {ob:List aq} {st:aN} {Q:Exit->aN->Prop} {c:C} {d:nW}
@[simp]theorem WI:zi P ob d Q .normal st=l0 P ob d Q st:=rfl
@[simp]theorem WJ:zi P ob d Q .ret st=Q .ret st:=rfl
@[simp]theorem WH{n:Nat}:zi P ob d Q (.exit n) st=Q (.exit n) st:=rfl
@[simp]theorem XS:l0 P ob (.of c) Q st=b3 P ob c Q st:=rfl
@[simp]theorem XT:l0 P ob (.sq c d) Q st=b3 P ob c (zi P ob d Q) st:=by simp only[l0];congr 1
theorem Pd(st':aN)(hw:hQ ob st st')(az:BM st')(h:l0 P ob d Q (qv st')):l0 P ob (.sl d) Q st:=⟨st',hw,az,h⟩
theorem Pe{s:Nat}(st':aN)(base:Nat)(hw:hQ ob st st')(az:y4 st' (oG st' s) base)(h:∀ε,l0 P ob d Q (qB st' s base ε)):l0 P ob (.th s d) Q st:=⟨st',base,hw,az,h⟩
end
end
section
open Go Go.RowKit
theorem Cv:∀(xs ys:List ab),cz (xs++ys)=cz xs+cz ys
 |[],ys=>by simp[cz]
 |x::xs,ys=>by simp[cz,Cv xs ys];omega
theorem zF:∀(b:Nat) (xs ys:List ab),gE b (xs++ys)=gE b xs++gE (b+cz xs) ys
 |b,[],ys=>by simp[gE,cz]
 |b,x::xs,ys=>by simp[gE,cz,zF _ xs ys,Nat.add_assoc]
theorem Fo(ε:Nat->Nat):∀(b:Nat) (xs ys:List ab),fu ε b (xs++ys)=fu ε b xs++fu ε (b+cz xs) ys
 |b,[],ys=>by simp[fu,cz]
 |b,x::xs,ys=>by simp[fu,cz,Fo ε _ xs ys,Nat.add_assoc]
mutual
theorem zB(ε:Nat->Nat):∀(p:ab) (b m:Nat),b<=m->m<b+bZ p->∃o,look (.obj m) (cR ε b p)=some o
 | .slice sz t (x::xs),b,m,I,aa=>by
  simp only[bZ]at aa;simp only[cR,look];by_cases e:b=m
  ·subst e;exact⟨_,if_pos rfl⟩
  ·rw[be (by simpa using e),kH];by_cases ak:m<b+1+bZ x
   ·obtain⟨o,ag⟩:=zB ε x (b+1) m Ω ak;exact⟨o,by rw[ag]⟩
   ·obtain⟨o,ag⟩:=CA ε xs (b+1+bZ x) m Ω Ω;cases ad:look (.obj m) (cR ε (b+1) x)with
    |some y=>exact⟨y,rfl⟩
    |none=>exact⟨o,ag⟩
 | .agg cs,b,m,I,aa=>by simp only[bZ,cR]at aa⊢;exact CA ε cs b m I aa
 | .slice _ _ [],_,_,I,aa=>by simp only[bZ]at aa;omega
 | .int _ _,_,_,I,aa=>by simp only[bZ]at aa;omega
 | .bool _,_,_,I,aa=>by simp only[bZ]at aa;omega
 | .str _,_,_,I,aa=>by simp only[bZ]at aa;omega
 | .junk,_,_,I,aa=>by simp only[bZ]at aa;omega
 | .ptr _ _,_,_,I,aa=>by simp only[bZ]at aa;omega
 | .eptr _,_,_,I,aa=>by simp only[bZ]at aa;omega
 | .iface _ _,_,_,I,aa=>by simp only[bZ]at aa;omega
 | .nilp,_,_,I,aa=>by simp only[bZ]at aa;omega
 | .tuple _,_,_,I,aa=>by simp only[bZ]at aa;omega
 | .func _ _,_,_,I,aa=>by simp only[bZ]at aa;omega
 | .gmap _,_,_,I,aa=>by simp only[bZ]at aa;omega
 | .row _ _ _,_,_,I,aa=>by simp only[bZ]at aa;omega
 | .rptr _ _ _ _ _,_,_,I,aa=>by simp only[bZ]at aa;omega
 | .hdm _ _,_,_,I,aa=>by simp only[bZ]at aa;omega
 | .hdi _ _ _,_,_,I,aa=>by simp only[bZ]at aa;omega
 | .cst _,_,_,I,aa=>by simp only[bZ]at aa;omega
theorem CA(ε:Nat->Nat):∀(aZ:List ab) (b m:Nat),b<=m->m<b+cz aZ->∃o,look (.obj m) (fu ε b aZ)=some o
 |[],b,m,I,aa=>by simp only[cz]at aa;omega
 |x::xs,b,m,I,aa=>by
  simp only[cz]at aa;simp only[fu];rw[kH];by_cases ak:m<b+bZ x
  ·obtain⟨o,ag⟩:=zB ε x b m I ak;exact⟨o,by rw[ag]⟩
  ·obtain⟨o,ag⟩:=CA ε xs (b+bZ x) m Ω Ω;cases ad:look (.obj m) (cR ε b x)with
   |some y=>exact⟨y,rfl⟩
   |none=>exact⟨o,ag⟩
end
theorem wb{ε:Nat->Nat}{p:ab}{b m:Nat}(h:m<b\/b+bZ p<=m):look (.obj m) (cR ε b p)=none:=by
 cases J:look (.obj m) (cR ε b p)with
 |none=>rfl
 |some o=>obtain⟨lb,e,gP,ir⟩:=qm ε p b _ o J;cases e;omega
theorem Kr{ε:Nat->Nat}{p:List ab}{b m:Nat}(h:m<b\/b+cz p<=m):look (.obj m) (fu ε b p)=none:=by
 cases J:look (.obj m) (fu ε b p)with
 |none=>rfl
 |some o=>obtain⟨lb,e,gP,ir⟩:=uA ε p b _ o J;cases e;omega
theorem S8{ε:Nat->Nat}{l r:List ab}{y:ab}{b:Nat}{k:aq}{o:cq}(h:look k (cR ε (b+cz l) y)=some o):look k (fu ε b (l++y::r))=some o:=by obtain⟨m,rfl,gP,ir⟩:=qm ε y _ k o h;rw[Fo,kH,Kr Ω];simp only[fu];rw[kH,h]
theorem S9{ε:Nat->Nat}{l r:List ab}{y y':ab}{b:Nat}(az:bZ y'=bZ y){k:aq}{o:cq}(h:look k (fu ε b (l++y'::r))=some o):
  look k (cR ε (b+cz l) y')=some o\/(look k (cR ε (b+cz l) y)=none/\look k (cR ε (b+cz l) y')=none/\look k (fu ε b (l++y::r))=some o):=by
 obtain⟨m,rfl,gP,ir⟩:=uA ε _ _ k o h;simp only[Fo,fu,kH,az]at h⊢;by_cases I:m<b+cz l
 ·rw[wb (p:=y) (.inl I),wb (p:=y') (.inl I)];refine .inr ⟨rfl,rfl,?_⟩;rw[wb (p:=y') (.inl I)]at h;exact h
 ·rw[Kr (p:=l) (.inr Ω)]at h⊢;by_cases aa:m<b+cz l+bZ y
  ·obtain⟨o',fM⟩:=zB ε y' (b+cz l) m Ω Ω;rw[fM]at h⊢;exact .inl h
  ·rw[wb (p:=y) (.inr Ω),wb (p:=y') (.inr Ω)];rw[wb (p:=y') (.inr Ω)]at h;exact .inr ⟨rfl,rfl,h⟩
end
section
open Go Go.RowKit
section
variable (b9:Int->List aC)
mutual
def cJ:ab->Int->ab×Int
 | .int dr _,k=>(.int dr k,k+1)
 | .str _,k=>(.str (b9 k),k+1)
 | .slice sz t xs,k=>(.slice sz t (bI xs k).1,(bI xs k).2)
 | .agg cs,k=>(.agg (bI cs k).1,(bI cs k).2)
 |p,k=>(p,k)
def bI:List ab->Int->List ab×Int
 |[],k=>([],k)
 |x::xs,k=>((cJ x k).1::(bI xs (cJ x k).2).1,(bI xs (cJ x k).2).2)
end
theorem rp:∀(xs:List ab) (k:Int),(bI b9 xs k).1.length=xs.length
 |[],k=>by simp[bI]
 |x::xs,k=>by simp[bI,rp xs]
mutual
theorem HJ:∀(p:ab) (k:Int),bZ (cJ b9 p k).1=bZ p
 | .int _ _,k=>by simp[cJ,bZ]
 | .str _,k=>by simp[cJ,bZ]
 | .slice _ _ [],k=>by simp[cJ,bI,bZ]
 | .slice _ _ (x::xs),k=>by simp[cJ,bI,bZ,HJ x,tJ xs]
 | .agg cs,k=>by simp[cJ,bZ,tJ cs]
 | .bool _,k=>by simp[cJ]
 | .junk,k=>by simp[cJ]
 | .ptr _ _,k=>by simp[cJ]
 | .eptr _,k=>by simp[cJ]
 | .iface _ _,k=>by simp[cJ]
 | .nilp,k=>by simp[cJ]
 | .tuple _,k=>by simp[cJ]
 | .func _ _,k=>by simp[cJ]
 | .gmap _,k=>by simp[cJ]
 | .row _ _ _,k=>by simp[cJ]
 | .rptr _ _ _ _ _,k=>by simp[cJ]
 | .hdm _ _,k=>by simp[cJ]
 | .hdi _ _ _,k=>by simp[cJ]
 | .cst _,k=>by simp[cJ]
theorem tJ:∀(aZ:List ab) (k:Int),cz (bI b9 aZ k).1=cz aZ
 |[],k=>by simp[bI]
 |x::xs,k=>by simp[bI,cz,HJ x,tJ xs]
end
theorem A1:∀(xs ys:List ab) (k:Int),bI b9 (xs++ys) k=((bI b9 xs k).1++(bI b9 ys (bI b9 xs k).2).1,(bI b9 ys (bI b9 xs k).2).2)
 |[],ys,k=>by simp[bI]
 |x::xs,ys,k=>by simp[bI,A1 xs ys]
mutual
theorem Tp:∀(p:ab) (k:Int),k<=(cJ b9 p k).2
 | .int _ _,k=>by simp[cJ];omega
 | .str _,k=>by simp[cJ];omega
 | .slice _ _ xs,k=>by simp only[cJ];exact pB xs k
 | .agg cs,k=>by simp only[cJ];exact pB cs k
 | .bool _,k=>by simp[cJ]
 | .junk,k=>by simp[cJ]
 | .ptr _ _,k=>by simp[cJ]
 | .eptr _,k=>by simp[cJ]
 | .iface _ _,k=>by simp[cJ]
 | .nilp,k=>by simp[cJ]
 | .tuple _,k=>by simp[cJ]
 | .func _ _,k=>by simp[cJ]
 | .gmap _,k=>by simp[cJ]
 | .row _ _ _,k=>by simp[cJ]
 | .rptr _ _ _ _ _,k=>by simp[cJ]
 | .hdm _ _,k=>by simp[cJ]
 | .hdi _ _ _,k=>by simp[cJ]
 | .cst _,k=>by simp[cJ]
theorem pB:∀(aZ:List ab) (k:Int),k<=(bI b9 aZ k).2
 |[],k=>by simp[bI]
 |x::xs,k=>by have I:=Tp x k;have aa:=pB xs (cJ b9 x k).2;simp only[bI];omega
end
end
end
section
open Go Go.RowKit
inductive hP:ab->Prop
 |mk (a b:Int) (s:List aC) (ys:List ab):(∀y∈ys,hP y)->hP (.agg [.int .i64 a,.int .i64 b,.str s,.slice 4 .no ys])
mutual
def uX:ab->Nat
 | .slice _ _ xs=>mU xs
 | .agg cs=>1+mU cs
 |_=>0
def mU:List ab->Nat
 |[]=>0
 |x::xs=>uX x+mU xs
end
theorem BU:∀{xs:List ab} {x:ab},x∈xs->uX x<=mU xs
 |y::ys,x,h=>by
  rcases gp.1 h with rfl|h
  ·simp only[mU];omega
  ·have:=BU h;simp only[mU];omega
theorem hP.inv{p:ab}(h:hP p):∃a b s ys,p= .agg [.int .i64 a,.int .i64 b,.str s,.slice 4 .no ys]/\(∀y∈ys,hP y)/\uX p=1+mU ys:=by
 cases h with
 |mk a b s ys h=>exact⟨a,b,s,ys,rfl,h,by simp[uX,mU]⟩
theorem yX{ε:Nat->Nat}{p:ab}{b:Nat}(k:aq):(look k (cR ε b p)).isSome=true↔∃m,k= .obj m/\b<=m/\m<b+bZ p:=by
 constructor
 ·intro h;obtain⟨o,ag⟩:=ei.1 h;exact qm ε p b k o ag
 ·rintro⟨m,rfl,I,aa⟩;obtain⟨o,ag⟩:=zB ε p b m I aa;rw[ag];rfl
def rng(b c:Nat)(k:aq):Prop:= ∃m,k= .obj m/\b<=m/\m<c
theorem wM{b c fh fY:Nat}(I:fh<=b)(aa:c<=fY)(k:aq)(h:rng b c k):rng fh fY k:=by obtain⟨m,e,gP,ir⟩:=h;exact⟨m,e,Ω,Ω⟩
mutual
theorem yp:∀(p:ab) (b:Nat),cb p->kin (rng b (b+bZ p)) (eP b p)
 | .slice sz t [],b,h=>by simp[eP,kin,kinL]
 | .slice sz t (x::xs),b,h=>by simp only[eP,kin,bZ];exact⟨b,rfl,Ω,Ω⟩
 | .agg cs,b,h=>by simp only[eP,kin,bZ,cb]at h⊢;exact Ee cs b h
 | .int _ _,_,_=>by simp[eP,kin]
 | .bool _,_,_=>by simp[eP,kin]
 | .str _,_,_=>by simp[eP,kin]
 | .junk,_,h=>by simp[cb]at h
 | .ptr _ _,_,h=>by simp[cb]at h
 | .eptr _,_,h=>by simp[cb]at h
 | .iface _ _,_,h=>by simp[cb]at h
 | .nilp,_,h=>by simp[cb]at h
 | .tuple _,_,h=>by simp[cb]at h
 | .func _ _,_,h=>by simp[cb]at h
 | .gmap _,_,h=>by simp[cb]at h
 | .row _ _ _,_,h=>by simp[cb]at h
 | .rptr _ _ _ _ _,_,h=>by simp[cb]at h
 | .hdm _ _,_,h=>by simp[cb]at h
 | .hdi _ _ _,_,h=>by simp[cb]at h
 | .cst _,_,h=>by simp[cb]at h
theorem Ee:∀(aZ:List ab) (b:Nat),dtL aZ->kinL (rng b (b+cz aZ)) (gE b aZ)
 |[],b,h=>by simp[gE,kinL]
 |x::xs,b,h=>by simp only[dtL]at h;simp only[gE,kinL,cz];exact⟨l6 (wM Ω Ω) _ (yp x b h.1),lF (wM Ω Ω) _ (Ee xs _ h.2)⟩
end
theorem yo{S T:aq->Prop}(h:∀k,S k->T k){o:cq}(J:ef S o):ef T o:=fun xs ad=>lF h _ (J xs ad)
mutual
theorem Ei{ε:Nat->Nat}:∀(p:ab) (b:Nat),cb p->∀k o,look k (cR ε b p)=some o->ef (rng b (b+bZ p)) o
 | .slice sz t (x::xs),b,h,k,o,J=>by
  simp only[cb]at h;simp only[cR,look]at J;simp only[bZ];split at J
  ·cases J;intro ys bk;cases bk;have:=Ee (x::xs) (b+1) h.2;simp only[cz,gE]at this;exact lF (wM Ω Ω) _ this
  ·have:=Eh (ε:=ε) (x::xs) (b+1) h.2 k o (by simpa only[fu]using J);simp only[cz]at this;exact yo (wM Ω Ω) this
 | .agg cs,b,h,k,o,J=>by simp only[cR,bZ,cb]at h J⊢;exact Eh cs b h k o J
 | .slice _ _ [],_,_,_,_,h=>by simp[cR,look]at h
 | .int _ _,_,_,_,_,h=>by simp[cR,look]at h
 | .bool _,_,_,_,_,h=>by simp[cR,look]at h
 | .str _,_,_,_,_,h=>by simp[cR,look]at h
 | .junk,_,h,_,_,_=>by simp[cb]at h
 | .ptr _ _,_,h,_,_,_=>by simp[cb]at h
 | .eptr _,_,h,_,_,_=>by simp[cb]at h
 | .iface _ _,_,h,_,_,_=>by simp[cb]at h
 | .nilp,_,h,_,_,_=>by simp[cb]at h
 | .tuple _,_,h,_,_,_=>by simp[cb]at h
 | .func _ _,_,h,_,_,_=>by simp[cb]at h
 | .gmap _,_,h,_,_,_=>by simp[cb]at h
 | .row _ _ _,_,h,_,_,_=>by simp[cb]at h
 | .rptr _ _ _ _ _,_,h,_,_,_=>by simp[cb]at h
 | .hdm _ _,_,h,_,_,_=>by simp[cb]at h
 | .hdi _ _ _,_,h,_,_,_=>by simp[cb]at h
 | .cst _,_,h,_,_,_=>by simp[cb]at h
theorem Eh{ε:Nat->Nat}:∀(aZ:List ab) (b:Nat),dtL aZ->∀k o,look k (fu ε b aZ)=some o->ef (rng b (b+cz aZ)) o
 |[],b,h,k,o,J=>by simp[fu,look]at J
 |x::xs,b,h,k,o,J=>by
  simp only[dtL]at h;simp only[fu,kH]at J;simp only[cz];cases I:look k (cR ε b x)with
  |some y=>rw[I]at J;cases J;exact yo (wM Ω Ω) (Ei x b h.1 k _ I)
  |none=>rw[I]at J;exact yo (wM Ω Ω) (Eh xs _ h.2 k _ J)
end
abbrev e9(ε:Nat->Nat)(b:Nat)(p:ab):cZ:=⟨[],cR ε b p⟩
theorem xd{ε:Nat->Nat}{b:Nat}{p:ab}(k:aq):aG (e9 ε b p) k↔rng b (b+bZ p) k:=by unfold aG rng;rw[yX];simp[look]
theorem Gy(ε:Nat->Nat)(b:Nat)(p:ab):gw (e9 ε b p):=by
 refine⟨fun m=>by simp[look],fun m=>?_⟩;cases h:look (.loc m) (cR ε b p)with
 |none=>rfl
 |some o=>obtain⟨lb,e,_⟩:=qm ε p b _ o h;cases e
theorem qK{ε:Nat->Nat}{b:Nat}{p:ab}(h:cb p):ih (e9 ε b p):=⟨Gy ε b p,fun k cs J=>by simp[look]at J,fun k o J=>yo (fun k J=>(xd k).2 J) (Ei p b h k o J)⟩
theorem r3{ε:Nat->Nat}{b:Nat}{p q:ab}(h:bZ q=bZ p):Same (e9 ε b p) (e9 ε b q):=⟨fun k=>rfl,fun k=>by rw[Bool.eq_iff_iff,yX,yX,h]⟩
theorem Gx{ε:Nat->Nat}{b:Nat}{p:ab}(h:cb p):kin (aG (e9 ε b p)) (eP b p):=l6 (fun k J=>(xd k).2 J) _ (yp p b h)
theorem M3{ε:Nat->Nat}{b:Nat}{p:ab}{k:aq}:k∈dG (e9 ε b p)↔rng b (b+bZ p) k:=by rw[<-xd (ε:=ε)];exact⟨JL,fun h=>rr h⟩
theorem CallDo.sub{P:bp}{n:Nat}{args:List ab}{st:aN}{d:aV Nat}{K:aN->Prop}{ε:Nat->Nat}{b:Nat}{l r:List ab}{y y' nJ:ab}(bk:cb y)(az:bZ y'=bZ y)
  (aH:cS P n args (e9 ε (b+cz l) y) fun cv aj=>cv=nJ/\aj=e9 ε (b+cz l) y')
  (he:∀k o,look k (fu ε b (l++y::r))=some o->look k st.e=some o) (J:kinL (rng (b+cz l) (b+cz l+bZ y)) args)
  (h:∀fS,(∀k o,look k (fu ε b (l++y'::r))=some o->look k fS=some o)->(∀k,¬rng (b+cz l) (b+cz l+bZ y) k->look k fS=look k st.e)->K ⟨eD d nJ st.t,st.b,fS,st.n,st.o++dG (e9 ε (b+cz l) y')⟩):CallDo P n args st d K:=by
 refine CallDo.ob aH (qK bk) (fun k cs J=>by simp[look]at J) (fun k o J=>he k o (S8 J)) (lF (fun k J=>(xd k).2 J) _ J) ?_;rintro cv aj ⟨rfl,rfl⟩;refine⟨r3 az,?_⟩;simp only[wZ,List.append_nil];refine h _ (fun k o J=>?_) fun k J=>?_
 ·rw[kH,pz];rcases S9 az J with I|⟨I,aa,ak⟩
  ·have:(look k (cR ε (b+cz l) y)).isSome=true:=by have:=yX (ε:=ε) (p:=y') (b:=b+cz l) k;rw[yX,<-az,<-this,I];rfl
   rw[this];simp[I]
  ·rw[I];simp[he k o ak]
 ·have I:look k (cR ε (b+cz l) y)=none:=by
   cases bq:look k (cR ε (b+cz l) y)with
   |none=>rfl
   |some o=>exact absurd (qm ε y _ k o bq) J
  have aa:look k (cR ε (b+cz l) y')=none:=by
   cases bq:look k (cR ε (b+cz l) y')with
   |none=>rfl
   |some o=>obtain⟨m,e,gP,ir⟩:=qm ε y' _ k o bq;exact absurd ⟨m,e,gP,Ω⟩ J
  rw[kH,pz,I,aa];simp;cases look k st.e<;>rfl
theorem kR.val{P:bp}{f:FuncId}{args:List ab}{r:Nat->ab}(h:kR P f args r)(J:kin (fun _=>cw) (bC (r 0)):=by simp[bC,kin,kinL]):b5 P f args (bC (r 0)):=by
 intro w ν vs gl I aa ak;have hm:∀(e:Ending) (w':World),(∃v cv aj ν',e= .returned v/\(cv=r 0/\aj=⟨[],[]⟩)/\aw w' ν' cv v/\Good (fun bl=>eZ ν ⟨[],[]⟩ bl\/w.heap.size<=bl) w' ν' aj.b aj.e/\vr (some 0) ν' aj/\gw aj/\mo ⟨w,ν,eZ ν ⟨[],[]⟩,0,dG ⟨[],[]⟩,gl,[]⟩ w' ν')->
   (∃v cv aj ν',e= .returned v/\(cv=bC (r 0)/\aj=⟨[],[]⟩)/\aw w' ν' cv v/\Good (fun bl=>eZ ν ⟨[],[]⟩ bl\/w.heap.size<=bl) w' ν' aj.b aj.e/\oZ ν' aj/\gw aj/\mo ⟨w,ν,eZ ν ⟨[],[]⟩,0,dG ⟨[],[]⟩,gl,[]⟩ w' ν'):=by
  rintro e w' ⟨v,cv,aj,ν',bt,⟨rfl,rfl⟩,a3,a4,a5,zj,lT⟩;have ft:∀k,ν.bx k=none:=fun k=>(aa k).1 rfl;have eM:∀k,ν.ow k=none:=fun k=>(aa k).2.1 rfl;refine⟨v,_,⟨[],[]⟩,ν'.cut fun _=>cw,bt,⟨rfl,rfl⟩,oB (kU.cut _ w' ν') _ _ J (tc _ v a3),a4.cut (fun k cs bq=>by simp[look]at bq) (fun k o bq=>by simp[look]at bq) (fun bl aY _=>aY),fun k=>?_,oz,
   ⟨lT.os,lT.tape,lT.output,lT.size,lT.block,lT.keep,lT.fresh,fun n b af=>?_,lT.obn,fun m n u hm=>?_,lT.obr,fun k j aX dj b bJ _=>bJ.1.elim,fun k j b af=>af.1.elim,fun k j b af=>af.1.elim,lT.sh,fun j n u b ah aE=>lT.nrow j n u b (aD.cut_someO ah).2 aE⟩⟩
  ·obtain⟨bJ,cj,de⟩:=aD.cut_no (ν:=ν') (S:=fun _=>cw) (k:=k) (fun h=>h);exact⟨fun _=>bJ,fun _=>cj,de⟩
  ·rw[ft]at af;cases af
  ·rw[eM]at hm;cases hm
 rcases h 0 w ν vs gl I aa ak with⟨vJ,az⟩|⟨v,w',az,hr⟩
 ·exact .inl ⟨vJ,az.mono hm⟩
 ·exact .inr ⟨v,w',az,hm _ _ hr⟩
def dt{α:Type}(f:α->Nat->ab)(l:List (α×Nat)):List ab:=l.map fun p=>f p.1 p.2
@[simp]theorem Zw{α:Type}(f:α->Nat->ab):dt f []=[]:=rfl
@[simp]theorem Zv{α:Type}(f:α->Nat->ab)(l:List (α×Nat)):(dt f l).length=l.length:=by simp[dt]
@[simp]theorem EF{α:Type}(f:α->Nat->ab)(l:List (α×Nat))(x:α)(n:Nat):dt f (l++[(x,n)])=dt f l++[f x n]:=by simp[dt]
theorem nF(n:Nat):aq.loc n≠cV:=fun e=>by unfold cV at e;cases e
structure ls {α:Type} (n:Nat) (l:List (α×Nat)):Prop where
 nd:(l.map (·.2)).Nodup
 lt:∀p∈l,p.2<n
theorem ls.nil{α:Type}(n:Nat):ls n ([]:List (α×Nat)):=⟨Ψ,Ψ⟩
theorem ls.mono{α:Type}{n m:Nat}{l:List (α×Nat)}(h:ls n l)(hm:n<=m):ls m l:=⟨h.nd,fun p aY=>by have:=h.lt p aY;omega⟩
theorem ls.snoc{α:Type}{n m n':Nat}{l:List (α×Nat)}(h:ls n l)(x:α)(I:n<=m)(aa:m<n'):ls n' (l++[(x,m)]):=by
 refine⟨?_,fun p aY=>?_⟩
 ·rw[List.map_append,nU];refine⟨h.nd,Ψ,fun a bL b af e=>?_⟩;simp at af;subst af;obtain⟨p,aY,rfl⟩:=lO.1 bL;have:=h.lt p aY;omega
 ·rcases ha.1 aY with aY|aY
  ·have:=h.lt p aY;omega
  ·simp at aY;subst aY;exact aa
structure nc {α:Type} (f:α->Nat->ab) (g:α->ab):Prop where
 tn:∀x n,tn (f x n)=[(.loc n,0)]
 ok:∀x n,dk (f x n)
 st:∀x n,bC (f x n)=g x
 ki:∀(S:aq->Prop) x n,S (.loc n)->kin S (f x n)
theorem nc.tnL{α:Type}{f:α->Nat->ab}{g:α->ab}(h:nc f g):∀(l:List (α×Nat)),Pv.tnL (dt f l)=(l.map (·.2)).map fun m=>(aq.loc m,0)
 |[]=>by simp[dt,Pv.tnL]
 |x::l=>by have:=h.tnL l;unfold dt at this;simp[dt,Pv.tnL,h.tn,this]
theorem nc.nodup{α:Type}{f:α->Nat->ab}{g:α->ab}(h:nc f g){n:Nat}{l:List (α×Nat)}(aA:ls n l):(Pv.tnL (dt f l)).Nodup:=by rw[h.tnL];refine WE _ (fun a b oj e=>oj ?_) aA.nd;simpa using e
theorem nc.okL{α:Type}{f:α->Nat->ab}{g:α->ab}(h:nc f g):∀(l:List (α×Nat)),dW (dt f l)
 |[]=>by simp[dt,dW]
 |x::l=>by have:=h.okL l;unfold dt at this;simp[dt,dW,h.ok,this]
theorem nc.stL{α:Type}{f:α->Nat->ab}{g:α->ab}(h:nc f g):∀(l:List (α×Nat)),bz (dt f l)=(l.map (·.1)).map g
 |[]=>by simp[dt,bz]
 |x::l=>by have:=h.stL l;unfold dt at this;simp[dt,bz,h.st,this]
theorem nc.kiL{α:Type}{f:α->Nat->ab}{g:α->ab}(h:nc f g){S:aq->Prop}:∀(l:List (α×Nat)),(∀p∈l,S (.loc p.2))->kinL S (dt f l)
 |[],_=>by simp[dt,kinL]
 |x::l,fT=>by have:=h.kiL l fun p aY=>fT p (by simp[aY]);unfold dt at this;simp only[dt,gZ,kinL];exact⟨h.ki S x.1 x.2 (fT x Ψ),this⟩
theorem nc.kin{α:Type}{f:α->Nat->ab}{g:α->ab}(h:nc f g){n m:Nat}{l:List (α×Nat)}(aA:ls n l)(hm:n<=m)(o:List aq):kinL (fun k=> ¬fresh m o k) (dt f l)=True:=eq_true (h.kiL l fun p aY aH=>by have I:=aA.lt p aY;have aa:m<=p.2:=aH.1;omega)
theorem CC:∀(a b:List ab),dtL (a++b)↔dtL a/\dtL b
 |[],b=>by simp[dtL]
 |x::a,b=>by simp[dtL,CC a b,and_assoc]
mutual
theorem CF(b9:Int->List aC):∀(p:ab) (k:Int),cb p->cb (cJ b9 p k).1
 | .int _ _,_,_=>by simp[cJ,cb]
 | .bool _,_,_=>by simp[cJ,cb]
 | .str _,_,_=>by simp[cJ,cb]
 | .slice sz _ xs,k,h=>by simp only[cJ,cb]at h⊢;exact⟨h.1,tM b9 xs k h.2⟩
 | .agg cs,k,h=>by simp only[cJ,cb]at h⊢;exact tM b9 cs k h
 | .junk,_,h=>by simp[cb]at h
 | .ptr _ _,_,h=>by simp[cb]at h
 | .eptr _,_,h=>by simp[cb]at h
 | .iface _ _,_,h=>by simp[cb]at h
 | .nilp,_,h=>by simp[cb]at h
 | .tuple _,_,h=>by simp[cb]at h
 | .func _ _,_,h=>by simp[cb]at h
 | .gmap _,_,h=>by simp[cb]at h
 | .row _ _ _,_,h=>by simp[cb]at h
 | .rptr _ _ _ _ _,_,h=>by simp[cb]at h
 | .hdm _ _,_,h=>by simp[cb]at h
 | .hdi _ _ _,_,h=>by simp[cb]at h
 | .cst _,_,h=>by simp[cb]at h
theorem tM(b9:Int->List aC):∀(aZ:List ab) (k:Int),dtL aZ->dtL (bI b9 aZ k).1
 |[],k,h=>by simp[bI,dtL]
 |x::xs,k,h=>by simp only[bI,dtL]at h⊢;exact⟨CF b9 x k h.1,tM b9 xs _ h.2⟩
end
theorem yY{ε:Nat->Nat}{b sz:Nat}{t:jZ}:∀{xs:List ab},xs≠[]->cR ε b (.slice sz t xs)=(.obj b,⟨xs.length,ε b,sz,some (gE (b+1) xs)⟩)::fu ε (b+1) xs
 |[],h=>absurd rfl h
 |_::_,_=>rfl
theorem HY{b sz:Nat}{t:jZ}:∀{xs:List ab},xs≠[]->eP b (.slice sz t xs)= .row sz (.obj b) xs.length
 |[],h=>absurd rfl h
 |_::_,_=>rfl
theorem HZ{b sz:Nat}{t:jZ}:∀{xs ys:List ab},xs.length=ys.length->eP b (.slice sz t xs)=eP b (.slice sz t ys)
 |[],[],_=>rfl
 |[],_::_,h=>by simp at h
 |_::_,[],h=>by simp at h
 |_::xs,_::ys,h=>by simp only[eP];simp at h;rw[h]
theorem HX{b:Nat}{l r:List ab}{x:ab}{i:Nat}(aB:l.length=i):(gE b (l++x::r))[i]? =some (eP (b+cz l) x):=by subst aB;rw[zF,List.getElem?_append_right (by rw[sf];exact cE _)];simp[sf,gE]
theorem Om{b:Nat}{l r:List ab}{x w1:ab}{i:Nat}(aB:l.length=i)(az:bZ w1=bZ x):(gE b (l++x::r)).set i (eP (b+cz l) w1)=gE b (l++w1::r):=by subst aB;rw[zF,zF,List.set_append_right _ _ (by rw[sf];exact cE _)];simp[sf,gE,az]
theorem KE(b9:Int->List aC)(l:List ab)(x:ab)(k:Int):bI b9 (l++[x]) k=((bI b9 l k).1++[(cJ b9 x (bI b9 l k).2).1],(cJ b9 x (bI b9 l k).2).2):=by rw[A1];simp[bI]
theorem KF(b9:Int->List aC)(l:List ab)(k:Int)(i:Nat):(bI b9 (l.take i) k).2<=(bI b9 l k).2:=by have h:=A1 b9 (l.take i) (l.drop i) k;rw[List.take_append_drop]at h;rw[h];exact pB b9 _ _
def kI(b9:Int->List aC)(l:List ab)(k:Int)(i:Nat):List ab:=(bI b9 (l.take i) k).1++l.drop i
theorem Tn(b9:Int->List aC)(l:List ab)(k:Int):kI b9 l k 0=l:=by simp[kI,bI]
theorem EA(b9:Int->List aC)(l:List ab)(k:Int):kI b9 l k l.length=(bI b9 l k).1:=by simp[kI]
theorem yt(b9:Int->List aC)(l:List ab)(k:Int)(i:Nat):(kI b9 l k i).length=l.length:=by simp[kI,rp];omega
theorem Tk(b9:Int->List aC)(l:List ab)(k:Int)(i:Nat):cz (kI b9 l k i)=cz l:=by unfold kI;rw[Cv,tJ,<-Cv,List.take_append_drop]
theorem Tl(b9:Int->List aC){l:List ab}(k:Int)(i:Nat)(h:dtL l):dtL (kI b9 l k i):=by rw[<-List.take_append_drop i l,CC]at h;unfold kI;rw[CC];exact⟨tM b9 _ _ h.1,h.2⟩
theorem Tj(b9:Int->List aC){l:List ab}(k:Int){i:Nat}{x:ab}(h:l[i]? =some x):kI b9 l k i=(bI b9 (l.take i) k).1++x::l.drop (i+1):=by unfold kI;congr 1;obtain⟨aB,e⟩:=fG.1 h;rw[pR aB,e]
theorem Tm(b9:Int->List aC){l:List ab}(k:Int){i:Nat}{x:ab}(h:l[i]? =some x):kI b9 l k (i+1)=(bI b9 (l.take i) k).1++(cJ b9 x (bI b9 (l.take i) k).2).1::l.drop (i+1):=by
 unfold kI;have:l.take (i+1)=l.take i++[x]:=by rw[lq,h];rfl
 rw[this,KE];simp
theorem Tr(b9:Int->List aC){l:List ab}(k:Int){i:Nat}{x:ab}(h:l[i]? =some x):(bI b9 l k).1=(bI b9 (l.take i) k).1++(cJ b9 x (bI b9 (l.take i) k).2).1::(bI b9 (l.drop (i+1)) (cJ b9 x (bI b9 (l.take i) k).2).2).1:=by
 obtain⟨aB,e⟩:=fG.1 h;have I:l=l.take i++x::l.drop (i+1):=by rw[<-e,<-pR aB,List.take_append_drop]
 have aa:=A1 b9 (l.take i) (x::l.drop (i+1)) k;rw[<-I]at aa;rw[aa];simp only[bI]
theorem KD(b9:Int->List aC){l:List ab}(k:Int){i:Nat}{x:ab}(h:l[i]? =some x):(bI b9 (l.take (i+1)) k).2=(cJ b9 x (bI b9 (l.take i) k).2).2:=by
 have:l.take (i+1)=l.take i++[x]:=by rw[lq,h];rfl
 rw[this,KE]
theorem EB(b9:Int->List aC):∀{xs:List ab} (k:Int),(∀x∈xs,∃dr a cs,x= .agg (.int dr a::cs))->k+xs.length<=(bI b9 xs k).2
 |[],k,_=>by simp[bI]
 |x::xs,k,h=>by
  obtain⟨dr,a,cs,rfl⟩:=h x Ψ;have I:=EB b9 (xs:=xs) (cJ b9 (.agg (.int dr a::cs)) k).2 fun y bk=>h y (by simp[bk]);have aa:k+1<=(cJ b9 (.agg (.int dr a::cs)) k).2:=by simp only[cJ,bI];exact pB b9 cs (k+1)
  simp only[bI,lN];omega
theorem HU:∀{l:List ab},dtL l↔∀x∈l,cb x
 |[]=>by simp[dtL]
 |x::l=>by simp[dtL,HU (l:=l)]
theorem xt{sz:Nat}{t:jZ}:∀{xs ys:List ab},xs.length=ys.length->cz xs=cz ys->bZ (.slice sz t xs)=bZ (.slice sz t ys)
 |[],[],_,_=>rfl
 |[],_::_,h,_=>by simp at h
 |_::_,[],h,_=>by simp at h
 |_::_,_::_,_,h=>by simp only[bZ,cz]at h⊢;omega
@[simp]theorem L4{b sz:Nat}{t:jZ}:∀{xs:List ab},bC (eP b (.slice sz t xs))=eP b (.slice sz t xs)
 |[]=>rfl
 |_::_=>rfl
@[simp]theorem Zy{ε:Nat->Nat}{b m:Nat}{p:ab}(x:cq):((aq.loc m,x)∈cR ε b p)=cw:=eq_false fun h=>by have:=sY h;rw[(Gy ε b p).2 m]at this;cases this
theorem hQ.to{ε:Nat->Nat}{b:Nat}{p gx:ab}{st:aN}{t':List (Nat×ab)}(aF:cb p)(az:bZ p=bZ gx)(au:∀x∈t',get x.1 st.t=x.2/\kin (rng b (b+bZ gx)) x.2)(he:∀k o,look k (cR ε b p)=some o->look k st.e=some o):
  hQ (dG (e9 ε b gx)) st ⟨t',[],cR ε b p,0,dG (e9 ε b gx)⟩:=by
 have fT:∀k,rng b (b+bZ gx) k->¬fresh 0 (dG (e9 ε b gx)) k:=fun k J aH=>aH.2 (M3.2 J);refine⟨fun x ad=>⟨(au x ad).1,l6 fT _ (au x ad).2⟩,fun k cs J=>by simp[look]at J,fun k o J=>⟨he k o J,fT k ?_,yo fT ?_⟩,fun m hm=>hm⟩
 ·rw[<-az];exact qm ε p b k o J
 ·rw[<-az];exact Ei p b aF k o J
end
end Go.Pv
namespace Go.Proofs.YtlnndmgfngfeiaaGreatDoor
section
open Go Go.Pv
def GW:C:=(al [hW 1 0,bM 2 false] (al [cP 3 4 1,mf 4 150 [.t 3,(cQ 5000)],bd 5 .gtr 4 0,ae 2 5] .ret))
@[simp] def Lb:List cr:=[.tmp 2]
def zr:C:=(al [hW 2 0] (.seq (al [bB 4 0 1 2,bu 5 1 4,bd 6 .eql 5 1] (bf 6 (.region [ae 7 1,bB 8 1 1 2,bu 9 1 8,MP 10 7 [.t 9]]) .skip)) (al [bB 11 0 1 2,bu 12 1 11,bd 13 .eql 12 4] (bf 13 (al [bB 14 3 1 2,bu 15 1 14,qE 16 4 15 0,cP 17 4 16,ae 18 1,gA 19 79 17 18] (.region [bB 20 3 1 2,bu 21 1 20,qE 22 4 21 1,cP 23 4 22,ae 24 1,gA 25 79 23 24])) .skip))))
@[simp] def Bq:List cr:=[]
def Hn:C:=(al [hW 2 0,hW 3 1,hv 4 dE] (al [cP 5 4 2,cP 6 4 3,h9 7 4 40 [.t 5,.t 6],kO 8 dE [(0,1,(cQ 4)),(3,1,(.t 7))],bO 4 4 8] .ret))
@[simp] def Lo:List cr:=[.cell 4 true 4]
def G2:C:=(al [hW 2 0,cK 4 0] (.seq (al [ae 7 1,bd 8 .lss 7 1] (bf 8 (al [cK 4 (-1)] .ret) .skip)) (.seq (al [bB 9 0 1 2,bu 10 1 9,bd 11 .neq 10 4] (bf 11 (.seq (al [bB 12 3 1 2,bu 13 1 12,dT 14 13,bd 15 .neq 14 0] (bf 15 (al [cK 4 (-1)] .ret) .skip)) (.seq (al [bB 16 0 1 2,bu 17 1 16] (.block 0 (al [bd 19 .eql 17 0,ae 18 19] (bf 18 (al [bB 20 1 1 2,bu 21 1 20,bd 22 .neq 21 0,ae 23 22,aM 23 false (bB 24 2 1 2),aM 23 false (bu 25 1 24),lL 23 false 26 (.bin .neq false (.t 25) (.c (.str []))),ds 27 23 26] (bf 27 (al [cK 4 (-1)] .ret) .skip)) (al [bd 29 .eql 17 1,ae 28 29] (bf 28 (al [bB 30 1 1 2,bu 31 1 30,bd 32 .lss 31 0,ae 33 32,aM 33 false (bB 34 1 1 2),aM 33 false (bu 35 1 34),aM 33 false (bd 36 .gtr 35 100000),ds 37 33 36,ae 38 37,aM 38 false (bB 39 2 1 2),aM 38 false (bu 40 1 39),lL 38 false 41 (.bin .neq false (.t 40) (.c (.str []))),ds 42 38 41] (bf 42 (al [cK 4 (-1)] .ret) .skip)) (al [bd 44 .eql 17 2,ae 43 44] (bf 43 (al [bB 45 1 1 2,bu 46 1 45,bd 47 .neq 46 0,ae 48 47,aM 48 false (bB 49 2 1 2),aM 48 false (bu 50 1 49),aM 48 false (dY 51 170 50),aM 48 false (eQ 52 51),ds 53 48 52] (bf 53 (al [cK 4 (-1)] .ret) .skip)) (al [bd 55 .eql 17 3,ae 54 55] (bf 54 (al [bB 56 1 1 2,bu 57 1 56,bd 58 .lss 57 (-1000000000),ae 59 58,aM 59 false (bB 60 1 1 2),aM 59 false (bu 61 1 60),aM 59 false (bd 62 .gtr 61 1000000000),ds 63 59 62,ae 64 63,aM 64 false (bB 65 2 1 2),aM 64 false (bu 66 1 65),lL 64 false 67 (.bin .neq false (.t 66) (.c (.str []))),ds 68 64 67] (bf 68 (al [cK 4 (-1)] .ret) .skip)) (al [cK 4 (-1)] .ret))))))))))) (al [cK 4 1] .ret))) .skip)) (.seq (al [bB 69 1 1 2,bu 70 1 69,bd 71 .neq 70 0,ae 72 71,aM 72 false (bB 73 2 1 2),aM 72 false (bu 74 1 73),lL 72 false 75 (.bin .neq false (.t 74) (.c (.str []))),ds 76 72 75,ae 77 76,aM 77 false (bB 78 3 1 2),aM 77 false (bu 79 1 78),aM 77 false (dT 80 79),aM 77 false (bd 81 .neq 80 2),ds 82 77 81] (bf 82 (al [cK 4 (-1)] .ret) .skip)) (al [bB 83 3 1 2,bu 84 1 83,qE 85 4 84 0,cP 86 4 85,ae 87 1,bd 88 .sub 87 1,gA 89 150 86 88,ae 5 89] (.seq (al [ae 90 5,bd 91 .lss 90 0] (bf 91 (al [cK 4 (-1)] .ret) .skip)) (al [bB 92 3 1 2,bu 93 1 92,qE 94 4 93 1,cP 95 4 94,ae 96 1,bd 97 .sub 96 1,ae 98 5,dm 99 .sub 97 98,gA 100 150 95 99,ae 6 100] (.seq (al [ae 101 6,bd 102 .lss 101 0] (bf 102 (al [cK 4 (-1)] .ret) .skip)) (al [ae 103 5,a7 104 (.bin .add false (cQ 1) (.t 103)),ae 105 6,dm 106 .add 104 105,ae 4 106] .ret)))))))))
@[simp] def Br:List cr:=[.tmp 4]
def G4:C:=(al [mY 2 1] (al [eu (.bslm 5 (some 306) 1 3 []),ae 3 5] (.seq (al [ae 6 0,eu (.range 7 none (.t 6))] (.block 0 (.loop (al [⟨none,.next 8 (.t 7)⟩,ek 9 0 8] (.seq (bf 9 .skip (.exit 0)) (.block 1 (al [a7 10 (.ment (.t 7)),ek 11 0 10,ae 4 11] (.region [ae 12 3,ae 13 4,h9 14 1 3 [.t 13],eu (.appm 15 none 1 3 (.t 12) (.t 14)),ae 3 15])))))))) (al [ae 16 3,dY 17 213 16] (.seq (.pub 3 (.region [ae 18 3,ae 2 18])) .ret)))))
@[simp] def Lg:List cr:=[.tmp 2]
def GV:C:=(al [bM 2 false] (.seq (al [ae 4 0,a7 5 (.slen (.t 4)),bd 6 .lss 5 1,ae 7 6,b0 7 false 8 0,aM 7 false (a7 9 (.slen (.t 8))),aM 7 false (bd 10 .gtr 9 12),ds 11 7 10,ae 12 11,b0 12 false 13 0,aM 12 false (a7 14 (.sidx (.t 13) (cQ 0))),aM 12 false (a7 15 (.bin .lss false (.t 14) (.c (.int .u8 97)))),ds 16 12 15,ae 17 16,b0 17 false 18 0,aM 17 false (a7 19 (.sidx (.t 18) (cQ 0))),aM 17 false (a7 20 (.bin .gtr false (.t 19) (.c (.int .u8 122)))),ds 21 17 20] (bf 21 (al [bM 2 false] .ret) .skip)) (.seq (al [cK 3 1] (.block 0 (.loop (.seq (al [ae 22 3,ae 23 0,a7 24 (.slen (.t 23)),dm 25 .lss 22 24] (bf 25 .skip (.exit 0))) (.seq (.block 1 (al [ae 28 0,ae 29 3,a7 30 (.sidx (.t 28) (.t 29)),a7 31 (.bin .geq false (.t 30) (.c (.int .u8 97))),ae 32 31,b0 32 true 33 0,b0 32 true 34 3,aM 32 true (a7 35 (.sidx (.t 33) (.t 34))),aM 32 true (a7 36 (.bin .leq false (.t 35) (.c (.int .u8 122)))),e7 37 32 36,ae 38 37,b0 38 false 39 0,b0 38 false 40 3,aM 38 false (a7 41 (.sidx (.t 39) (.t 40))),aM 38 false (a7 42 (.bin .geq false (.t 41) (.c (.int .u8 48)))),b0 38 false 43 42,b0 43 true 44 0,b0 43 true 45 3,aM 43 true (a7 46 (.sidx (.t 44) (.t 45))),aM 43 true (a7 47 (.bin .leq false (.t 46) (.c (.int .u8 57)))),aM 38 false (e7 48 43 47),ds 49 38 48,ae 50 49,b0 50 false 51 0,b0 50 false 52 3,aM 50 false (a7 53 (.sidx (.t 51) (.t 52))),aM 50 false (a7 54 (.bin .eql false (.t 53) (.c (.int .u8 45)))),ds 55 50 54,eQ 56 55] (bf 56 (al [bM 2 false] .ret) .skip))) (.region [ae 26 3,bd 27 .add 26 1,ae 3 27])))))) (al [bM 2 true] .ret))))
@[simp] def Bp:List cr:=[.tmp 2]
def G6:C:=(al [bM 2 false] (.seq (al [ae 5 0,dT 6 5,cK 7 0] (pN 8 7 6 (.seq (.block 1 (al [e8 9 4 5 7,cP 10 4 9,hv 4 dE,bO 4 4 10] (al [cP 11 4 4,dY 12 77 11,eQ 13 12] (bf 13 (al [bM 2 false] .ret) .skip)))) (.region [bd 14 .add 7 1,ae 7 14])))) (al [bM 2 true] .ret)))
@[simp] def UF:List cr:=[.tmp 2]
def zs:C:=(al [hW 2 0,hW 3 1,hv 4 dE] (al [cP 5 4 2,cP 6 4 3,h9 7 4 40 [.t 5,.t 6],kO 8 dE [(0,1,(cQ 4)),(3,1,(.t 7))],bO 4 4 8] .ret))
@[simp] def UD:List cr:=[.cell 4 true 4]
def aW:List (Nat×cm):=[
 (3,⟨1,8,.int .i64,.int .i64 0⟩),
 (9,⟨1,16,.str,.str []⟩),
 (36,⟨1,24,.slice 120,.slice 5 .nil []⟩),
 (38,⟨1,24,.slice 40,.slice 4 .nil []⟩),
 (40,⟨4,56,.struct [(0,3),(1,3),(2,9),(3,38)],.agg [.int .i64 0,.int .i64 0,.str [],.slice 4 .nil []]⟩),
 (120,⟨5,64,.struct [(0,3),(1,40)],.agg [.int .i64 0,.int .i64 0,.int .i64 0,.str [],.slice 4 .nil []]⟩),
 (136,⟨1,24,.slice 3,.slice 1 .nil []⟩),
 (189,⟨1,8,.other,.junk⟩),
 (199,⟨1,8,.map 3 4,.junk⟩),
 (209,⟨1,8,.int .u64,.int .u64 0⟩)]
theorem mixed:aS.follows .mixedOrders=true:=by kernel_rfl
theorem bT{aW:List (Nat×cm)}(au:dJ aS aW=true){f:FuncId}{fn:Func}(aH:aS.funcs[f]? =some fn){c:C}{cA:List cr}{n:Nat}(dM:c6 aW c cA n fn=true){args:List ab}{r:ab}(he:jf args->b3 aS [] c (ca cA r) ⟨gW 0 args,[],[],0,[]⟩)(aA:args.length<=n:=by simp)(hr:kin (fun _=>cw) r:=by simp[kin]):b5 aS f args r:=b5.mk mixed au aH dM aA hr he
theorem oI:dJ aS aW=true:=by kernel_rfl
theorem TP:c6 aW GW Lb 1 Tryz.f77=true:=by kernel_rfl
theorem PA:aS.funcs[(77:Nat)]? =some Tryz.f77:=Tryz.func77
theorem EP:c6 aW zr Bq 2 Tryz.f79=true:=by kernel_rfl
theorem CR:aS.funcs[(79:Nat)]? =some Tryz.f79:=Tryz.func79
theorem Ug:c6 aW Hn Lo 2 Tryz.f141=true:=by kernel_rfl
theorem P2:aS.funcs[(141:Nat)]? =some Tryz.f141:=Tryz.func141
theorem TV:c6 aW G2 Br 2 Tryz.f150=true:=by kernel_rfl
theorem PG:aS.funcs[(150:Nat)]? =some Tryz.f150:=Tryz.func150
theorem TX:c6 aW G4 Lg 1 Tryz.f160=true:=by kernel_rfl
theorem PI:aS.funcs[(160:Nat)]? =some Tryz.f160:=Tryz.func160
theorem TO:c6 aW GV Bp 1 Tryz.f170=true:=by kernel_rfl
theorem Pz:aS.funcs[(170:Nat)]? =some Tryz.f170:=Tryz.func170
theorem TZ:c6 aW G6 UF 1 Tryz.f183=true:=by kernel_rfl
theorem PK:aS.funcs[(183:Nat)]? =some Tryz.f183:=Tryz.func183
theorem ER:c6 aW zs UD 2 Tryz.f206=true:=by kernel_rfl
theorem CS:aS.funcs[(206:Nat)]? =some Tryz.f206:=Tryz.func206
def Cn:C:=(al [cK 4 0] (.seq (al [cK 5 0] (.block 0 (.loop (.seq (al [ae 6 5,ae 7 0,dT 8 7,dm 9 .lss 6 8] (bf 9 .skip (.exit 0))) (.seq (.block 1 (al [ae 12 0,ae 13 5,ae 14 1,e8 15 4 12 13,bB 16 0 1 15,bO 1 16 14] (al [ae 17 1,bd 18 .add 17 1,ae 1 18] (al [ae 19 0,ae 20 5,ae 21 1,e8 22 4 19 20,bB 23 1 1 22,bO 1 23 21] (al [ae 24 1,bd 25 .add 24 1,ae 1 25] (al [ae 26 0,ae 27 5,ae 28 1,dY 29 162 28,e8 30 4 26 27,bB 31 2 1 30,bO 1 31 29] (al [ae 32 1,bd 33 .add 32 1,ae 1 33] (.region [ae 34 0,ae 35 5,e8 36 4 34 35,bB 37 3 1 36,bu 38 1 37,ae 39 1,gA 40 92 38 39,ae 1 40])))))))) (.region [ae 10 5,bd 11 .add 10 1,ae 5 11])))))) (al [ae 41 1,ae 4 41] .ret)))
@[simp] def Ll:List cr:=[.tmp 4]
def Cm:C:=(al [cK 4 0] (.seq (al [cK 5 0] (.block 0 (.loop (.seq (al [ae 6 5,ae 7 0,dT 8 7,dm 9 .lss 6 8] (bf 9 .skip (.exit 0))) (.seq (.block 1 (.seq (al [ae 12 0,ae 13 5,e8 14 4 12 13,bB 15 0 1 14,bu 16 1 15,ae 17 1,dm 18 .neq 16 17] (bf 18 (al [cK 4 (-1)] .ret) .skip)) (al [ae 19 1,bd 20 .add 19 1,ae 1 20] (.seq (al [ae 21 0,ae 22 5,e8 23 4 21 22,bB 24 1 1 23,bu 25 1 24,ae 26 1,dm 27 .neq 25 26] (bf 27 (al [cK 4 (-1)] .ret) .skip)) (al [ae 28 1,bd 29 .add 28 1,ae 1 29] (.seq (.seq (.drawn true 50 [ae 30 0,ae 31 5,e8 32 4 30 31,bB 33 2 1 32,bu 34 1 33,ae 35 1,dY 36 162 35,dm 37 .neq 34 36]) (bf 37 (al [cK 4 (-1)] .ret) .skip)) (al [ae 38 1,bd 39 .add 38 1,ae 1 39] (al [ae 40 0,ae 41 5,e8 42 4 40 41,bB 43 3 1 42,bu 44 1 43,ae 45 1,gA 46 93 44 45,ae 1 46] (al [ae 47 1,bd 48 .lss 47 0] (bf 48 (al [cK 4 (-1)] .ret) .skip)))))))))) (.region [ae 10 5,bd 11 .add 10 1,ae 5 11])))))) (al [ae 49 1,ae 4 49] .ret)))
@[simp] def Lj:List cr:=[.tmp 4]
def Co:C:=(al [a7 2 (.mov (.c (.str [])))] (.seq (al [ae 4 0,bd 5 .leq 4 0] (bf 5 (al [a7 2 (.mov (.c (.str [109,48])))] .ret) .skip)) (al [a7 3 (.mov (.c (.str [])))] (.seq (.block 0 (.loop (.seq (al [ae 6 0,bd 7 .gtr 6 0] (bf 7 .skip (.exit 0))) (.block 1 (al [ae 8 0,bd 9 .rem 8 10,a7 10 (.bin .add false (cQ 48) (.t 9)),a7 11 (.conv .u8 (.t 10)),h9 12 1 5 [.t 11],a7 13 (.b2s (.t 12)),ae 14 3,dm 15 .add 13 14,ae 3 15] (.region [ae 16 0,bd 17 .quo 16 10,ae 0 17])))))) (al [ae 18 3,a7 19 (.bin .add false (.c (.str [109])) (.t 18)),ae 2 19] .ret)))))
@[simp] def Lm:List cr:=[.tmp 2]
def BZ:List (Nat×cm):=[
 (3,⟨1,8,.int .i64,.int .i64 0⟩),
 (5,⟨1,1,.int .u8,.int .u8 0⟩),
 (9,⟨1,16,.str,.str []⟩),
 (35,⟨1,24,.slice 5,.slice 1 .nil []⟩),
 (38,⟨1,24,.slice 40,.slice 4 .nil []⟩),
 (40,⟨4,56,.struct [(0,3),(1,3),(2,9),(3,38)],.agg [.int .i64 0,.int .i64 0,.str [],.slice 4 .nil []]⟩),
 (59,⟨1,24,.slice 86,.slice 7 .nil []⟩),
 (61,⟨1,24,.struct [(0,59)],.agg [.slice 7 .nil []]⟩),
 (63,⟨1,24,.slice 65,.slice 4 .nil []⟩),
 (65,⟨4,72,.struct [(0,3),(1,9),(2,38),(3,63)],.agg [.int .i64 0,.str [],.slice 4 .nil [],.slice 4 .nil []]⟩),
 (86,⟨7,104,.struct [(0,9),(1,3),(2,3),(3,65)],.agg [.str [],.int .i64 0,.int .i64 0,.int .i64 0,.str [],.slice 4 .nil [],.slice 4 .nil []]⟩)]
theorem wV:dJ aS BZ=true:=by kernel_rfl
theorem KS:c6 BZ Cn Ll 2 Tryz.f92=true:=by kernel_rfl
theorem Ie:aS.funcs[(92:Nat)]? =some Tryz.f92:=Tryz.func92
theorem KR:c6 BZ Cm Lj 2 Tryz.f93=true:=by kernel_rfl
theorem Ic:aS.funcs[(93:Nat)]? =some Tryz.f93:=Tryz.func93
theorem KT:c6 BZ Co Lm 1 Tryz.f162=true:=by kernel_rfl
theorem If:aS.funcs[(162:Nat)]? =some Tryz.f162:=Tryz.func162
def uC:Nat->Int->List aC->List aC
 |0,_,o=>o
 |f+1,k,o=>if k<=0 then o else uC f (k/10) (lP (IntKind.u8.wrap (48+k.tmod 10)).toNat::o)
def cp(k:Int):List aC:=if k<=0 then [109,48]else 109::uC k.toNat k []
theorem Mz(k:Int)(J:k<=4611686018427387904):b5 aS 162 [.int .i64 k] (.str (cp k)):=by
 by_cases bN:k<=0
 ·rw[cp,if_pos bN];refine bT wV If KT fun aQ=>?_;unfold Co;exact cH
 rw[cp,be bN];refine bT wV If KT fun aQ=>?_;unfold Co;simp;(with_reducible repeat' first|refine aI ?_|simp[bN]);refine jI (fun(x:Int×List aC)=>⟨[(0,.int .i64 x.1),(3,.str x.2)],[],[],0,[]⟩) (fun x=>x.1.toNat) (fun x=>0<=x.1/\x.1<=4611686018427387904/\x.1.toNat*10 ^ x.2.length<=4611686018427387904/\x.2.length<=19/\∃f:Nat,x.1<=f/\uC f x.1 x.2=uC k.toNat k []) (k,[]) dp ⟨Ω,J,by simp;omega,Ψ,k.toNat,by simp;omega,rfl⟩ ?_;rintro⟨j,o⟩ ⟨I,aa,ak,q5,f,aK,bb⟩ _;simp only at I aa ak q5 aK bb;by_cases av:0<j
 ·have aA:o.length<=18:=by
   rcases Nat.lt_or_ge 18 o.length with h|h
   ·have ct:10 ^ 19<=10 ^ o.length:=Nat.pow_le_pow_right Ω Ω;have dZ:1*10 ^ o.length<=j.toNat*10 ^ o.length:=Nat.mul_le_mul_right _ Ω;omega
   ·exact h
  have aF:j.tdiv 10=j/10:=Int.tdiv_eq_ediv_of_nonneg I;have hm:j.tmod 10=j%10:=Int.tmod_eq_emod_of_nonneg I;have hw:jY.wrap (j.tdiv 10)=j/10:=by rw[aF];exact ll _ Ω
  simp[av];(with_reducible repeat' first|refine aI ?_|simp);all_goals first|(refine⟨by unfold bm;omega,by unfold bX;omega,?_⟩)|skip
  rw[hw];obtain⟨gG,rfl⟩:∃gG,f=gG+1:=⟨f-1,Ω⟩;refine cF.whl (j/10,lP (IntKind.u8.wrap (48+j.tmod 10)).toNat::o) (by simp;omega) ⟨by simp;omega,by simp;omega,?_,by simp;omega,gG,by simp;omega,?_⟩ dp
  ·simp only[lN,Nat.pow_succ];have ct:(j/10).toNat*10<=j.toNat:=Ω
   have dZ:=Nat.mul_le_mul_right (10 ^ o.length) ct;rw[Nat.mul_assoc,Nat.mul_comm 10]at dZ;omega
  ·rw[<-bb];simp only[uC];rw[be Ω]
 ·simp[av];(with_reducible repeat' first|refine aI ?_|simp);all_goals first|(refine⟨by unfold bX;omega,?_⟩)|skip
  have sd:uC f j o=o:=by cases f<;>simp[uC];omega
  rw[sd]at bb;rw[<-bb];simp[ca,Lm,ba,bc,a1]
theorem hP.dt':∀(n:Nat),(∀p,uX p<=n->hP p->cb p)/\(∀aZ,mU aZ<=n->(∀p∈aZ,hP p)->dtL aZ)
 |0=>by
  refine⟨fun p aY h=>?_,fun aZ aY h=>?_⟩
  ·obtain⟨a,b,s,ys,_,_,e⟩:=h.inv;omega
  ·cases aZ with
   |nil=>simp[dtL]
   |cons p aZ=>obtain⟨a,b,s,ys,_,_,e⟩:=(h p Ψ).inv;simp only[mU]at aY;omega
 |n+1=>by
  obtain⟨_,a8⟩:=hP.dt' n;have I:∀p,uX p<=n+1->hP p->cb p:=fun p aY h=>by obtain⟨a,b,s,ys,rfl,bk,e⟩:=h.inv;simp only[cb,dtL,true_and,and_true];exact⟨Ω,a8 ys Ω bk⟩
  refine⟨I,fun aZ aY h=>HU.2 fun x ad=>I x ?_ (h x ad)⟩;have:=BU ad;omega
theorem hP.dtL{aZ:List ab}(h:∀p∈aZ,hP p):dtL aZ:=(hP.dt' _).2 aZ (cE _) h
theorem CI(c:Nat)(a bE:Int)(s:List aC)(t:jZ)(ys:List ab):eP c (.agg [.int .i64 a,.int .i64 bE,.str s,.slice 4 t ys])= .agg [.int .i64 a,.int .i64 bE,.str s,eP c (.slice 4 t ys)]:=rfl
theorem KG(b9:Int->List aC)(a bE:Int)(s:List aC)(t:jZ)(ys:List ab)(k:Int):cJ b9 (.agg [.int .i64 a,.int .i64 bE,.str s,.slice 4 t ys]) k=(.agg [.int .i64 k,.int .i64 (k+1),.str (b9 (k+1+1)),.slice 4 t (bI b9 ys (k+1+1+1)).1],(bI b9 ys (k+1+1+1)).2):=by simp[cJ,bI]
theorem LJ(ε:Nat->Nat)(c:Nat)(a bE:Int)(s:List aC)(t:jZ)(ys:List ab):cR ε c (.agg [.int .i64 a,.int .i64 bE,.str s,.slice 4 t ys])=cR ε c (.slice 4 t ys):=by show []++([]++([]++(cR ε (c+0+0+0) (.slice 4 t ys)++[])))=_;simp
theorem vj(a bE:Int)(s:List aC)(t:jZ)(ys:List ab):bZ (.agg [.int .i64 a,.int .i64 bE,.str s,.slice 4 t ys])=bZ (.slice 4 t ys):=by show 0+(0+(0+(bZ (.slice 4 t ys)+0)))=_;omega
theorem Wd(k:Int):b5 aS 92 [.slice 4 .no [],.int .i64 k] (.int .i64 k):=by refine bT wV Ie KS fun aQ=>?_;unfold Cn;simp;(with_reducible repeat' first|refine aI ?_|simp);refine iA (fun i (_:Unit)=>⟨[(0,.slice 4 .no []),(1,.int .i64 k),(5,.int .i64 i)],[],[],0,[]⟩) 0 (fun _ _=>True) () dp trivial (fun _ _ _=>?_) (fun i _ aB _ _=>Ω);exact cH
theorem IE(k:Int)(b:Nat)(ε:Nat->Nat):cS aS 92 [eP b (.slice 4 .no []),.int .i64 k] (e9 ε b (.slice 4 .no [])) fun r aj=>r= .int .i64 k/\aj=e9 ε b (.slice 4 .no []):=Wd k
theorem V1(k:Int):b5 aS 93 [.slice 4 .no [],.int .i64 k] (.int .i64 k):=by refine bT wV Ic KR fun aQ=>?_;unfold Cm;simp;(with_reducible repeat' first|refine aI ?_|simp);refine iA (fun i (_:Unit)=>⟨[(0,.slice 4 .no []),(1,.int .i64 k),(5,.int .i64 i)],[],[],0,[]⟩) 0 (fun _ _=>True) () dp trivial (fun _ _ _=>?_) (fun i _ aB _ _=>Ω);exact cH
theorem ID(k:Int)(b:Nat)(ε:Nat->Nat):cS aS 93 [eP b (.slice 4 .no []),.int .i64 k] (e9 ε b (.slice 4 .no [])) fun r aj=>r= .int .i64 k/\aj=e9 ε b (.slice 4 .no []):=V1 k
theorem Qx:∀(n:Nat) (xs:List ab),mU xs<=n->(∀x∈xs,hP x)->∀(k:Int) (b:Nat) (ε:Nat->Nat),0<=k->(bI cp xs k).2<=4611686018427387904->
  cS aS 92 [eP b (.slice 4 .no xs),.int .i64 k] (e9 ε b (.slice 4 .no xs)) fun r aj=>r= .int .i64 (bI cp xs k).2/\aj=e9 ε b (.slice 4 .no (bI cp xs k).1):=by
 intro n;induction n with
 |zero=>
  intro xs cO ad k b ε bN J;cases xs with
  |nil=>exact IE k b ε
  |cons x xs=>obtain⟨a,bE,s,ys,_,_,e⟩:=(ad x Ψ).inv;simp only[mU]at cO;omega
 |succ n a8=>
 intro xs cO ad k b ε bN J;have aF:dtL xs:=hP.dtL ad;have ao:ih (e9 ε b (.slice 4 .no xs)):=qK (by simp[cb,aF]);by_cases b7:xs=[]
 ·subst b7;exact IE k b ε
 have C9:(bI cp (xs.take 0) k).2=k:=by simp[bI]
 refine cS.mk mixed wV Ie KS Ψ ao.obj fun aQ c7=>?_;unfold Cn;rw[HY b7];simp;(with_reducible repeat' first|refine aI ?_|simp);have Df:∀i,bZ (.slice 4 .no (kI cp xs k i))=bZ (.slice 4 .no xs):=fun i=>xt (yt ..) (Tk ..);have qb:∀i,cb (.slice 4 .no (kI cp xs k i)):=fun i=>by simp only[cb];exact⟨Ω,Tl _ _ _ aF⟩
 have hn:rng b (b+bZ (.slice 4 .no xs)) (.obj b):=⟨b,rfl,cE _,by cases xs with|nil=>exact absurd rfl b7|cons x xs=>simp only[bZ];omega⟩;have RM:=EB cp (xs:=xs) k fun x h=>by obtain⟨a,bE,s,ys,rfl,_⟩:=(ad x h).inv;exact⟨_,_,_,rfl⟩
 have Yx:∀i,kI cp xs k i≠[]:=fun i e=>b7 (List.length_eq_zero_iff.1 (by rw[<-yt cp xs k i,e];rfl));refine iA (fun i (_:Unit)=>⟨[(0,.row 4 (.obj b) xs.length),(1,.int .i64 (bI cp (xs.take i) k).2),(5,.int .i64 i)],[],cR ε b (.slice 4 .no (kI cp xs k i)),0,dG (e9 ε b (.slice 4 .no xs))⟩) xs.length (fun _ _=>True) () ?_ trivial (fun _ _ _=>?_) (fun i _ aB _ _=>?_)
 ·refine hQ.to (qb _) (Df _) ?_ (fun k o h=>by rw[Tn]at h;exact h);simp[Pv.kin,hn,bI]
 ·rw[EA,kQ];simp;(with_reducible repeat' first|refine aI ?_|simp);refine ev.at (e9 ε b (.slice 4 .no (bI cp xs k).1)) Ψ (qK (by rw[<-EA];exact qb _)) (r3 (by rw[<-EA];exact Df _)) (fun k cs h=>by simp[Pv.look]at h) (fun k o h=>h) ?_;simp[ff,Ll,ba,bc,a1]
 ·obtain⟨x,lE⟩:∃x,xs[i]? =some x:=⟨_,eh aB⟩;have hm:=gB lE;have I:k<=(bI cp (xs.take i) k).2:=pB _ _ _;have aa:=KF cp xs k (i+1);have bg:=KD cp k lE;have cB:=Tj cp k lE;have hc:=Tm cp k lE;have ku:(bI cp (xs.take i) k).1.length=i:=by rw[rp];simp;omega
  have qh:=fun(t':List (Nat×ab)) (st:aN)=>hQ.to (t':=t') (st:=st) (ε:=ε) (b:=b) (qb (i+1)) (Df (i+1));rw[bg]at aa;have hlen:((bI cp (xs.take i) k).1++x::xs.drop (i+1)).length=xs.length:=by rw[<-cB];exact yt ..
  rw[cB,yY (xs:=_++x::_) Ψ,hlen];generalize QW:(bI cp (xs.take i) k).1=M at ku cB hc⊢;generalize cl:(bI cp (xs.take i) k).2=K at bg hc I aa⊢;generalize bF:xs.drop (i+1)=R at cB hc⊢;obtain⟨a,bE,s,ys,rfl,fA,Sc⟩:=(ad x hm).inv;have e0:=HX (b:=b+1) (r:=R) (x:= .agg [.int .i64 a,.int .i64 bE,.str s,.slice 4 .no ys]) ku;have tZ:(gE (b+1) (M++ .agg [.int .i64 a,.int .i64 bE,.str s,.slice 4 .no ys]::R)).length=xs.length:=by rw[sf,<-cB];exact yt ..
  rw[CI]at e0;rw[KG]at bg hc aa;generalize di:eP (b+1+cz M) (.slice 4 .no ys)=E at e0;generalize o8:gE (b+1) (M++ .agg [.int .i64 a,.int .i64 bE,.str s,.slice 4 .no ys]::R)=X at e0 tZ⊢;have iW:K+1+1+1<=(bI cp ys (K+1+1+1)).2:=pB ..;simp only at aa;have cd:=Mz (K+1+1) Ω;have yk:∀h,(X[i]'h)= .agg [.int .i64 a,.int .i64 bE,.str s,E]:=fun h=>by rw[eh h]at e0;exact iN e0
  clear e0;simp[aB,yk,tZ];(with_reducible repeat' first|refine aI ?_|refine bn cd ?_|refine bo cd ?_|simp[yk,tZ,aB]);have qi:dtL ys:=hP.dtL fA;have aH:=a8 ys (by have:=BU hm;omega) fA (K+1+1+1) (b+1+cz M) ε Ω Ω;have Au:(bI cp ys (K+1+1+1)).1.length=ys.length:=rp ..;have DG:cz (bI cp ys (K+1+1+1)).1=cz ys:=tJ ..;generalize bI cp ys (K+1+1+1)=Q at Au DG aH bg hc aa iW;have gT:bC E=E:=by rw[<-di];exact L4
  rw[gT];subst di;refine CallDo.sub (ε:=ε) (b:=b+1) (l:=M) (r:=R) (y:= .agg [.int .i64 a,.int .i64 bE,.str s,.slice 4 .no ys]) (y':= .agg [.int .i64 K,.int .i64 (K+1),.str (cp (K+1+1)),.slice 4 .no Q.1]) (by simp[cb,Pv.dtL,qi]) (by rw[vj,vj];exact xt Au DG) (by simp only[e9,LJ];exact aH) (fun k o h=>?_) ?_ (fun fS aA hu=>?_)
  ·obtain⟨m,rfl,gP,ir⟩:=uA _ _ _ _ _ h;simp only[Pv.look];rw[be (by simp;omega)];exact h
  ·rw[vj];simp only[kinL,Pv.kin,and_true];exact yp _ _ (by simp only[cb];exact⟨Ω,qi⟩)
  ·have ye:=hu (.obj b) (fun⟨m,e,gP,ir⟩=>by cases e;omega);simp only[Pv.look,if_true]at ye;simp;(with_reducible repeat' first|refine aI ?_|simp);refine cF.rng () aB ?_ ?_
   ·trivial
   rw[show(bI cp (xs.take (i+1)) k).2=Q.2 from bg];refine qh _ _ (by simp[Pv.kin,hn]) fun k o h=>?_;rw[hc,yY Ψ]at h;simp only[Pv.look]at h;split at h
   ·rename_i e;subst e;rw[ye,<-h,<-o8,<-HZ Au,<-CI (b+1+cz M) K (K+1) (cp (K+1+1)),Om ku (by rw[vj,vj];exact xt Au DG),<-yt cp xs k (i+1),hc]
   ·exact aA k o h
theorem Qu:∀(n:Nat) (xs:List ab),mU xs<=n->(∀x∈xs,hP x)->∀(k:Int) (b:Nat) (ε:Nat->Nat),0<=k->(bI cp xs k).2<=4611686018427387904->
  cS aS 93 [eP b (.slice 4 .no (bI cp xs k).1),.int .i64 k] (e9 ε b (.slice 4 .no (bI cp xs k).1)) fun r aj=>r= .int .i64 (bI cp xs k).2/\aj=e9 ε b (.slice 4 .no (bI cp xs k).1):=by
 intro n;induction n with
 |zero=>
  intro xs cO ad k b ε bN J;cases xs with
  |nil=>exact ID k b ε
  |cons x xs=>obtain⟨a,bE,s,ys,_,_,e⟩:=(ad x Ψ).inv;simp only[mU]at cO;omega
 |succ n a8=>
 intro xs cO ad k b ε bN J;have aF:dtL (bI cp xs k).1:=tM _ _ _ (hP.dtL ad);have qb:cb (.slice 4 .no (bI cp xs k).1):=by simp only[cb];exact⟨Ω,aF⟩
 have ao:ih (e9 ε b (.slice 4 .no (bI cp xs k).1)):=qK qb;by_cases b7:xs=[]
 ·subst b7;exact ID k b ε
 have xZ:(bI cp xs k).1.length=xs.length:=rp ..;have x3:(bI cp xs k).1≠[]:=fun e=>b7 (List.length_eq_zero_iff.1 (by rw[<-xZ,e];rfl));have RM:=EB cp (xs:=xs) k fun x h=>by obtain⟨a,bE,s,ys,rfl,_⟩:=(ad x h).inv;exact⟨_,_,_,rfl⟩
 have hn:rng b (b+bZ (.slice 4 .no (bI cp xs k).1)) (.obj b):=⟨b,rfl,cE _,by revert x3;cases (bI cp xs k).1 with|nil=>exact fun h=>absurd rfl h|cons x xs=>intro _;simp only[bZ];omega⟩;have qh:=fun(t':List (Nat×ab)) (st:aN)=>hQ.to (t':=t') (st:=st) (ε:=ε) (b:=b) qb rfl;refine cS.mk mixed wV Ic KR Ψ ao.obj fun aQ c7=>?_;unfold Cm;rw[HY x3,xZ];simp;(with_reducible repeat' first|refine aI ?_|simp);refine iA (fun i (_:Unit)=>⟨[(0,.row 4 (.obj b) xs.length),(1,.int .i64 (bI cp (xs.take i) k).2),(5,.int .i64 i)],[],cR ε b (.slice 4 .no (bI cp xs k).1),0,dG (e9 ε b (.slice 4 .no (bI cp xs k).1))⟩) xs.length (fun _ _=>True) () ?_ trivial (fun _ _ _=>?_) (fun i _ aB _ _=>?_)
 ·refine qh _ _ ?_ (fun k o h=>h);simp[Pv.kin,hn,bI]
 ·rw[kQ];simp;(with_reducible repeat' first|refine aI ?_|simp);refine ev.at (e9 ε b (.slice 4 .no (bI cp xs k).1)) Ψ ao (r3 rfl) (fun k cs h=>by simp[Pv.look]at h) (fun k o h=>h) ?_;simp[ff,Lj,ba,bc,a1]
 ·obtain⟨x,lE⟩:∃x,xs[i]? =some x:=⟨_,eh aB⟩;have hm:=gB lE;have I:k<=(bI cp (xs.take i) k).2:=pB _ _ _;have aa:=KF cp xs k (i+1);have bg:=KD cp k lE;have cB:=Tr cp k lE;have ku:(bI cp (xs.take i) k).1.length=i:=by rw[rp];simp;omega
  rw[bg]at aa;generalize vF:(bI cp xs k).1=Y at*;have lD:=yY (ε:=ε) (b:=b) (sz:=4) (t:= .no) x3;rw[xZ]at lD;rw[lD];generalize QW:(bI cp (xs.take i) k).1=M at ku cB;generalize cl:(bI cp (xs.take i) k).2=K at bg cB I aa⊢;obtain⟨a,bE,s,ys,rfl,fA,Sc⟩:=(ad x hm).inv;rw[KG]at bg cB aa;simp only at aa;generalize (bI cp (xs.drop (i+1)) _).1=R at cB;have e0:=HX (b:=b+1) (r:=R) (x:= .agg [.int .i64 K,.int .i64 (K+1),.str (cp (K+1+1)),.slice 4 .no (bI cp ys (K+1+1+1)).1]) ku;rw[<-cB,CI]at e0;have tZ:(gE (b+1) Y).length=xs.length:=by rw[sf,xZ]
  generalize di:eP (b+1+cz M) (.slice 4 .no (bI cp ys (K+1+1+1)).1)=E at e0;generalize o8:gE (b+1) Y=X at e0 tZ lD⊢;have iW:K+1+1+1<=(bI cp ys (K+1+1+1)).2:=pB ..;have cd:=Mz (K+1+1) Ω;have yk:∀h,(X[i]'h)= .agg [.int .i64 K,.int .i64 (K+1),.str (cp (K+1+1)),E]:=fun h=>by rw[eh h]at e0;exact iN e0
  clear e0;have aH:=a8 ys (by have:=BU hm;omega) fA (K+1+1+1) (b+1+cz M) ε Ω Ω;have qi:dtL (bI cp ys (K+1+1+1)).1:=tM _ _ _ (hP.dtL fA);generalize bI cp ys (K+1+1+1)=Q at qi di aH bg cB aa iW;simp[aB,yk,tZ];(with_reducible repeat' first|refine aI ?_|refine bn cd ?_|refine bo cd ?_|simp[yk,tZ,aB]);have gT:bC E=E:=by rw[<-di];exact L4
  rw[gT];subst di;refine CallDo.sub (ε:=ε) (b:=b+1) (l:=M) (r:=R) (y:= .agg [.int .i64 K,.int .i64 (K+1),.str (cp (K+1+1)),.slice 4 .no Q.1]) (y':= .agg [.int .i64 K,.int .i64 (K+1),.str (cp (K+1+1)),.slice 4 .no Q.1]) (by simp[cb,Pv.dtL,qi]) rfl (by simp only[e9,LJ];exact aH) (fun k o h=>?_) ?_ (fun fS aA hu=>?_)
  ·rw[<-cB]at h;obtain⟨m,rfl,gP,ir⟩:=uA _ _ _ _ _ h;simp only[Pv.look];rw[be (by simp;omega)];exact h
  ·rw[vj];simp only[kinL,Pv.kin,and_true];exact yp _ _ (by simp only[cb];exact⟨Ω,qi⟩)
  ·have ye:=hu (.obj b) (fun⟨m,e,gP,ir⟩=>by cases e;omega);simp only[Pv.look,if_true]at ye;have JG:¬(Q.2<0):=Ω
   simp[JG];(with_reducible repeat' first|refine aI ?_|simp[JG]);refine cF.rng () aB ?_ ?_
   ·trivial
   rw[show(bI cp (xs.take (i+1)) k).2=Q.2 from bg];have R3:aq.obj b::(fu ε (b+1) Y).map (fun x=>x.1)=dG (e9 ε b (.slice 4 .no Y)):=by simp[yY x3]
   rw[R3,<-lD];refine qh _ _ ?_ (fun k o h=>?_)
   ·simp[Pv.kin,hn]
   rw[yY x3,xZ,o8]at h;simp only[Pv.look]at h;split at h
   ·rename_i e;subst e;rw[ye,<-h]
   ·rw[<-cB]at aA;exact aA k o h
inductive zh:ab->Prop
 |mk (a:Int) (s:List aC) (ts gs:List ab):(∀t∈ts,hP t)->(∀g∈gs,zh g)->zh (.agg [.int .i64 a,.str s,.slice 4 .no ts,.slice 4 .no gs])
def zu:nW:=(.sq (.region [bM 2 false]) (.sq (al [ae 11 0,a7 12 (.slen (.t 11)),bd 13 .gtr 12 1048576] (bf 13 (al [bM 2 true] .ret) .skip)) (.sq (.region [ae 15 0,dY 16 26 15,ae 14 16,ek 17 0 14,ek 18 1 14,eu (.alloc 3 none (.agg [.str [],.slice 4 .nil []])),bO 2 3 17,ae 4 18]) (.sl (.sq (.region [ae 20 0,dY 21 27 20,ae 19 21,ek 22 0 19,ek 23 1 19,eu (.alloc 5 none (.agg [.str [],.slice 4 .nil []])),bO 2 5 22,ae 6 23]) (.sq (al [cP 24 2 5,cP 25 2 3,gA 26 28 24 25,eQ 27 26,ae 28 27,b0 28 false 29 6,b0 28 false 30 4,aM 28 false (a7 31 (.beq true none (.t 29) (.t 30))),ds 32 28 31] (bf 32 (al [bM 2 false] .ret) .skip)) (.sq (.region [cK 7 1]) (.th 5 (.sq (.region [cP 33 2 5,ae 34 7,gA 35 29 33 34,ae 7 35]) (.sq (.region [cK 8 1]) (.sq (.region [cP 36 2 5,ae 37 8,gA 38 30 36 37,ae 8 38]) (.sq (al [ae 39 8,bd 40 .lss 39 0] (bf 40 (al [bM 2 false] .ret) .skip)) (.sq (al [ae 41 8,ae 42 7,dm 43 .neq 41 42] (bf 43 (al [bM 2 false] .ret) .skip)) (.sq (.region [ae 45 0,dY 46 27 45,ae 44 46,ek 47 0 44,ek 48 1 44,eu (.alloc 9 none (.agg [.str [],.slice 4 .nil []])),bO 2 9 47,ae 10 48]) (.sq (al [cP 49 2 9,cP 50 2 3,gA 51 28 49 50,eQ 52 51,ae 53 52,b0 53 false 54 10,b0 53 false 55 4,aM 53 false (a7 56 (.beq true none (.t 54) (.t 55))),ds 57 53 56] (bf 57 (al [bM 2 false] .ret) .skip)) (.sq (.region [cK 8 1]) (.sq (.region [cP 58 2 5,ae 59 8,gA 60 30 58 59,ae 8 60]) (.sq (al [ae 61 8,bd 62 .lss 61 0] (bf 62 (al [bM 2 false] .ret) .skip)) (.sq (al [ae 63 8,ae 64 7,dm 65 .neq 63 64] (bf 65 (al [bM 2 false] .ret) .skip)) (.sq (.region [bM 2 true]) (.of .ret)))))))))))))))))))))
@[simp] def E1:List cr:=[.tmp 2]
def xm:C:=(al [eu (.alloc 2 none (.agg [.str [],.slice 4 .nil []])),bM 3 false] (al [ae 7 0,dY 8 88 7,ae 6 8,ek 9 0 6,ek 10 1 6,eu (.alloc 4 none (.agg [.int .i64 0,.str [],.slice 4 .nil [],.slice 4 .nil []])),bO 4 4 9,ae 5 10] (.seq (al [ae 11 5,eQ 12 11,ae 13 12,aM 13 false (bB 14 0 1 4),aM 13 false (bu 15 1 14),aM 13 false (bd 16 .neq 15 9),ds 17 13 16,ae 18 17,aM 18 false (cP 19 4 4),⟨(some (18,false)),.call (some 20) (.c (.func 89 [])) [.t 19,(.c (.slice 1 .nil []))]⟩,aM 18 false (dT 21 20),aM 18 false (bd 22 .gtr 21 0),ds 23 18 22] (bf 23 (al [a7 24 (.build [.str [],.slice 4 .nil []] []),bO 2 2 24,bM 3 false] .ret) .skip)) (al [bB 25 1 1 4,bu 26 1 25,bB 27 2 1 4,bu 28 1 27,a7 29 (.build [.str [],.slice 4 .nil []] [(0,1,(.t 26)),(1,1,(.t 28))]),bO 2 2 29,bM 3 true] .ret))))
@[simp] def E3:List cr:=[.cell 2 true 2,.tmp 3]
def xj:C:=(al [eu (.alloc 2 none (.agg [.str [],.slice 4 .nil []])),bM 3 false] (al [ae 7 0,dY 8 44 7,ae 6 8,ek 9 0 6,ek 10 1 6,eu (.alloc 4 none (.agg [.int .i64 0,.str [],.slice 4 .nil [],.slice 4 .nil []])),bO 4 4 9,ae 5 10] (.seq (al [ae 11 5,eQ 12 11,ae 13 12,aM 13 false (bB 14 0 1 4),aM 13 false (bu 15 1 14),aM 13 false (bd 16 .neq 15 9),ds 17 13 16,ae 18 17,aM 18 false (cP 19 4 4),aM 18 false (dY 20 90 19),aM 18 false (dT 21 20),aM 18 false (bd 22 .gtr 21 0),ds 23 18 22] (bf 23 (al [a7 24 (.build [.str [],.slice 4 .nil []] []),bO 2 2 24,bM 3 false] .ret) .skip)) (al [bB 25 1 1 4,bu 26 1 25,bB 27 2 1 4,bu 28 1 27,a7 29 (.build [.str [],.slice 4 .nil []] [(0,1,(.t 26)),(1,1,(.t 28))]),bO 2 2 29,bM 3 true] .ret))))
@[simp] def yJ:List cr:=[.cell 2 true 2,.tmp 3]
def Ha:C:=(al [hW 2 0,hW 3 1,bM 4 false] (.seq (al [bB 5 0 1 2,bu 6 1 5,bB 7 0 1 3,bu 8 1 7,dm 9 .neq 6 8] (bf 9 (al [bM 4 false] .ret) .skip)) (.seq (al [bB 10 1 1 2,bu 11 1 10,bB 12 1 1 3,bu 13 1 12,gA 14 91 11 13,eQ 15 14] (bf 15 (al [bM 4 false] .ret) .skip)) (al [bM 4 true] .ret))))
@[simp] def UK:List cr:=[.tmp 4]
def He:C:=(al [hW 2 0,cK 4 0] (al [bB 5 1 1 2,bu 6 1 5,ae 7 1,gA 8 92 6 7,ae 1 8] (al [ae 9 1,ae 4 9] .ret)))
@[simp] def Lk:List cr:=[.tmp 4]
def Hd:C:=(al [hW 2 0,cK 4 0] (al [bB 5 1 1 2,bu 6 1 5,ae 7 1,gA 8 93 6 7,ae 1 8] (.seq (al [ae 9 1,bd 10 .lss 9 0] (bf 10 (al [cK 4 (-1)] .ret) .skip)) (al [ae 11 1,ae 4 11] .ret))))
@[simp] def Li:List cr:=[.tmp 4]
def uY:List (Nat×cm):=[
 (3,⟨1,8,.int .i64,.int .i64 0⟩),
 (4,⟨1,1,.bool,.bool false⟩),
 (9,⟨1,16,.str,.str []⟩),
 (38,⟨1,24,.slice 40,.slice 4 .nil []⟩),
 (53,⟨2,40,.struct [(0,9),(1,38)],.agg [.str [],.slice 4 .nil []]⟩),
 (65,⟨4,72,.struct [(0,3),(1,9),(2,38),(3,63)],.agg [.int .i64 0,.str [],.slice 4 .nil [],.slice 4 .nil []]⟩),
 (136,⟨1,24,.slice 3,.slice 1 .nil []⟩)]
theorem mV:dJ aS uY=true:=by kernel_rfl
theorem ET:zQ uY zu E1 1 ic=true:=by kernel_rfl
theorem CU:aS.funcs[(5:Nat)]? =some ic:=Tryz.func5
theorem Bf:c6 uY xm E3 1 Tryz.f26=true:=by kernel_rfl
theorem zO:aS.funcs[(26:Nat)]? =some Tryz.f26:=Tryz.func26
theorem Bc:c6 uY xj yJ 1 Tryz.f27=true:=by kernel_rfl
theorem zL:aS.funcs[(27:Nat)]? =some Tryz.f27:=Tryz.func27
theorem T3:c6 uY Ha UK 2 Tryz.f28=true:=by kernel_rfl
theorem PO:aS.funcs[(28:Nat)]? =some Tryz.f28:=Tryz.func28
theorem T7:c6 uY He Lk 2 Tryz.f29=true:=by kernel_rfl
theorem PT:aS.funcs[(29:Nat)]? =some Tryz.f29:=Tryz.func29
theorem T6:c6 uY Hd Li 2 Tryz.f30=true:=by kernel_rfl
theorem PS:aS.funcs[(30:Nat)]? =some Tryz.f30:=Tryz.func30
theorem xx(c:Nat)(s:List aC)(t:jZ)(ys:List ab):eP c (.agg [.str s,.slice 4 t ys])= .agg [.str s,eP c (.slice 4 t ys)]:=rfl
theorem LI(ε:Nat->Nat)(c:Nat)(s:List aC)(t:jZ)(ys:List ab):cR ε c (.agg [.str s,.slice 4 t ys])=cR ε c (.slice 4 t ys):=by show []++(cR ε (c+0) (.slice 4 t ys)++[])=_;simp
theorem HI(s:List aC)(t:jZ)(ys:List ab):bZ (.agg [.str s,.slice 4 t ys])=bZ (.slice 4 t ys):=by show 0+(bZ (.slice 4 t ys)+0)=_;omega
theorem K3(b sz:Nat)(ys:List ab):fm [eP b (.slice sz .no ys)]=true:=by
 cases ys with
 |nil=>rfl
 |cons y ys=>rfl
theorem Qw(s:List aC)(ys:List ab)(bk:∀y∈ys,hP y)(k:Int)(b:Nat)(ε:Nat->Nat)(bN:0<=k)(J:(bI cp ys k).2<=4611686018427387904):
  cS aS 29 [eP b (.agg [.str s,.slice 4 .no ys]),.int .i64 k] (e9 ε b (.agg [.str s,.slice 4 .no ys])) fun r aj=>r= .int .i64 (bI cp ys k).2/\aj=e9 ε b (.agg [.str s,.slice 4 .no (bI cp ys k).1]):=by
 have qi:Pv.dtL ys:=hP.dtL bk;have aF:cb (.slice 4 .no ys):=by simp only[cb];exact⟨Ω,qi⟩
 have mB:cb (.slice 4 .no (bI cp ys k).1):=CF cp (.slice 4 .no ys) k aF;have aH:=Qx _ ys (cE _) bk k b ε bN J;have bj:bZ (.slice 4 .no (bI cp ys k).1)=bZ (.slice 4 .no ys):=xt (rp ..) (tJ ..);simp only[e9,LI];rw[xx];have ao:ih (e9 ε b (.slice 4 .no ys)):=qK aF;generalize bI cp ys k=Q at aH bj mB;refine cS.mk mixed mV PT T7 Ψ ao.obj fun aQ c7=>?_;unfold He;simp;(with_reducible repeat' first|refine aI ?_|simp);try refine⟨K3 _ _ _,?_⟩
 refine CallDo.ob aH ao (fun k cs h=>by simp[Pv.look]at h) (fun k o h=>?_) ?_ ?_
 ·exact h
 ·simp only[kinL,and_true];exact⟨Gx aF,by simp[Pv.kin]⟩
 rintro r aj ⟨rfl,rfl⟩;refine⟨r3 bj,?_⟩;simp;(with_reducible repeat' first|refine aI ?_|simp);refine ev.at (e9 ε b (.slice 4 .no Q.1)) Ψ (qK mB) (r3 bj) (fun k cs h=>by simp[Pv.look]at h) (fun k o h=>?_) ?_
 ·rw[tv];exact h
 simp[ff,Lk,ba,bc,a1]
theorem Qt(s:List aC)(ys:List ab)(bk:∀y∈ys,hP y)(k:Int)(b:Nat)(ε:Nat->Nat)(bN:0<=k)(J:(bI cp ys k).2<=4611686018427387904):
  cS aS 30 [eP b (.agg [.str s,.slice 4 .no (bI cp ys k).1]),.int .i64 k] (e9 ε b (.agg [.str s,.slice 4 .no (bI cp ys k).1])) fun r aj=>r= .int .i64 (bI cp ys k).2/\aj=e9 ε b (.agg [.str s,.slice 4 .no (bI cp ys k).1]):=by
 have qi:Pv.dtL ys:=hP.dtL bk;have aF:cb (.slice 4 .no ys):=by simp only[cb];exact⟨Ω,qi⟩
 have mB:cb (.slice 4 .no (bI cp ys k).1):=CF cp (.slice 4 .no ys) k aF;have aH:=Qu _ ys (cE _) bk k b ε bN J;have hle:k<=(bI cp ys k).2:=pB ..;simp only[e9,LI];rw[xx];have ao:ih (e9 ε b (.slice 4 .no (bI cp ys k).1)):=qK mB;generalize bI cp ys k=Q at aH mB ao hle;have aR:¬Q.2<0:=Ω
 refine cS.mk mixed mV PS T6 Ψ ao.obj fun aQ c7=>?_;unfold Hd;simp;(with_reducible repeat' first|refine aI ?_|simp);try refine⟨K3 _ _ _,?_⟩
 refine CallDo.ob aH ao (fun k cs h=>by simp[Pv.look]at h) (fun k o h=>?_) ?_ ?_
 ·exact h
 ·simp only[kinL,and_true];exact⟨Gx mB,by simp[Pv.kin]⟩
 rintro r aj ⟨rfl,rfl⟩;refine⟨r3 rfl,?_⟩;simp[aR];(with_reducible repeat' first|refine aI ?_|simp[aR]);refine ev.at (e9 ε b (.slice 4 .no Q.1)) Ψ (qK mB) (r3 rfl) (fun k cs h=>by simp[Pv.look]at h) (fun k o h=>?_) ?_
 ·rw[tv];exact h
 simp[ff,Li,ba,bc,a1]
end
end Go.Proofs.YtlnndmgfngfeiaaGreatDoor
namespace Go.Pv
section
open Go
inductive aU where
 |mk (kind n:Int) (name:List aC) (args:List aU)
def aU.kind:aU->Int| .mk k _ _ _=>k
def aU.num:aU->Int| .mk _ n _ _=>n
def aU.name:aU->List aC| .mk _ _ s _=>s
def aU.args:aU->List aU| .mk _ _ _ a=>a
mutual
def enc:aU->ab
 | .mk k n s a=>.agg [.int .i64 k,.int .i64 n,.str s,.slice 4 .no (j3 a)]
def j3:List aU->List ab
 |[]=>[]
 |x::xs=>enc x::j3 xs
end
theorem vm:∀l,j3 l=l.map enc
 |[]=>rfl
 |x::xs=>by simp[j3,vm xs]
theorem vn(t:aU):enc t= .agg [.int .i64 t.kind,.int .i64 t.num,.str t.name,.slice 4 .no (t.args.map enc)]:=by cases t;simp[enc,vm,aU.kind,aU.num,aU.name,aU.args]
mutual
theorem Kh(S:aq->Prop):∀t:aU,kin S (enc t)
 | .mk k n s a=>by simp[enc,kin,kinL,Ef S a]
theorem Ef(S:aq->Prop):∀l:List aU,kinL S (j3 l)
 |[]=>by simp[j3,kinL]
 |x::xs=>by simp[j3,kinL,Kh S x,Ef S xs]
end
mutual
theorem L5:∀t:aU,bC (enc t)=enc t
 | .mk k n s a=>by simp[enc,bC,bz,FD a]
theorem FD:∀l:List aU,bz (j3 l)=j3 l
 |[]=>by simp[j3,bz]
 |x::xs=>by simp[j3,bz,L5 x,FD xs]
end
@[simp]theorem YZ(S:aq->Prop)(t:aU):kin S (enc t)=True:=eq_true (Kh S t)
@[simp]theorem YW(S:aq->Prop)(l:List aU):kinL S (l.map enc)=True:=by rw[<-vm];exact eq_true (Ef S l)
theorem Vy(l:List aU):bz (l.map enc)=l.map enc:=by rw[<-vm];exact FD l
attribute [simp] L5 Vy
@[simp]theorem ZX(t:aU):dP (enc t)=true:=by rw[vn];rfl
@[simp]theorem Xv(t:aU):cells (enc t)=[.int .i64 t.kind,.int .i64 t.num,.str t.name,.slice 4 .no (t.args.map enc)]:=by rw[vn];rfl
@[simp]theorem WV(t:aU):ab.agg [.int .i64 t.kind,.int .i64 t.num,.str t.name,.slice 4 .no (t.args.map enc)]=enc t:=(vn t).symm
@[simp]theorem XZ(off:Nat)(er:Bool)(sz:Nat)(t:aU):mx off er sz (.eptr (enc t))=if er then some (off+sz<=4,.eptr (.agg (([.int .i64 t.kind,.int .i64 t.num,.str t.name,.slice 4 .no (t.args.map enc)].drop off).take sz)))else(([.int .i64 t.kind,.int .i64 t.num,.str t.name,.slice 4 .no (t.args.map enc)]:List ab)[off]?).map fun p=>(dP p=true/\cells p=[p],.eptr p):=by rw[vn];rfl
@[simp]theorem YM(t:aU):Pv.isAgg 4 (enc t):=by rw[vn];exact⟨_,rfl,rfl⟩
inductive T where
 |nil
 |var (n:Int)
 |sym (s:List aC)
 |num (n:Int)
 |pair (a b:T)
 deriving DecidableEq,Inhabited
def T.tm:T->aU
 | .nil=>.mk 0 0 [] []
 | .var n=>.mk 1 n [] []
 | .sym s=>.mk 2 0 s []
 | .num n=>.mk 3 n [] []
 | .pair a b=>.mk 4 0 [] [a.tm,b.tm]
def T.e:T->ab
 | .nil=>.agg [.int .i64 0,.int .i64 0,.str [],.slice 4 .no []]
 | .var n=>.agg [.int .i64 1,.int .i64 n,.str [],.slice 4 .no []]
 | .sym s=>.agg [.int .i64 2,.int .i64 0,.str s,.slice 4 .no []]
 | .num n=>.agg [.int .i64 3,.int .i64 n,.str [],.slice 4 .no []]
 | .pair a b=>.agg [.int .i64 4,.int .i64 0,.str [],.slice 4 .no [a.e,b.e]]
theorem qT:∀t:T,enc t.tm=t.e
 | .nil| .var _| .sym _| .num _=>rfl
 | .pair a b=>by simp[T.tm,enc,j3,T.e,qT a,qT b]
def T.kind:T->Int
 | .nil=>0| .var _=>1| .sym _=>2| .num _=>3| .pair _ _=>4
def T.int:T->Int
 | .var n=>n| .num n=>n|_=>0
def T.name:T->List aC
 | .sym s=>s|_=>[]
def T.args:T->List T
 | .pair a b=>[a,b]|_=>[]
theorem T.e_eq(t:T):t.e= .agg [.int .i64 t.kind,.int .i64 t.int,.str t.name,.slice 4 .no (t.args.map T.e)]:=by cases t<;>rfl
@[simp]theorem WU(t:T):ab.agg [.int .i64 t.kind,.int .i64 t.int,.str t.name,.slice 4 .no (t.args.map T.e)]=t.e:=(T.e_eq t).symm
@[simp]theorem WZ:ab.agg [.int .i64 0,.int .i64 0,.str [],.slice 4 .no []]=T.nil.e:=rfl
@[simp]theorem W3(n:Int):ab.agg [.int .i64 1,.int .i64 n,.str [],.slice 4 .no []]=(T.var n).e:=rfl
@[simp]theorem W2(s:List aC):ab.agg [.int .i64 2,.int .i64 0,.str s,.slice 4 .no []]=(T.sym s).e:=rfl
@[simp]theorem W0(n:Int):ab.agg [.int .i64 3,.int .i64 n,.str [],.slice 4 .no []]=(T.num n).e:=rfl
@[simp]theorem W1(a b:T):ab.agg [.int .i64 4,.int .i64 0,.str [],.slice 4 .no [a.e,b.e]]=(T.pair a b).e:=rfl
@[simp]theorem Y1:(T.nil).kind=0:=rfl
@[simp]theorem YD:(T.nil).int=0:=rfl
@[simp]theorem Zn:(T.nil).name=[]:=rfl
@[simp]theorem W4:(T.nil).args=[]:=rfl
@[simp]theorem Y5(n:Int):(T.var n).kind=1:=rfl
@[simp]theorem YH(n:Int):(T.var n).int=n:=rfl
@[simp]theorem Zr(n:Int):(T.var n).name=[]:=rfl
@[simp]theorem W8(n:Int):(T.var n).args=[]:=rfl
@[simp]theorem Y4(s:List aC):(T.sym s).kind=2:=rfl
@[simp]theorem YG(s:List aC):(T.sym s).int=0:=rfl
@[simp]theorem Zq(s:List aC):(T.sym s).name=s:=rfl
@[simp]theorem W7(s:List aC):(T.sym s).args=[]:=rfl
@[simp]theorem Y2(n:Int):(T.num n).kind=3:=rfl
@[simp]theorem YE(n:Int):(T.num n).int=n:=rfl
@[simp]theorem Zo(n:Int):(T.num n).name=[]:=rfl
@[simp]theorem W5(n:Int):(T.num n).args=[]:=rfl
@[simp]theorem Y3(a b:T):(T.pair a b).kind=4:=rfl
@[simp]theorem YF(a b:T):(T.pair a b).int=0:=rfl
@[simp]theorem Zp(a b:T):(T.pair a b).name=[]:=rfl
@[simp]theorem W6(a b:T):(T.pair a b).args=[a,b]:=rfl
@[simp]theorem YY(S:aq->Prop)(t:T):kin S t.e=True:=by rw[<-qT];simp
@[simp]theorem aag(t:T):bC t.e=t.e:=by rw[<-qT];simp
theorem Kg(S:aq->Prop):∀l:List T,kinL S (l.map T.e)
 |[]=>by simp[kinL]
 |x::xs=>by simp[kinL,Kg S xs]
@[simp]theorem YV(S:aq->Prop)(l:List T):kinL S (l.map T.e)=True:=eq_true (Kg S l)
@[simp]theorem Vx:∀l:List T,bz (l.map T.e)=l.map T.e
 |[]=>rfl
 |x::xs=>by simp[bz,Vx xs]
@[simp]theorem ZW(t:T):dP t.e=true:=by rw[T.e_eq];rfl
@[simp]theorem Xu(t:T):cells t.e=[.int .i64 t.kind,.int .i64 t.int,.str t.name,.slice 4 .no (t.args.map T.e)]:=by rw[T.e_eq];rfl
@[simp]theorem YL(t:T):Pv.isAgg 4 t.e:=by rw[T.e_eq];exact⟨_,rfl,rfl⟩
def T.size:T->Nat
 | .pair a b=>1+a.size+b.size
 |_=>1
theorem T.size_pos(t:T):1<=t.size:=by cases t<;>simp[T.size]<;>omega
def low(b:aC):Bool:=decide (97<=b.toNat/\b.toNat<=122)
def ka(b:aC):Bool:=low b||decide (48<=b.toNat/\b.toNat<=57)||b.toNat==45
def gU(s:List aC):Bool:=decide (1<=s.length/\s.length<=12)&&low (s.getD 0 0)&&(s.drop 1).all ka
def T.ok:T->Bool
 | .nil=>true
 | .var n=>decide (0<=n/\n<=100000)
 | .sym s=>gU s
 | .num n=>decide (-1000000000<=n/\n<=1000000000)
 | .pair a b=>a.ok&&b.ok
def jw(k n:Int)(s:List aC):Bool:=if k=0 then n==0&&s==[]else if k=1 then decide (0<=n/\n<=100000)&&s==[]else if k=2 then n==0&&gU s else if k=3 then decide (-1000000000<=n/\n<=1000000000)&&s==[]else false
def eN:aU->Int->Int
 | .mk k n s [a,b],room=>if room<1\/k≠4\/n≠0\/s≠[]then-1 else if eN a (room-1)<0 then-1 else if eN b (room-1-eN a (room-1))<0 then-1 else 1+eN a (room-1)+eN b (room-1-eN a (room-1))
 | .mk k n s args,room=>if room<1\/k=4\/args≠[]\/jw k n s=false then-1 else 1
theorem EI(k n:Int)(s:List aC)(args:List aU)(room:Int):eN (.mk k n s args) room=if room<1 then-1 else if k≠4 then(if args≠[]then-1 else if jw k n s then 1 else-1)else if n≠0\/s≠[]then-1 else match args with
  |[a,b]=>if eN a (room-1)<0 then-1 else if eN b (room-1-eN a (room-1))<0 then-1 else 1+eN a (room-1)+eN b (room-1-eN a (room-1))
  |_=> -1:=by
 match args with
 |[]=>simp only[eN];by_cases I:room<1<;>by_cases aa:k=4<;>by_cases ak:jw k n s=true<;>simp[I,aa,ak]
 |[a]=>simp[eN]
 |[a,b]=>simp only[eN];by_cases I:room<1<;>by_cases aa:k=4<;>simp[I,aa]
 |a::b::c::r=>simp[eN]
theorem EH:∀(t:T) (room:Int),eN t.tm room=if t.ok=true/\(t.size:Int)<=room then(t.size:Int)else-1
 | .nil,room=>by simp[T.tm,eN,T.ok,T.size,jw];split<;>rename_i h<;>simp_all<;>omega
 | .var n,room=>by simp[T.tm,eN,T.ok,T.size,jw];split<;>split<;>simp_all<;>omega
 | .sym s,room=>by simp[T.tm,eN,T.ok,T.size,jw];by_cases I:room<1<;>by_cases aa:gU s=true<;>simp[I,aa]<;>omega
 | .num n,room=>by simp[T.tm,eN,T.ok,T.size,jw];split<;>split<;>simp_all<;>omega
 | .pair a b,room=>by
  have bL:=a.size_pos;have af:=b.size_pos;simp only[T.tm,eN,EH a,EH b,T.ok,T.size,bA];by_cases I:room<1
  ·simp[I];omega
  ·by_cases aa:a.ok=true/\(a.size:Int)<=room-1
   ·rw[if_pos aa];by_cases ak:b.ok=true/\(b.size:Int)<=room-1-a.size
    ·rw[if_pos ak];simp[I,aa.1,ak.1];split<;>omega
    ·rw[be ak];simp[I,aa.1];intro qW;have:=ak;simp[qW]at this;omega
   ·rw[be aa];simp[I];intro QZ;have:=aa;simp[QZ]at this;omega
theorem A7:∀(t:aU) (room:Int),eN t room= -1\/1<=eN t room
 | .mk k n s [a,b],room=>by
  simp only[eN];split
  ·exact .inl rfl
  ·split
   ·exact .inl rfl
   ·split
    ·exact .inl rfl
    ·right;omega
 | .mk k n s [],room=>by simp only[eN];split<;>simp
 | .mk k n s [a],room=>by simp[eN]
 | .mk k n s (a::b::c::r),room=>by simp[eN]
theorem EK:∀(t:aU) (room:Int),0<eN t room->∃x:T,x.tm=t
 | .mk k n s [a,b],room,h=>by
  simp only[eN]at h;split at h
  ·omega
  ·rename_i I;simp only[not_or,Int.not_lt,ne_eq,aat]at I;obtain⟨I,rfl,rfl,rfl⟩:=I;split at h
   ·omega
   ·split at h
    ·omega
    ·obtain⟨x,rfl⟩:=EK a (room-1) (by rcases A7 a (room-1)with h|h<;>omega);obtain⟨y,rfl⟩:=EK b (room-1-eN x.tm (room-1)) (by rcases A7 b (room-1-eN x.tm (room-1))with h|h<;>omega);exact⟨.pair x y,rfl⟩
 | .mk k n s [],room,h=>by
  simp only[eN]at h;split at h
  ·omega
  ·rename_i I;simp only[not_or,ne_eq,not_true_eq_false,not_false_eq_true,true_and,Bool.not_eq_false]at I;obtain⟨_,_,I⟩:=I;unfold jw at I;split at I
   ·rename_i e;subst e;simp at I;obtain⟨rfl,rfl⟩:=I;exact⟨.nil,rfl⟩
   ·split at I
    ·rename_i e;subst e;simp at I;obtain⟨_,rfl⟩:=I;exact⟨.var n,rfl⟩
    ·split at I
     ·rename_i e;subst e;simp at I;obtain⟨rfl,_⟩:=I;exact⟨.sym s,rfl⟩
     ·split at I
      ·rename_i e;subst e;simp at I;obtain⟨_,rfl⟩:=I;exact⟨.num n,rfl⟩
      ·cases I
 | .mk k n s [a],room,h=>by simp[eN]at h
 | .mk k n s (a::b::c::r),room,h=>by simp[eN]at h
theorem EJ:∀(t:aU) (room:Int),eN t room<=room\/eN t room= -1
 | .mk k n s [a,b],room=>by
  simp only[eN];split
  ·exact .inr rfl
  ·split
   ·exact .inr rfl
   ·split
    ·exact .inr rfl
    ·rcases EJ b (room-1-eN a (room-1))with h|h<;>omega
 | .mk k n s [],room=>by simp only[eN];split<;>simp;rename_i h;omega
 | .mk k n s [a],room=>by simp[eN]
 | .mk k n s (a::b::c::r),room=>by simp[eN]
mutual
def aU.sz:aU->Nat
 | .mk _ _ _ a=>1+aU.szL a
def aU.szL:List aU->Nat
 |[]=>0
 |x::xs=>x.sz+aU.szL xs
end
theorem L9:∀{l:List aU} {x:aU},x∈l->x.sz<=aU.szL l
 |y::l,x,h=>by
  rcases gp.1 h with rfl|h
  ·simp[aU.szL]
  ·have:=L9 h;simp[aU.szL];omega
theorem Mb{t x:aU}(h:x∈t.args):x.sz<t.sz:=by cases t;simp[aU.args]at h;have:=L9 h;simp[aU.sz];omega
def T.fit(t:T):Bool:=t.ok&&decide (t.size<=5000)
def aU.fits(t:aU):Bool:=decide (0<eN t 5000)
theorem aU.fits_T(t:T):t.tm.fits=t.fit:=by
 unfold aU.fits T.fit;rw[EH];have:=t.size_pos;by_cases I:t.ok=true<;>by_cases aa:t.size<=5000
 ·rw[if_pos ⟨I,Ω⟩];simp[I,aa];omega
 ·rw[be Ω];simp[aa]
 ·rw[be (by simp[I])];simp[I]
 ·rw[be (by simp[I])];simp[I]
theorem aU.fits_ex{t:aU}(h:t.fits=true):∃x:T,x.tm=t/\x.fit=true:=by obtain⟨x,rfl⟩:=EK t 5000 (by simpa[aU.fits]using h);exact⟨x,rfl,by rw[<-aU.fits_T];exact h⟩
structure ie where
 v:Int
 t:T
 deriving DecidableEq,Inhabited
def ie.e(b:ie):ab:= .agg [.int .i64 b.v,.int .i64 b.t.kind,.int .i64 b.t.int,.str b.t.name,.slice 4 .no (b.t.args.map T.e)]
@[simp]theorem ie.eta(b:ie):ie.mk b.v b.t=b:=rfl
@[simp]theorem WL(v:Int)(t:T):ab.agg [.int .i64 v,.int .i64 t.kind,.int .i64 t.int,.str t.name,.slice 4 .no (t.args.map T.e)]=(ie.mk v t).e:=rfl
@[simp]theorem WM(v:Int):ab.agg [.int .i64 v,.int .i64 0,.int .i64 0,.str [],.slice 4 .no []]=(ie.mk v .nil).e:=rfl
@[simp]theorem WR(v n:Int):ab.agg [.int .i64 v,.int .i64 1,.int .i64 n,.str [],.slice 4 .no []]=(ie.mk v (.var n)).e:=rfl
@[simp]theorem WQ(v:Int)(s:List aC):ab.agg [.int .i64 v,.int .i64 2,.int .i64 0,.str s,.slice 4 .no []]=(ie.mk v (.sym s)).e:=rfl
@[simp]theorem WN(v n:Int):ab.agg [.int .i64 v,.int .i64 3,.int .i64 n,.str [],.slice 4 .no []]=(ie.mk v (.num n)).e:=rfl
@[simp]theorem WO(v:Int)(a b:T):ab.agg [.int .i64 v,.int .i64 4,.int .i64 0,.str [],.slice 4 .no [a.e,b.e]]=(ie.mk v (.pair a b)).e:=rfl
@[simp]theorem ZQ(b:ie):dP b.e=true:=rfl
@[simp]theorem Xq(b:ie):cells b.e=[.int .i64 b.v,.int .i64 b.t.kind,.int .i64 b.t.int,.str b.t.name,.slice 4 .no (b.t.args.map T.e)]:=rfl
@[simp]theorem X7(off:Nat)(er:Bool)(sz:Nat)(b:ie):p2 off er sz b.e=if er then some (off+sz<=5,.agg (([.int .i64 b.v,.int .i64 b.t.kind,.int .i64 b.t.int,.str b.t.name,.slice 4 .no (b.t.args.map T.e)].drop off).take sz))else(([.int .i64 b.v,.int .i64 b.t.kind,.int .i64 b.t.int,.str b.t.name,.slice 4 .no (b.t.args.map T.e)]:List ab)[off]?).map fun p=>(True,p):=rfl
@[simp]theorem XW(off:Nat)(er:Bool)(sz:Nat)(b:ie):mx off er sz (.eptr b.e)=if er then some (off+sz<=5,.eptr (.agg (([.int .i64 b.v,.int .i64 b.t.kind,.int .i64 b.t.int,.str b.t.name,.slice 4 .no (b.t.args.map T.e)].drop off).take sz)))else(([.int .i64 b.v,.int .i64 b.t.kind,.int .i64 b.t.int,.str b.t.name,.slice 4 .no (b.t.args.map T.e)]:List ab)[off]?).map fun p=>(dP p=true/\cells p=[p],.eptr p):=rfl
def T.occ(v:Int):T->Bool
 | .var n=>n==v
 | .pair a b=>a.occ v||b.occ v
 |_=>false
structure pU where
 v:Int
 t:aU
def pU.e(b:pU):ab:= .agg [.int .i64 b.v,.int .i64 b.t.kind,.int .i64 b.t.num,.str b.t.name,.slice 4 .no (b.t.args.map enc)]
@[simp]theorem pU.eta(b:pU):pU.mk b.v b.t=b:=rfl
@[simp]theorem WS(v:Int)(t:aU):ab.agg [.int .i64 v,.int .i64 t.kind,.int .i64 t.num,.str t.name,.slice 4 .no (t.args.map enc)]=(pU.mk v t).e:=rfl
@[simp]theorem ZS(b:pU):dP b.e=true:=rfl
@[simp]theorem Xs(b:pU):cells b.e=[.int .i64 b.v,.int .i64 b.t.kind,.int .i64 b.t.num,.str b.t.name,.slice 4 .no (b.t.args.map enc)]:=rfl
@[simp]theorem X8(off:Nat)(er:Bool)(sz:Nat)(b:pU):p2 off er sz b.e=if er then some (off+sz<=5,.agg (([.int .i64 b.v,.int .i64 b.t.kind,.int .i64 b.t.num,.str b.t.name,.slice 4 .no (b.t.args.map enc)].drop off).take sz))else(([.int .i64 b.v,.int .i64 b.t.kind,.int .i64 b.t.num,.str b.t.name,.slice 4 .no (b.t.args.map enc)]:List ab)[off]?).map fun p=>(True,p):=rfl
@[simp]theorem XX(off:Nat)(er:Bool)(sz:Nat)(b:pU):mx off er sz (.eptr b.e)=if er then some (off+sz<=5,.eptr (.agg (([.int .i64 b.v,.int .i64 b.t.kind,.int .i64 b.t.num,.str b.t.name,.slice 4 .no (b.t.args.map enc)].drop off).take sz)))else(([.int .i64 b.v,.int .i64 b.t.kind,.int .i64 b.t.num,.str b.t.name,.slice 4 .no (b.t.args.map enc)]:List ab)[off]?).map fun p=>(dP p=true/\cells p=[p],.eptr p):=rfl
def Nh(l:List ie)(v:Int):aV T:=(l.find? fun b=>b.v==v).map (·.t)
end
end Go.Pv
namespace Go.Proofs.YtlnndmgfngfeiaaGreatDoor
section
open Go Go.Pv
def SE(s:List aC)(k:Nat)(st:aN):Prop:=∃i:Nat,1<=i/\i<=s.length/\k=s.length-i/\((s.drop 1).all ka=(s.drop i).all ka)/\st=⟨[(0,.str s),(3,.int .i64 i)],[],[],0,[]⟩
theorem FY(s:List aC):b5 aS 170 [.str s] (.bool (gU s)):=by
 refine b5.mk mixed oI Pz TO Ψ (by simp[kin]) fun af=>?_;unfold GV;simp;(with_reducible repeat' first|((first|refine dy (fun h=>?_) fun h=>?_|refine dC (fun h=>?_) fun h=>?_|refine dB (fun h=>?_) fun h=>?_)<;>try simp at h)|refine aI ?_|simp);case refine_1.refine_1.refine_1.refine_2=>
  have uk:gU s=(s.drop 1).all ka:=by simp[gU,low];omega
  rw[uk];refine zH (SE s) (s.length-1) _ ⟨Ψ,by simp[mT],by simp[nL],Ψ⟩ ⟨1,Ω,Ω,rfl,rfl,rfl⟩ ?_;rintro k st ⟨i,lz,xU,J,jJ,rfl⟩ Ja c7;rw[jJ];simp;refine dy (fun bU=>?_) (fun j7=>?_)
  ·simp at bU;have aF:s.drop i=s[i]?.getD 0::s.drop (i+1):=by rw[pR bU];simp[bU]
   simp;(with_reducible repeat' first|((first|refine dy (fun h=>?_) fun h=>?_|refine dC (fun h=>?_) fun h=>?_|refine dB (fun h=>?_) fun h=>?_)<;>try simp at h)|refine aI ?_|simp);all_goals first
    |(simp[ca,Bp,ba,bc,a1,aF,ka,low];omega)
    |(simp only[MZ];refine⟨s.length-(i+1),_,Ω,⟨Ψ,by simp[mT],by simp[nL],Ψ⟩,i+1,Ω,Ω,rfl,?_,rfl⟩;rw[jJ,aF];simp[ka,low];omega)
  ·simp at j7;have:s.drop i=[]:=by simp;omega
   simp[ca,Bp,ba,bc,a1,this]
 all_goals simp[ca,Bp,ba,bc,a1,gU,low]
 all_goals omega
theorem We(m:Nat):∀(t:aU),t.sz<=m->∀(room:Int),0<=room/\room<=10000->b5 aS 150 [enc t,.int .i64 room] (.int .i64 (eN t room)):=by
 induction m with
 |zero=>intro t au;cases t;simp[aU.sz]at au
 |succ m a8=>
 rintro⟨k,n,s,args⟩ au room lC;refine bT oI PG TV fun aQ=>?_;unfold G2;simp[aU.kind,aU.num,aU.name,aU.args];(with_reducible repeat' first|((first|refine dy (fun h=>?_) fun h=>?_|refine dC (fun h=>?_) fun h=>?_|refine dB (fun h=>?_) fun h=>?_)<;>try simp at h)|refine aI ?_|simp);all_goals try refine CallDo.val Ψ (FY _) ?_
 all_goals try simp
 (with_reducible repeat' first|((first|refine dy (fun h=>?_) fun h=>?_|refine dC (fun h=>?_) fun h=>?_|refine dB (fun h=>?_) fun h=>?_)<;>try simp at h)|refine aI ?_|simp);all_goals try simp[ca,Br,ba,bc,a1]
 case succ.refine_2.refine_2.refine_1.refine_1.refine_2=>
  rename_i bN I aa ak;match args,h with
  |[a,b],_=>
  simp[aU.sz,aU.szL]at au;subst I aa ak;simp;(with_reducible repeat' first|((first|refine dy (fun h=>?_) fun h=>?_|refine dC (fun h=>?_) fun h=>?_|refine dB (fun h=>?_) fun h=>?_)<;>try simp at h)|refine aI ?_|simp);refine CallDo.val Ψ (a8 a Ω (room-1) Ω) ?_;simp;have bL:=EJ a (room-1);have vG:=A7 a (room-1);(with_reducible repeat' first|((first|refine dy (fun h=>?_) fun h=>?_|refine dC (fun h=>?_) fun h=>?_|refine dB (fun h=>?_) fun h=>?_)<;>try simp at h)|refine aI ?_|simp)
  ·simp[ca,Br,ba,bc,a1];rw[EI];simp;omega
  ·refine CallDo.val Ψ (a8 b Ω (room-1-eN a (room-1)) Ω) ?_;simp;have af:=EJ b (room-1-eN a (room-1));have dR:=A7 b (room-1-eN a (room-1));(with_reducible repeat' first|((first|refine dy (fun h=>?_) fun h=>?_|refine dC (fun h=>?_) fun h=>?_|refine dB (fun h=>?_) fun h=>?_)<;>try simp at h)|refine aI ?_|simp);all_goals simp[ca,Br,ba,bc,a1]
   all_goals rw[EI];simp;omega
 all_goals rw[EI]
 all_goals simp_all[jw]
 all_goals first|omega|(split<;>simp at h⊢)
theorem Mw(t:aU):b5 aS 77 [enc t] (.bool t.fits):=by refine bT oI PA TP fun aQ=>?_;unfold GW;simp;refine CallDo.val Ψ (We t.sz t (cE _) 5000 Ω) ?_;simp;simp[ca,Lb,ba,bc,a1];simp[aU.fits]
def GY:C:=(al [hW 1 0,mY 2 1] (al [eu (.mkmap 4 (some 304)),eu (.alloc 3 (some 305) (.junk)),bO 1 3 4] (al [cP 5 4 1,a7 6 (.mkf 158 [.t 3]),gA 7 157 5 6] (al [bu 8 1 3,dY 9 160 8,ae 2 9] .ret))))
@[simp] def Ld:List cr:=[.tmp 2]
def Ck:C:=(al [bM 2 false] (.seq (al [ae 3 0] (.block 0 (.seq (al [a7 5 (.bin .eql false (.t 3) (.c (.str [116,114,117,101]))),ae 4 5] (bf 4 .skip (al [a7 6 (.bin .eql false (.t 3) (.c (.str [102,97,105,108]))),ae 4 6] (bf 4 .skip (al [a7 7 (.bin .eql false (.t 3) (.c (.str [115,121,109,98,111,108]))),ae 4 7] (bf 4 .skip (al [a7 8 (.bin .eql false (.t 3) (.c (.str [110,117,109,98,101,114]))),ae 4 8] (bf 4 .skip (al [a7 9 (.bin .eql false (.t 3) (.c (.str [97,98,115,101,110,116]))),ae 4 9] (bf 4 .skip (al [a7 10 (.bin .eql false (.t 3) (.c (.str [97,110,100]))),ae 4 10] (bf 4 .skip (al [a7 11 (.bin .eql false (.t 3) (.c (.str [111,114]))),ae 4 11] (bf 4 .skip (al [a7 12 (.bin .eql false (.t 3) (.c (.str [110,111,116]))),ae 4 12] (bf 4 .skip (.region [a7 13 (.bin .eql false (.t 3) (.c (.str [100,101,102,105,110,101]))),ae 4 13]))))))))))))))))) (bf 4 (al [bM 2 false] .ret) .skip)))) (al [ae 14 0,dY 15 170 14,ae 2 15] .ret)))
@[simp] def UA:List cr:=[.tmp 2]
def GU:C:=(al [hW 1 0,bM 2 false] (al [cP 3 4 1,mf 4 117 [.t 3,(cQ 80)],bd 5 .gtr 4 0,ae 2 5] .ret))
@[simp] def Uz:List cr:=[.tmp 2]
def n9:C:=(al [hW 2 0,cK 4 0] (.seq (al [ae 10 1,bd 11 .lss 10 1,ae 12 11,aM 12 false (bB 13 2 1 2),aM 12 false (bu 14 1 13),aM 12 false (dY 15 183 14),aM 12 false (eQ 16 15),ds 17 12 16] (bf 17 (al [cK 4 (-1)] .ret) .skip)) (al [eu (.mkmap 18 none),eu (.mput .i (.t 18) (cQ 2) (cQ 2)),eu (.mput .i (.t 18) (cQ 3) (cQ 2)),eu (.mput .i (.t 18) (cQ 4) (cQ 1)),eu (.mput .i (.t 18) (cQ 5) (cQ 1)),eu (.mput .i (.t 18) (cQ 6) (cQ 2)),ae 19 18,bB 20 0 1 2,bu 21 1 20,a7 22 (.mget .i (.int .i64 0) false (.t 19) (.t 21)),ae 5 22] (.seq (al [bB 23 0 1 2,bu 24 1 23] (.block 0 (.seq (al [bd 26 .eql 24 0,ae 25 26] (bf 25 .skip (al [bd 27 .eql 24 1,ae 25 27] (bf 25 .skip (al [bd 28 .eql 24 2,ae 25 28] (bf 25 .skip (al [bd 29 .eql 24 3,ae 25 29] (bf 25 .skip (al [bd 30 .eql 24 4,ae 25 30] (bf 25 .skip (al [bd 31 .eql 24 5,ae 25 31] (bf 25 .skip (.region [bd 32 .eql 24 6,ae 25 32]))))))))))))) (bf 25 (.seq (al [bB 33 1 1 2,bu 34 1 33,a7 35 (.bin .neq false (.t 34) (.c (.str []))),ae 36 35,aM 36 false (bB 37 3 1 2),aM 36 false (bu 38 1 37),aM 36 false (dT 39 38),aM 36 false (bd 40 .neq 39 0),ds 41 36 40,ae 42 41,aM 42 false (bB 43 2 1 2),aM 42 false (bu 44 1 43),aM 42 false (dT 45 44),b0 42 false 46 5,aM 42 false (dm 47 .neq 45 46),ds 48 42 47,ae 49 48,aM 49 false (bB 50 0 1 2),aM 49 false (bu 51 1 50),aM 49 false (bd 52 .eql 51 6),b0 49 false 53 52,aM 53 true (bB 54 2 1 2),aM 53 true (bu 55 1 54),aM 53 true (qE 56 4 55 0),aM 53 true (bB 57 0 1 56),aM 53 true (bu 58 1 57),aM 53 true (bd 59 .neq 58 2),aM 49 false (e7 60 53 59),ds 61 49 60] (bf 61 (al [cK 4 (-1)] .ret) .skip)) (al [cK 4 1] .ret)) (al [bd 63 .eql 24 9,ae 62 63] (bf 62 (.seq (al [bB 64 1 1 2,bu 65 1 64,dY 66 103 65,eQ 67 66,ae 68 67,aM 68 false (bB 69 3 1 2),aM 68 false (bu 70 1 69),aM 68 false (dT 71 70),aM 68 false (bd 72 .neq 71 0),ds 73 68 72,ae 74 73,aM 74 false (bB 75 2 1 2),aM 74 false (bu 76 1 75),aM 74 false (dT 77 76),aM 74 false (bd 78 .gtr 77 4),ds 79 74 78] (bf 79 (al [cK 4 (-1)] .ret) .skip)) (al [cK 4 1] .ret)) (.seq (al [bd 81 .eql 24 7,ae 80 81] (bf 80 .skip (.region [bd 82 .eql 24 8,ae 80 82]))) (bf 80 (al [bB 83 1 1 2,bu 84 1 83,a7 85 (.bin .neq false (.t 84) (.c (.str []))),ae 86 85,aM 86 false (bB 87 2 1 2),aM 86 false (bu 88 1 87),aM 86 false (dT 89 88),aM 86 false (bd 90 .neq 89 0),ds 91 86 90,ae 92 91,aM 92 false (bB 93 3 1 2),aM 92 false (bu 94 1 93),aM 92 false (dT 95 94),aM 92 false (bd 96 .gtr 95 8),ds 97 92 96] (bf 97 (al [cK 4 (-1)] .ret) .skip)) (al [bd 99 .eql 24 10,ae 98 99] (bf 98 (al [bB 100 1 1 2,bu 101 1 100,a7 102 (.bin .neq false (.t 101) (.c (.str []))),ae 103 102,aM 103 false (bB 104 2 1 2),aM 103 false (bu 105 1 104),aM 103 false (dT 106 105),aM 103 false (bd 107 .neq 106 0),ds 108 103 107,ae 109 108,aM 109 false (bB 110 3 1 2),aM 109 false (bu 111 1 110),aM 109 false (dT 112 111),aM 109 false (bd 113 .neq 112 1),ds 114 109 113,ae 115 114,aM 115 false (bB 116 3 1 2),aM 115 false (bu 117 1 116),aM 115 false (qE 118 4 117 0),aM 115 false (bB 119 0 1 118),aM 115 false (bu 120 1 119),aM 115 false (bd 121 .neq 120 9),ds 122 115 121] (bf 122 (al [cK 4 (-1)] .ret) .skip)) (al [cK 4 (-1)] .ret))))))))))) (al [cK 6 1] (.seq (al [bB 123 3 1 2,bu 124 1 123,dT 125 124,cK 126 0] (.block 1 (.loop (al [dm 127 .lss 126 125] (.seq (bf 127 .skip (.exit 1)) (.seq (.block 2 (al [e8 128 4 124 126,cP 129 4 128,eu (.alloc 8 none (.agg [.int .i64 0,.str [],.slice 4 .nil [],.slice 4 .nil []])),bO 4 8 129] (al [cP 130 4 8,ae 131 1,ae 132 6,dm 133 .sub 131 132,gA 134 117 130 133,ae 9 134] (.seq (al [ae 135 9,bd 136 .lss 135 0] (bf 136 (al [cK 4 (-1)] .ret) .skip)) (.region [ae 137 6,ae 138 9,dm 139 .add 137 138,ae 6 139]))))) (.region [bd 140 .add 126 1,ae 126 140]))))))) (al [ae 141 6,ae 4 141] .ret)))))))
@[simp] def qs:List cr:=[.tmp 4]
def GX:C:=(al [hW 2 0] (al [ae 6 1,cP 7 4 2,MP 8 6 [.t 7]] (al [bB 9 3 1 2,bu 10 1 9,dT 11 10,cK 12 0] (pN 13 12 11 (.seq (.block 1 (al [e8 14 4 10 12,cP 15 4 14,eu (.alloc 5 none (.agg [.int .i64 0,.str [],.slice 4 .nil [],.slice 4 .nil []])),bO 4 5 15] (.region [cP 16 4 5,ae 17 1,gA 18 157 16 17]))) (.region [bd 19 .add 12 1,ae 12 19]))))))
@[simp] def Lc:List cr:=[]
def GZ:C:=(al [hW 2 0] (al [bB 5 2 1 2,bu 6 1 5,dT 7 6,cK 8 0] (pN 9 8 7 (.seq (.block 1 (al [e8 10 4 6 8,cP 11 4 10,hv 4 dE,bO 4 4 11] (.region [cP 12 4 4,a7 13 (.mkf 159 [.t 1]),gA 14 79 12 13]))) (.region [bd 15 .add 8 1,ae 8 15])))))
@[simp] def Le:List cr:=[]
def G0:C:=(.region [bu 3 1 1,ae 4 0,eu (.mput .i (.t 3) (.t 4) (.c (.bool true)))])
@[simp] def Lf:List cr:=[]
def tt:List (Nat×cm):=[
 (3,⟨1,8,.int .i64,.int .i64 0⟩),
 (9,⟨1,16,.str,.str []⟩),
 (38,⟨1,24,.slice 40,.slice 4 .nil []⟩),
 (40,⟨4,56,.struct [(0,3),(1,3),(2,9),(3,38)],.agg [.int .i64 0,.int .i64 0,.str [],.slice 4 .nil []]⟩),
 (63,⟨1,24,.slice 65,.slice 4 .nil []⟩),
 (65,⟨4,72,.struct [(0,3),(1,9),(2,38),(3,63)],.agg [.int .i64 0,.str [],.slice 4 .nil [],.slice 4 .nil []]⟩),
 (70,⟨1,24,.slice 9,.slice 1 .nil []⟩),
 (136,⟨1,24,.slice 3,.slice 1 .nil []⟩),
 (180,⟨1,8,.map 3 9,.junk⟩),
 (199,⟨1,8,.map 3 4,.junk⟩),
 (219,⟨1,8,.map 3 3,.junk⟩)]
theorem kM:dJ aS tt=true:=by kernel_rfl
theorem TR:c6 tt GY Ld 1 Tryz.f90=true:=by kernel_rfl
theorem PC:aS.funcs[(90:Nat)]? =some Tryz.f90:=Tryz.func90
theorem KP:c6 tt Ck UA 1 Tryz.f103=true:=by kernel_rfl
theorem Ia:aS.funcs[(103:Nat)]? =some Tryz.f103:=Tryz.func103
theorem TN:c6 tt GU Uz 1 Tryz.f115=true:=by kernel_rfl
theorem Py:aS.funcs[(115:Nat)]? =some Tryz.f115:=Tryz.func115
theorem pE:c6 tt n9 qs 2 Tryz.f117=true:=by kernel_rfl
theorem o0:aS.funcs[(117:Nat)]? =some Tryz.f117:=Tryz.func117
theorem TQ:c6 tt GX Lc 2 Tryz.f157=true:=by kernel_rfl
theorem PB:aS.funcs[(157:Nat)]? =some Tryz.f157:=Tryz.func157
theorem TS:c6 tt GZ Le 2 Tryz.f158=true:=by kernel_rfl
theorem PD:aS.funcs[(158:Nat)]? =some Tryz.f158:=Tryz.func158
theorem TT:c6 tt G0 Lf 2 Tryz.f159=true:=by kernel_rfl
theorem PE:aS.funcs[(159:Nat)]? =some Tryz.f159:=Tryz.func159
end
end Go.Proofs.YtlnndmgfngfeiaaGreatDoor
namespace Go.Pv
section
open Go Go.Lib
theorem KZ:∀(a b:List aC) (acc:Nat),parseUint10 acc (a++b)=match parseUint10 acc a with| .ok v=>parseUint10 v b|x=>x
 |[],b,acc=>rfl
 |c::r,b,acc=>by
  simp only[eI,parseUint10];split
  ·split
   ·rfl
   ·split
    ·rfl
    ·exact KZ r b _
  ·rfl
theorem pZ{u:Nat}(h:u<10):decDigits u=[lP (48+u)]:=by rw[decDigits,dif_pos h]
theorem sb{u:Nat}(h:10<=u):decDigits u=decDigits (u/10)++[lP (48+u%10)]:=by rw[decDigits,dif_neg Ω]
theorem xv{d:Nat}(h:d<10):(lP (48+d)).toNat=48+d:=by rw[UInt8.toNat_ofNat'];omega
theorem Ur(u:Nat)(h:u<18446744073709551616):parseUint10 0 (decDigits u)= .ok u:=by
 induction u using Nat.strongRecOn with
 |_ u a8=>
  have step:∀v d,d<10->v*10+d<18446744073709551616->parseUint10 v [lP (48+d)]= .ok (v*10+d):=by intro v d aF aL;simp only[parseUint10,xv aF];rw[if_pos Ω,be Ω,be Ω];congr 1;omega
  by_cases hu:u<10
  ·rw[pZ hu,step 0 u hu Ω];congr 1;omega
  ·rw[sb Ω,KZ,a8 (u/10) Ω Ω];simp only;rw[step _ _ (Nat.mod_lt _ Ω) Ω];congr 1;omega
theorem ng(u:Nat):decDigits u≠[]:=by
 by_cases hu:u<10
 ·rw[pZ hu];simp
 ·rw[sb Ω];simp
theorem Cz(u:Nat):∀c∈decDigits u,48<=c.toNat/\c.toNat<=57:=by
 induction u using Nat.strongRecOn with
 |_ u a8=>
  by_cases hu:u<10
  ·rw[pZ hu];intro c az;rw[List.mem_singleton.1 az,xv hu];omega
  ·rw[sb Ω];intro c az;rcases ha.1 az with h|h
   ·exact a8 _ Ω c h
   ·rw[List.mem_singleton.1 h,xv (Nat.mod_lt _ Ω)];omega
theorem KY{u:Nat}(h:u<18446744073709551616):parseMag (decDigits u)= .ok u:=by unfold parseMag;rw[be (ng u)];exact Ur u h
theorem Nb{n:Int}(h:bm n):atoiAll (itoa n)= .ok n:=by
 unfold bm at h;unfold itoa;by_cases aR:n<0
 ·rw[if_pos aR];simp only[atoiAll];rw[if_pos Ψ,KY Ω];simp only;rw[be Ψ,be (by simp;omega),if_pos Ψ];congr 1;omega
 ·rw[be aR];obtain⟨c,r,az⟩:∃c r,decDigits n.toNat=c::r:=by
   cases aF:decDigits n.toNat with
   |nil=>exact absurd aF (ng _)
   |cons c r=>exact⟨c,r,rfl⟩
  have hm:=Cz n.toNat c (by rw[az];simp);have aY:=KY (u:=n.toNat) Ω;rw[az]at aY⊢;simp only[atoiAll];rw[be Ω,aY];simp only;rw[be Ω,be Ω,be Ω];congr 1;omega
theorem Na{s:List aC}{n:Int}(h:atoiAll s= .ok n):bm n:=by
 unfold atoiAll at h;unfold bm;split at h
 ·cases h
 ·rename_i c r;simp only at h;split at h
  ·cases h
  ·cases h
  ·split at h
   ·cases h
   ·split at h
    ·cases h
    ·injection h with h;split at h<;>omega
def gQ(s:List aC):aV Int:=match atoiAll s with
 | .ok n=>if itoa n=s then some n else none
 |_=>none
theorem Bj{s:List aC}{n:Int}:gQ s=some n↔bm n/\itoa n=s:=by
 unfold gQ;constructor
 ·intro h;rcases bL:atoiAll s with m|_|_
  ·rw[bL]at h;simp only at h;split at h
   ·rename_i e;cases h;exact⟨Na bL,e⟩
   ·cases h
  ·rw[bL]at h;cases h
  ·rw[bL]at h;cases h
 ·rintro⟨I,rfl⟩;rw[Nb I];simp
theorem pG{s:List aC}(h:∀n,bm n->itoa n≠s):gQ s=none:=by
 cases aY:gQ s with
 |none=>rfl
 |some n=>exact absurd (Bj.1 aY).2 (h n (Bj.1 aY).1)
theorem HP:∀(k u:Nat),u<10 ^ k->(decDigits u).length<=max k 1
 |0,u,h=>by rw[pZ (by simpa using Nat.lt_of_lt_of_le h Ψ)];simp
 |k+1,u,h=>by
  by_cases hu:u<10
  ·rw[pZ hu];simp
  ·rw[sb Ω];have:=HP k (u/10) (by rw[Nat.pow_succ]at h;omega);simp;have:k≠0:=fun e=>by subst e;simp at h;omega
   omega
def lX(c:aC):Bool:=c==32||c==10||c==40||c==41||c==59
def mO(c:aC):Bool:= !(c==10)
def h4(c:aC):Bool:= !lX c
theorem zC{α:Type}(p:α->Bool):∀l:List α,(l.dropWhile p).length<=l.length
 |[]=>by simp
 |x::r=>by
  simp only[List.dropWhile];split
  ·have:=zC p r;simp;omega
  ·simp
def fP:List aC->List (List aC)
 |[]=>[]
 |c::r=>if c=32\/c=10 then fP r else if c=59 then fP (r.dropWhile mO)else if c=40\/c=41 then [c]::fP r else(c::r.takeWhile h4)::fP (r.dropWhile h4)
termination_by l=>l.length
decreasing_by
 all_goals simp
 all_goals exact Nat.lt_succ_of_le (zC _ _)
theorem BW:fP []=[]:=by rw[fP]
theorem BV(c:aC)(r:List aC):fP (c::r)=if c=32\/c=10 then fP r else if c=59 then fP (r.dropWhile mO)else if c=40\/c=41 then [c]::fP r else(c::r.takeWhile h4)::fP (r.dropWhile h4):=by rw[fP]
def pD(c:aC):Bool:=c==10||(decide (32<=c.toNat)&&decide (c.toNat<=126))
def hs(s:List aC):aV (List (List aC)):=if s.length<=100000/\(∀c∈s,pD c=true)/\(fP s).length<=20000 then some (fP s)else none
theorem fZ{α:Type}{l:List α}{i:Nat}{x:α}(h:l[i]? =some x):l.drop i=x::l.drop (i+1):=by obtain⟨aB,rfl⟩:=fG.1 h;exact pR aB
theorem y7:∀(n:Nat) (s:List aC),s.length<=n->∀t∈fP s,t≠[]
 |_,[],_=>by simp[BW]
 |0,_::_,h=>by simp at h
 |n+1,c::r,h=>by
  rw[BV];simp at h;have I:=zC mO r;have aa:=zC h4 r;split
  ·exact y7 n r h
  ·split
   ·exact y7 n _ Ω
   ·split
    ·intro t au;rcases gp.1 au with rfl|au
     ·simp
     ·exact y7 n r h t au
    ·intro t au;rcases gp.1 au with rfl|au
     ·simp
     ·exact y7 n _ Ω t au
def gv:List T->T->T
 |[],t=>t
 |x::r,t=>.pair x (gv r t)
theorem Ta(a b:List T)(t:T):gv (a++b) t=gv a (gv b t):=by
 induction a with
 |nil=>rfl
 |cons x r a8=>simp[gv,a8]
def fR(w:List aC):aV T:=
 match w with
 |63::r=>match gQ r with
  |some n=>if 0<=n/\n<=100000 then some (.var n)else none
  |none=>none
 |w=>if gU w then some (.sym w)else(gQ w).map .num
mutual
def rd(at':List aC->aV T):Nat->List (List aC)->aV (T×List (List aC))
 |0,_=>none
 |_+1,[]=>none
 |n+1,w::r=>if w=[40]then bR at' n r []else if w=[41]\/w=[46]then none else(at' w).map fun t=>(t,r)
def bR(at':List aC->aV T):Nat->List (List aC)->List T->aV (T×List (List aC))
 |0,_,_=>none
 |_+1,[],_=>none
 |n+1,w::r,acc=>if w=[41]then some (gv acc .nil,r)
  else if w=[46]then(if acc=[]then none else match rd at' n r with
   |some (t,v::cv)=>if v=[41]then some (gv acc t,cv)else none
   |_=>none)
  else match rd at' n (w::r)with
   |some (t,cv)=>bR at' n cv (acc++[t])
   |none=>none
end
mutual
theorem qt{at':List aC->aV T}:∀(n:Nat) (l:List (List aC)) (t:T) (r:List (List aC)),rd at' n l=some (t,r)->r<:+l/\r.length<l.length
 |0,_,_,_,h=>by simp[rd]at h
 |_+1,[],_,_,h=>by simp[rd]at h
 |n+1,w::l,t,r,h=>by
  simp only[rd]at h;split at h
  ·obtain⟨I,aa⟩:=JY n l [] t r h;exact⟨I.trans (List.suffix_cons _ _),by simp;omega⟩
  ·split at h
   ·cases h
   ·cases bL:at' w with
    |none=>rw[bL]at h;cases h
    |some x=>rw[bL]at h;cases h;exact⟨List.suffix_cons _ _,Ψ⟩
theorem JY{at':List aC->aV T}:∀(n:Nat) (l:List (List aC)) (acc:List T) (t:T) (r:List (List aC)),bR at' n l acc=some (t,r)->r<:+l/\r.length<l.length
 |0,_,_,_,_,h=>by simp[bR]at h
 |_+1,[],_,_,_,h=>by simp[bR]at h
 |n+1,w::l,acc,t,r,h=>by
  simp only[bR]at h;split at h
  ·cases h;exact⟨List.suffix_cons _ _,Ψ⟩
  ·split at h
   ·split at h
    ·cases h
    ·split at h
     ·rename_i x v cv hr;split at h
      ·cases h;obtain⟨I,aa⟩:=qt n l x (v::r) hr;simp at aa;exact⟨((List.suffix_cons _ _).trans I).trans (List.suffix_cons _ _),by simp;omega⟩
      ·cases h
     ·cases h
   ·split at h
    ·rename_i x cv hr;obtain⟨I,aa⟩:=qt n (w::l) x cv hr;obtain⟨ak,aK⟩:=JY n cv _ t r h;exact⟨ak.trans I,Ω⟩
    ·cases h
end
theorem Oa{α:Type}{l r:List α}(h:r<:+l):l.drop (l.length-r.length)=r:=by obtain⟨p,rfl⟩:=h;simp
def H0:List aC->Prop
 |[]=>True
 |c::_=>lX c=true
theorem D2(c:aC):h4 c=true↔ ¬(c=32\/c=10)/\¬c=59/\¬(c=40\/c=41):=by unfold h4 lX;simp;grind
theorem KJ{s:List aC}(h:gU s=true):∃c r,s=c::r/\low c=true/\(∀x∈r,ka x=true)/\r.length<=11:=by
 unfold gU at h;simp only[bA,fH,kj]at h;cases s with
 |nil=>simp at h
 |cons c r=>exact⟨c,r,rfl,by simpa using h.1.2,by simpa using h.2,by have:=h.1.1.2;simp at this;omega⟩
inductive Gm where
 |mk (kind:Int) (name:List aC) (ts:List aU) (gs:List Gm)
 deriving Inhabited
def Gm.kind:Gm->Int| .mk k _ _ _=>k
def Gm.name:Gm->List aC| .mk _ s _ _=>s
def Gm.ts:Gm->List aU| .mk _ _ t _=>t
def Gm.gs:Gm->List Gm| .mk _ _ _ g=>g
mutual
def nm:Gm->ab
 | .mk k s t g=>.agg [.int .i64 k,.str s,.slice 4 .no (t.map enc),.slice 4 .no (ks g)]
def ks:List Gm->List ab
 |[]=>[]
 |x::xs=>nm x::ks xs
end
def Gm.e(g:Gm):ab:=nm g
theorem zX:∀l,ks l=l.map Gm.e
 |[]=>rfl
 |x::xs=>by simp[ks,zX xs,Gm.e]
theorem Gm.e_eq(g:Gm):g.e= .agg [.int .i64 g.kind,.str g.name,.slice 4 .no (g.ts.map enc),.slice 4 .no (g.gs.map Gm.e)]:=by cases g;simp[Gm.e,nm,zX,Gm.kind,Gm.name,Gm.ts,Gm.gs]
mutual
theorem Ki(S:aq->Prop):∀g:Gm,kin S (nm g)
 | .mk k s t g=>by simp[nm,kin,kinL,Eg S g]
theorem Eg(S:aq->Prop):∀l:List Gm,kinL S (ks l)
 |[]=>by simp[ks,kinL]
 |x::xs=>by simp[ks,kinL,Ki S x,Eg S xs]
end
mutual
theorem L6:∀g:Gm,bC (nm g)=nm g
 | .mk k s t g=>by simp[nm,bC,bz,FE g]
theorem FE:∀l:List Gm,bz (ks l)=ks l
 |[]=>by simp[ks,bz]
 |x::xs=>by simp[ks,bz,L6 x,FE xs]
end
@[simp]theorem Y0(S:aq->Prop)(g:Gm):kin S g.e=True:=eq_true (Ki S g)
@[simp]theorem YX(S:aq->Prop)(l:List Gm):kinL S (l.map Gm.e)=True:=by rw[<-zX];exact eq_true (Eg S l)
@[simp]theorem aah(g:Gm):bC g.e=g.e:=L6 g
@[simp]theorem aae(l:List Gm):bz (l.map Gm.e)=l.map Gm.e:=by rw[<-zX];exact FE l
@[simp]theorem Z1(g:Gm):dP g.e=true:=by rw[Gm.e_eq];rfl
@[simp]theorem Xz(g:Gm):cells g.e=[.int .i64 g.kind,.str g.name,.slice 4 .no (g.ts.map enc),.slice 4 .no (g.gs.map Gm.e)]:=by rw[Gm.e_eq];rfl
@[simp]theorem WX(g:Gm):ab.agg [.int .i64 g.kind,.str g.name,.slice 4 .no (g.ts.map enc),.slice 4 .no (g.gs.map Gm.e)]=g.e:=(Gm.e_eq g).symm
@[simp]theorem X1(off:Nat)(er:Bool)(sz:Nat)(g:Gm):mx off er sz (.eptr g.e)=if er then some (off+sz<=4,.eptr (.agg (([.int .i64 g.kind,.str g.name,.slice 4 .no (g.ts.map enc),.slice 4 .no (g.gs.map Gm.e)].drop off).take sz)))else(([.int .i64 g.kind,.str g.name,.slice 4 .no (g.ts.map enc),.slice 4 .no (g.gs.map Gm.e)]:List ab)[off]?).map fun p=>(dP p=true/\cells p=[p],.eptr p):=by rw[Gm.e_eq];rfl
@[simp]theorem YN(g:Gm):Pv.isAgg 4 g.e:=by rw[Gm.e_eq];exact⟨_,rfl,rfl⟩
def gX:List aC:=[116,114,117,101]
def hN:List aC:=[102,97,105,108]
def wY:List aC:=[61]
def wX:List aC:=[47,61]
def rW:List aC:=[115,121,109,98,111,108]
def rU:List aC:=[110,117,109,98,101,114]
def rR:List aC:=[97,98,115,101,110,116]
def rS:List aC:=[97,110,100]
def rV:List aC:=[111,114]
def rT:List aC:=[110,111,116]
def F7:List aC:=[100,101,102,105,110,101]
def iw:List (List aC):=[gX,hN,rW,rU,rR,rS,rV,rT,F7]
def iq(s:List aC):Bool:= !iw.contains s&&gU s
def jT(k:Int):Int:=if k=2 then 2 else if k=3 then 2 else if k=4 then 1 else if k=5 then 1 else if k=6 then 2 else 0
mutual
def Gm.sz:Gm->Nat
 | .mk _ _ _ g=>1+mz g
def mz:List Gm->Nat
 |[]=>0
 |x::xs=>x.sz+mz xs
end
theorem IY{x:Gm}:∀{l:List Gm},x∈l->x.sz<=mz l
 |[],h=>by simp at h
 |y::l,h=>by
  simp only[mz];rcases gp.1 h with rfl|h
  ·omega
  ·have:=IY h;omega
theorem Gm.gs_lt{g x:Gm}(h:x∈g.gs):x.sz<g.sz:=by
 cases g with
 |mk k s t gs=>have:=IY (l:=gs) h;simp only[Gm.sz];omega
theorem Gm.sz_pos(g:Gm):1<=g.sz:=by cases g;simp[Gm.sz]
mutual
def Gm.shape:Gm->Bool
 | .mk k s t g=>t.all aU.fits&&(
  if 0<=k/\k<=6 then s==[]&&g.isEmpty&&decide ((t.length:Int)=jT k)&&(k !=6||(match t with|x::_=>decide (x.kind=2)|[]=>false))
  else if k=9 then iq s&&g.isEmpty&&decide (t.length<=4)
  else if k=7\/k=8 then s==[]&&t.isEmpty&&decide (g.length<=8)&&uR g
  else if k=10 then s==[]&&t.isEmpty&&(match g with|[x]=>decide (x.kind=9)|_=>false)&&uR g
  else false)
def uR:List Gm->Bool
 |[]=>true
 |x::xs=>x.shape&&uR xs
end
def Gm.fits(n:Nat)(g:Gm):Bool:=g.shape&&decide (g.sz<=n)
def l2(w:List aC):aV Int:=if w=wY then some 2 else if w=wX then some 3 else if w=rW then some 4 else if w=rU then some 5 else if w=rR then some 6 else if w=rS then some 7 else if w=rV then some 8 else if w=rT then some 10 else none
def jb(k:Int):Bool:=k==7||k==8||k==10
mutual
def en(tr:List (List aC)->aV (T×List (List aC)))(aF:List aC->aV (Int×List aC)):Nat->List (List aC)->aV (Gm×List (List aC))
 |0,_=>none
 |_+1,[]=>none
 |n+1,w::r=>if w=gX then some (.mk 0 [] [] [],r)else if w=hN then some (.mk 1 [] [] [],r)
  else if w=[40]then(match r with
   |[]=>none
   |h::cv=>match aF h with
    |some (k,s)=>dO tr aF n k s [] [] cv
    |none=>none)
  else none
def dO(tr:List (List aC)->aV (T×List (List aC)))(aF:List aC->aV (Int×List aC)):Nat->Int->List aC->List T->List Gm->List (List aC)->aV (Gm×List (List aC))
 |0,_,_,_,_,_=>none
 |_+1,_,_,_,_,[]=>none
 |n+1,k,s,ts,gs,w::r=>if w=[41]then(if 1<k then some (.mk k s (ts.map T.tm) gs,r)else none)
  else if jb k then(match en tr aF n (w::r)with
   |some (g,cv)=>dO tr aF n k s ts (gs++[g]) cv
   |none=>none)
  else match tr (w::r)with
   |some (t,cv)=>dO tr aF n k s (ts++[t]) gs cv
   |none=>none
end
def BX(tr:List (List aC)->aV (T×List (List aC))):Prop:= ∀l t r,tr l=some (t,r)->r<:+l/\r.length<l.length
mutual
theorem wE{tr:List (List aC)->aV (T×List (List aC))}(au:BX tr){aF:List aC->aV (Int×List aC)}:∀(n:Nat) (l:List (List aC)) (g:Gm) (r:List (List aC)),en tr aF n l=some (g,r)->r<:+l/\r.length<l.length
 |0,_,_,_,h=>by simp[en]at h
 |_+1,[],_,_,h=>by simp[en]at h
 |n+1,w::l,g,r,h=>by
  simp only[en]at h;split at h
  ·cases h;exact⟨List.suffix_cons _ _,Ψ⟩
  ·split at h
   ·cases h;exact⟨List.suffix_cons _ _,Ψ⟩
   ·split at h
    ·split at h
     ·cases h
     ·split at h
      ·obtain⟨I,aa⟩:=E7 au n _ _ _ _ _ g r h;exact⟨(I.trans (List.suffix_cons _ _)).trans (List.suffix_cons _ _),by simp;omega⟩
      ·cases h
    ·cases h
theorem E7{tr:List (List aC)->aV (T×List (List aC))}(au:BX tr){aF:List aC->aV (Int×List aC)}:∀(n:Nat) (k:Int) (s:List aC) (ts:List T) (gs:List Gm) (l:List (List aC)) (g:Gm) (r:List (List aC)),dO tr aF n k s ts gs l=some (g,r)->r<:+l/\r.length<l.length
 |0,_,_,_,_,_,_,_,h=>by simp[dO]at h
 |_+1,_,_,_,_,[],_,_,h=>by simp[dO]at h
 |n+1,k,s,ts,gs,w::l,g,r,h=>by
  simp only[dO]at h;split at h
  ·split at h
   ·cases h;exact⟨List.suffix_cons _ _,Ψ⟩
   ·cases h
  ·split at h
   ·split at h
    ·rename_i x cv hr;obtain⟨I,aa⟩:=wE au n (w::l) x cv hr;obtain⟨ak,aK⟩:=E7 au n _ _ _ _ _ g r h;exact⟨ak.trans I,Ω⟩
    ·cases h
   ·split at h
    ·rename_i x cv hr;obtain⟨I,aa⟩:=au (w::l) x cv hr;obtain⟨ak,aK⟩:=E7 au n _ _ _ _ _ g r h;exact⟨ak.trans I,Ω⟩
    ·cases h
end
def gD(w:List aC):aV T:=match fR w with
 |some t=>if t.ok then some t else none
 |none=>none
theorem yq:∀(a:List T) (t:T),(gv a t).ok=(a.all T.ok&&t.ok)
 |[],t=>by simp[gv]
 |x::r,t=>by simp[gv,T.ok,yq r t,Bool.and_assoc]
theorem JW:∀(n:Nat) (l:List (List aC)) (acc:List T) (t:T) (r:List (List aC)),bR fR n l acc=some (t,r)->t.ok=true->acc.all T.ok=true
 |0,_,_,_,_,h,_=>by simp[bR]at h
 |_+1,[],_,_,_,h,_=>by simp[bR]at h
 |n+1,w::l,acc,t,r,h,ag=>by
  simp only[bR]at h;split at h
  ·cases h;rw[yq]at ag;simp only[bA]at ag;exact ag.1
  ·split at h
   ·split at h
    ·cases h
    ·split at h
     ·split at h
      ·cases h;rw[yq]at ag;simp only[bA]at ag;exact ag.1
      ·cases h
     ·cases h
   ·split at h
    ·have:=JW n _ _ t r h ag;simp only[List.all_append,bA]at this;exact this.1
    ·cases h
def l9:aV (T×List (List aC))->aV (T×List (List aC))
 |some (t,r)=>if t.ok then some (t,r)else none
 |none=>none
mutual
theorem Bw:∀(n:Nat) (l:List (List aC)),rd gD n l=l9 (rd fR n l)
 |0,_=>by simp[rd,l9]
 |_+1,[]=>by simp[rd,l9]
 |n+1,w::l=>by
  simp only[rd];split
  ·exact JX n l [] rfl
  ·split
   ·rfl
   ·unfold gD;cases fR w with
    |none=>rfl
    |some t=>by_cases h:t.ok=true<;>simp[l9,h]
theorem JX:∀(n:Nat) (l:List (List aC)) (acc:List T),acc.all T.ok=true->bR gD n l acc=l9 (bR fR n l acc)
 |0,_,_,_=>by simp[bR,l9]
 |_+1,[],_,_=>by simp[bR,l9]
 |n+1,w::l,acc,bL=>by
  simp only[bR];split
  ·simp[l9,yq,bL,T.ok]
  ·split
   ·split
    ·rfl
    ·rw[Bw n l];cases hr:rd fR n l with
     |none=>rfl
     |some x=>
      obtain⟨t,r⟩:=x;cases r with
      |nil=>by_cases h:t.ok=true<;>simp[l9,h]
      |cons v cv=>by_cases h:t.ok=true<;>by_cases aL:v=[41]<;>simp[l9,h,aL,yq,bL]
   ·rw[Bw n (w::l)];cases hr:rd fR n (w::l)with
    |none=>rfl
    |some x=>
     obtain⟨t,r⟩:=x;by_cases h:t.ok=true
     ·simp only[l9,h,if_true];exact JX n r _ (by simp[bL,h])
     ·simp only[l9,h,ia,if_false];cases aB:bR fR n r (acc++[t])with
      |none=>rfl
      |some y=>
       obtain⟨u,fB⟩:=y;by_cases hu:u.ok=true
       ·have:=JW n r _ u fB aB hu;simp at this;exact absurd this.2 h
       ·simp[l9,hu]
end
def eo(l:List (List aC)):aV (T×List (List aC)):=match rd fR (2*l.length+1) l with
 |some (t,r)=>if t.fit then some (t,r)else none
 |none=>none
def hL(l:List (List aC)):aV (T×List (List aC)):=rd gD (2*l.length+1) l
theorem CX{t:T}(h:t.fit=true):t.ok=true:=by unfold T.fit at h;simp only[bA]at h;exact h.1
theorem VJ{l:List (List aC)}{t:T}{r:List (List aC)}(h:eo l=some (t,r)):hL l=some (t,r)/\t.fit=true:=by
 unfold eo at h;unfold hL;rw[Bw];cases hr:rd fR (2*l.length+1) l with
 |none=>rw[hr]at h;cases h
 |some x=>
  obtain⟨u,cv⟩:=x;rw[hr]at h;simp only at h;split at h
  ·rename_i aH;cases h;simp[l9,CX aH,aH]
  ·cases h
theorem VK{l:List (List aC)}{t:T}{r:List (List aC)}(h:hL l=some (t,r))(aH:t.fit=true):eo l=some (t,r):=by
 unfold hL at h;unfold eo;rw[Bw]at h;cases hr:rd fR (2*l.length+1) l with
 |none=>rw[hr]at h;cases h
 |some x=>
  obtain⟨u,cv⟩:=x;rw[hr]at h;simp only[l9]at h;split at h
  ·cases h;simp[aH]
  ·cases h
theorem FP:BX eo:=fun l t r h=>by
 unfold eo at h;split at h
 ·rename_i x y hr;split at h
  ·cases h;exact qt _ _ _ _ hr
  ·cases h
 ·cases h
theorem y8:BX hL:=fun l t r h=>qt _ _ _ _ h
def eA(h:List aC):aV (Int×List aC):=match l2 h with
 |some k=>some (k,[])
 |none=>if iq h then some (9,h)else none
def hdS(h:List aC):aV (Int×List aC):=if h=gX then some (0,[])else if h=hN then some (1,[])else match l2 h with
 |some k=>some (k,[])
 |none=>some (9,h)
theorem Rf{h:List aC}{x:Int×List aC}(e:eA h=some x):hdS h=some x:=by
 unfold eA at e;unfold hdS;have I:h≠gX:=by rintro rfl;revert e;simp[l2,gX,wY,wX,rW,rU,rR,rS,rV,rT,iq,iw]
 have aa:h≠hN:=by rintro rfl;revert e;simp[l2,hN,wY,wX,rW,rU,rR,rS,rV,rT,iq,iw,gX]
 rw[be I,be aa];cases J:l2 h with
 |some k=>rw[J]at e;exact e
 |none=>
  rw[J]at e;simp only at e⊢;split at e
  ·exact e
  ·cases e
mutual
theorem Lr:∀(n:Nat) (l:List (List aC)) (g:Gm) (r:List (List aC)),en eo eA n l=some (g,r)->en hL hdS n l=some (g,r)
 |0,_,_,_,h=>by simp[en]at h
 |_+1,[],_,_,h=>by simp[en]at h
 |n+1,w::l,g,r,h=>by
  simp only[en]at h⊢;split at h
  ·rename_i e;rw[if_pos e];exact h
  ·rename_i ah;rw[be ah];split at h
   ·rename_i e;rw[if_pos e];exact h
   ·rename_i aE;rw[be aE];split at h
    ·rename_i bg;rw[if_pos bg];cases l with
     |nil=>exact h
     |cons v l=>
      simp only at h⊢;cases bq:eA v with
      |none=>rw[bq]at h;cases h
      |some x=>obtain⟨k,s⟩:=x;rw[bq]at h;rw[Rf bq];exact E5 n k s [] [] l g r h
    ·cases h
theorem E5:∀(n:Nat) (k:Int) (s:List aC) (ts:List T) (gs:List Gm) (l:List (List aC)) (g:Gm) (r:List (List aC)),dO eo eA n k s ts gs l=some (g,r)->dO hL hdS n k s ts gs l=some (g,r)
 |0,_,_,_,_,_,_,_,h=>by simp[dO]at h
 |_+1,_,_,_,_,[],_,_,h=>by simp[dO]at h
 |n+1,k,s,ts,gs,w::l,g,r,h=>by
  simp only[dO]at h⊢;split at h
  ·rename_i e;rw[if_pos e];exact h
  ·rename_i e;rw[be e];split at h
   ·rename_i aR;rw[if_pos aR];cases hr:en eo eA n (w::l)with
    |none=>rw[hr]at h;cases h
    |some x=>obtain⟨dH,cv⟩:=x;rw[hr]at h;rw[Lr n _ _ _ hr];exact E5 n k s ts _ cv g r h
   ·rename_i aR;rw[be aR];cases hr:eo (w::l)with
    |none=>rw[hr]at h;cases h
    |some x=>obtain⟨t',cv⟩:=x;rw[hr]at h;rw[(VJ hr).1];exact E5 n k s _ gs cv g r h
end
theorem yM{tr:List (List aC)->aV (T×List (List aC))}{aF:List aC->aV (Int×List aC)}:∀(n:Nat) (k:Int) (s:List aC) (ts:List T) (gs:List Gm) (l:List (List aC)) (g:Gm) (r:List (List aC)),dO tr aF n k s ts gs l=some (g,r)->
  g.kind=k/\1<k/\g.name=s/\(∀t∈ts,t.tm∈g.ts)/\∀x∈gs,x∈g.gs
 |0,_,_,_,_,_,_,_,h=>by simp[dO]at h
 |_+1,_,_,_,_,[],_,_,h=>by simp[dO]at h
 |n+1,k,s,ts,gs,w::l,g,r,h=>by
  simp only[dO]at h;split at h
  ·split at h
   ·rename_i J;cases h;exact⟨rfl,J,rfl,fun t au=>List.mem_map_of_mem au,fun x ad=>ad⟩
   ·cases h
  ·split at h
   ·split at h
    ·obtain⟨I,aa,ak,aK,bb⟩:=yM n k s ts _ _ g r h;exact⟨I,aa,ak,aK,fun x ad=>bb x (by simp[ad])⟩
    ·cases h
   ·split at h
    ·obtain⟨I,aa,ak,aK,bb⟩:=yM n k s _ gs _ g r h;exact⟨I,aa,ak,fun t au=>aK t (by simp[au]),bb⟩
    ·cases h
theorem Fz:∀{l:List Gm},uR l=true->∀x∈l,x.shape=true
 |[],_,x,h=>by simp at h
 |y::l,h,x,ad=>by
  simp only[uR,bA]at h;rcases gp.1 ad with rfl|ad
  ·exact h.1
  ·exact Fz h.2 x ad
theorem uS{g:Gm}(h:g.shape=true):∀t∈g.ts,t.fits=true:=by
 cases g with
 |mk k s ts gs=>simp only[Gm.shape,bA,kj]at h;exact h.1
theorem shape_gs{g:Gm}(h:g.shape=true)(J:jb g.kind=true):∀x∈g.gs,x.shape=true:=by
 cases g with
 |mk k s ts gs=>
  have J:(k=7\/k=8)\/k=10:=by simpa[jb,Gm.kind]using J
  simp only[Gm.shape,bA]at h;have aa:=h.2;rw[be Ω,be Ω]at aa;split at aa
  ·simp only[bA]at aa;exact Fz aa.2
  ·rw[if_pos Ω]at aa;simp only[bA]at aa;exact Fz aa.2
theorem LY{g:Gm}(h:g.shape=true)(J:g.kind=9):iq g.name=true:=by
 cases g with
 |mk k s ts gs=>simp only[Gm.kind]at J;subst J;simp only[Gm.shape,bA]at h;have aa:=h.2;simp at aa;exact aa.1.1
mutual
theorem Ls:∀(n:Nat) (l:List (List aC)) (g:Gm) (r:List (List aC)),en hL hdS n l=some (g,r)->g.shape=true->en eo eA n l=some (g,r)
 |0,_,_,_,h,_=>by simp[en]at h
 |_+1,[],_,_,h,_=>by simp[en]at h
 |n+1,w::l,g,r,h,aP=>by
  simp only[en]at h⊢;split at h
  ·rename_i e;rw[if_pos e];exact h
  ·rename_i ah;rw[be ah];split at h
   ·rename_i e;rw[if_pos e];exact h
   ·rename_i aE;rw[be aE];split at h
    ·rename_i bg;rw[if_pos bg];cases l with
     |nil=>exact h
     |cons v l=>
      simp only at h⊢;cases bq:hdS v with
      |none=>rw[bq]at h;cases h
      |some x=>
       obtain⟨k,s⟩:=x;rw[bq]at h;simp only at h;obtain⟨m1,m2,m3,_⟩:=yM n k s [] [] l g r h;have aB:eA v=some (k,s):=by
        unfold hdS at bq;unfold eA;split at bq
        ·cases bq;omega
        ·split at bq
         ·cases bq;omega
         ·cases J:l2 v with
          |some aX=>rw[J]at bq;exact bq
          |none=>rw[J]at bq;cases bq;have:=LY aP m1;rw[m3]at this;simp[this]
       rw[aB];exact E6 n k s [] [] l g r h aP
    ·cases h
theorem E6:∀(n:Nat) (k:Int) (s:List aC) (ts:List T) (gs:List Gm) (l:List (List aC)) (g:Gm) (r:List (List aC)),dO hL hdS n k s ts gs l=some (g,r)->g.shape=true->dO eo eA n k s ts gs l=some (g,r)
 |0,_,_,_,_,_,_,_,h,_=>by simp[dO]at h
 |_+1,_,_,_,_,[],_,_,h,_=>by simp[dO]at h
 |n+1,k,s,ts,gs,w::l,g,r,h,aP=>by
  simp only[dO]at h⊢;split at h
  ·rename_i e;rw[if_pos e];exact h
  ·rename_i e;rw[be e];split at h
   ·rename_i aR;rw[if_pos aR];cases hr:en hL hdS n (w::l)with
    |none=>rw[hr]at h;cases h
    |some x=>obtain⟨dH,cv⟩:=x;rw[hr]at h;simp only at h;obtain⟨m1,_,_,_,m5⟩:=yM n k s ts _ cv g r h;rw[Ls n _ _ _ hr (shape_gs aP (by rw[m1];exact aR) dH (m5 dH Ψ))];exact E6 n k s ts _ cv g r h aP
   ·rename_i aR;rw[be aR];cases hr:hL (w::l)with
    |none=>rw[hr]at h;cases h
    |some x=>obtain⟨t',cv⟩:=x;rw[hr]at h;simp only at h;obtain⟨_,_,_,m4,_⟩:=yM n k s _ gs cv g r h;have aH:=uS aP _ (m4 t' Ψ);rw[aU.fits_T]at aH;rw[VK hr aH];exact E6 n k s _ gs cv g r h aP
end
def pF(s:List aC):aV Gm:=match hs s with
 |none=>none
 |some l=>match en eo eA (2*l.length+1) l with
  |some (g,[])=>if g.fits 80 then some g else none
  |_=>none
theorem Uq(s:List aC):pF s=match hs s with
  |none=>none
  |some l=>match en hL hdS (2*l.length+1) l with
   |some (g,[])=>if g.fits 80 then some g else none
   |_=>none:=by
 unfold pF;cases hs s with
 |none=>rfl
 |some l=>
  simp only;cases aB:en eo eA (2*l.length+1) l with
  |some x=>obtain⟨g,r⟩:=x;rw[Lr _ _ _ _ aB]
  |none=>
   simp only;cases ao:en hL hdS (2*l.length+1) l with
   |none=>rfl
   |some x=>
    obtain⟨g,r⟩:=x;cases r with
    |cons _ _=>rfl
    |nil=>
     simp only;split
     ·rename_i aH;unfold Gm.fits at aH;simp only[bA]at aH;rw[Ls _ _ _ _ ao aH.1]at aB;cases aB
     ·rfl
def Wp(s:List aC):Bool:=gU s||(match gQ s with|some n=>decide (0<=n/\n<=100000)|none=>false)
def num:List (List aC)->List (List aC)->aV (List (List aC)×List (List aC))
 |ns,[]=>some ([],ns)
 |ns,w::r=>match w with
  |63::s=>if Wp s then(num (if w∈ns then ns else ns++[w]) r).map fun x=>((63::itoa (ns.idxOf w))::x.1,x.2)else none
  |_=>(num ns r).map fun x=>(w::x.1,x.2)
structure B9 where
 name:List aC
 ar:Int
 loc:Int
 body:Gm
 deriving Inhabited
mutual
def aU.vs:aU->List Int
 | .mk k n _ a=>if k=1 then [n]else aU.vsL a
def aU.vsL:List aU->List Int
 |[]=>[]
 |x::xs=>x.vs++aU.vsL xs
end
mutual
def Gm.vs:Gm->List Int
 | .mk _ _ t g=>aU.vsL t++Gm.vsL g
def Gm.vsL:List Gm->List Int
 |[]=>[]
 |x::xs=>x.vs++Gm.vsL xs
end
structure mq where
 op:Int
 a:Int
 b:Int
 g:Gm
structure je where
 name:List aC
 pos:Int
 ar:Int
 vars:Int
structure qG where
 is:List mq
 es:List je
def TH(g:Gm):Bool:=g.kind==0&&g.name==[]&&g.ts.isEmpty&&g.gs.isEmpty
def H2(es:List je)(s:List aC):Int:=match es.findIdx? fun e=>e.name==s with
 |some i=>i
 |none=> -1
def Wo(g:Gm)(n:Int):Prop:= ∀v∈g.vs,v<n
def On(es:List je)(s:List aC):Int:=H2 (es.take (es.length-1)) s
def QF(c:qG)(x:mq)(vars:Int):Prop:=
 (x.op≠0->x.op≠5->TH x.g=true)/\(x.op=0\/x.op=5->x.g.fits 80=true/\Wo x.g vars/\(x.op=0->2<=x.g.kind/\x.g.kind<=6)/\
  (x.op=5->x.g.kind=9/\∃k f,On c.es x.g.name=(k:Nat)/\c.es[k]? =some f/\(x.g.ts.length:Int)=f.ar))
def SL(c:qG)(e:je)(vl:Int)(at':Int)(x:mq):Prop:=
 (0<=x.op/\x.op<=6)/\(x.op=6↔at'=vl-1)/\QF c x e.vars/\(x.op=1\/x.op=3->at'+1<=x.a/\x.a<=vl-1)/\(¬(x.op=1\/x.op=3)->x.a=0)/\
 (x.op=1\/x.op=2->0<=x.b/\x.b<=7)/\(¬(x.op=1\/x.op=2)->x.b=0)/\(x.op=1->∃y,c.is[x.a.toNat]? =some y/\(y.op=1\/y.op=2)/\y.b=x.b+1)
def B7(c:qG)(e:je)(vl:Int):Prop:= ∀(k:Nat) x,e.pos<=k->(k:Int)<vl->c.is[k]? =some x->SL c e vl k x
def Rc(e:je):List aC:=e.name++([47]++(itoa e.ar++[58,10]))
def Ax(es:List je)(k:Nat):List aC:=((es.filter fun e=>e.pos==(k:Int)).map Rc).flatten
end
end Go.Pv
namespace Go.Proofs.YtlnndmgfngfeiaaGreatDoor
section
open Go Go.Pv
def mK{α:Type}(p:α->Bool)(s:List α)(i:Nat)(_:Unit):Prop:= ∀k b,k<i->s[k]? =some b->p b=true
theorem mK.step{α:Type}{p:α->Bool}{s:List α}{i:Nat}(h:mK p s i ()){b:α}(af:s[i]? =some b)(aY:p b=true):mK p s (i+1) ():=fun k c J az=>by
 rcases Nat.lt_or_ge k i with b6|b6
 ·exact h k c b6 az
 ·obtain rfl:k=i:=Ω
  rw[af]at az;cases az;exact aY
theorem mK.fin{α:Type}{p:α->Bool}{s:List α}(h:mK p s s.length ()):s.all p=true:=by rw[kj];intro b af;obtain⟨i,aB⟩:=List.mem_iff_getElem?.1 af;exact h i b (fG.1 aB).1 aB
theorem va{α:Type}{p:α->Bool}{s:List α}{i:Nat}{b:α}(af:s[i]? =some b)(aY:p b=false):s.all p=false:=by rw[List.all_eq_false];exact⟨b,gB af,by rw[aY];simp⟩
theorem qD(l:List aU):b5 aS 183 [.slice 4 .no (l.map enc)] (.bool (l.all aU.fits)):=by
 generalize bF:l.all aU.fits=R;refine bT oI PK TZ fun aQ=>?_;unfold G6;have hg:l.length<=68719476736:=by simp[jf,jE,jg,bX]at aQ;omega
 simp;refine iA (fun i (_:Unit)=>⟨[(5,.slice 4 .no (l.map enc)),(6,.int .i64 l.length),(7,.int .i64 i)],[],[],0,[]⟩) l.length (mK aU.fits l) () dp (fun k b J=>Ω) (fun _ av _=>?_) (fun i _ aB av _=>?_)
 ·have:R=true:=by rw[<-bF];exact av.fin
  subst this;clear av bF;exact cH
 ·obtain⟨t,au,Se⟩:=hy aB;have cd:=Mw t;cases g:t.fits
  ·rw[g]at cd;have:R=false:=by rw[<-bF];exact va au g
   subst this;clear au av bF;exact cH
  ·rw[g]at cd;have aR:=av.step au g;clear au av bF;exact yI
theorem Mu(s:List aC):b5 aS 103 [.str s] (.bool (iq s)):=by
 have jc:=FY s;by_cases h:iw.contains s=true
 ·have:iq s=false:=by unfold iq;rw[h];rfl
  rw[this];have hm:s∈iw:=by simpa using h
  simp only[iw,gp,List.not_mem_nil,or_false]at hm;rcases hm with rfl|rfl|rfl|rfl|rfl|rfl|rfl|rfl|rfl;all_goals
   refine bT kM Ia KP fun aQ=>?_;unfold Ck
   clear aQ jc
   simp[gX,hN,rW,rU,rR,rS,rV,rT,F7]
   exact cH
 ·have:iq s=gU s:=by unfold iq;rw[Bool.not_eq_true]at h;rw[h];rfl
  rw[this];have hm:∀w∈iw,(s==w)=false:=fun w hw=>by rw[beq_eq_false_iff_ne];rintro rfl;exact h (by simpa using hw)
  simp only[iw,gp,List.not_mem_nil,or_false,forall_eq_or_imp,forall_eq]at hm;obtain⟨I,aa,ak,aK,bb,ct,dZ,hS,fb⟩:=hm;simp only[gX,hN,rW,rU,rR,rS,rV,rT,F7]at I aa ak aK bb ct dZ hS fb;refine bT kM Ia KP fun aQ=>?_;unfold Ck;clear aQ;exact cH
theorem AS{α:Type}(l:List α):((l.length:Int)==0)=l.isEmpty:=by
 cases l with
 |nil=>rfl
 |cons a l=>simp;omega
def jd(g:Gm)(room:Int):Int:=if g.shape=true/\(g.sz:Int)<=room then g.sz else-1
theorem uE{g:Gm}{room:Int}(h:g.shape=true)(aa:(g.sz:Int)<=room):jd g room=g.sz:=if_pos ⟨h,aa⟩
theorem sZ{g:Gm}{room:Int}(h:g.shape=false):jd g room= -1:=be fun aa=>by rw[h]at aa;cases aa.1
theorem TA{g:Gm}{room:Int}(h:room<g.sz):jd g room= -1:=be fun aa=>Ω
theorem mR(g:Gm):g.shape=(g.ts.all aU.fits&&(
  if 0<=g.kind/\g.kind<=6 then g.name==[]&&g.gs.isEmpty&&decide ((g.ts.length:Int)=jT g.kind)&&(g.kind !=6||(match g.ts with|x::_=>decide (x.kind=2)|[]=>false))
  else if g.kind=9 then iq g.name&&g.gs.isEmpty&&decide (g.ts.length<=4)
  else if g.kind=7\/g.kind=8 then g.name==[]&&g.ts.isEmpty&&decide (g.gs.length<=8)&&g.gs.all Gm.shape
  else if g.kind=10 then g.name==[]&&g.ts.isEmpty&&(match g.gs with|[x]=>decide (x.kind=9)|_=>false)&&g.gs.all Gm.shape
  else false)):=by
 have ku:∀l:List Gm,uR l=l.all Gm.shape:=by
  intro l;induction l with
  |nil=>rfl
  |cons x l a8=>simp[uR,a8]
 cases g;simp only[Gm.shape,Gm.kind,Gm.name,Gm.ts,Gm.gs,ku];rfl
theorem qy(g:Gm):g.sz=1+(g.gs.map Gm.sz).sum:=by
 have ku:∀l:List Gm,mz l=(l.map Gm.sz).sum:=by
  intro l;induction l with
  |nil=>rfl
  |cons x l a8=>simp[mz,a8]
 cases g;simp only[Gm.sz,Gm.gs,ku]
abbrev FJ:List (Int×ab):=r4 6 (.int .i64 2) (r4 5 (.int .i64 1) (r4 4 (.int .i64 1) (r4 3 (.int .i64 2) (r4 2 (.int .i64 2) []))))
theorem pA(f:aq->aV (List ab))(m:aq)(k:Int)(hm:f m=some (kc FJ)):nD f .i (.int .i64 0) false (.gmap m) (.int .i64 k)=some (True,.int .i64 (jT k)):=by
 rw[ox _ _ _ _ false k hm];by_cases aa:k=2
 ·subst aa;rfl
 by_cases ak:k=3
 ·subst ak;rfl
 by_cases aK:k=4
 ·subst aK;rfl
 by_cases bb:k=5
 ·subst bb;rfl
 by_cases ct:k=6
 ·subst ct;rfl
 have:tB k FJ=none:=by have e:FJ=[(2,.int .i64 2),(3,.int .i64 2),(4,.int .i64 1),(5,.int .i64 1),(6,.int .i64 2)]:=rfl;rw[e];simp[tB,aa,ak,aK,bb,ct]
 rw[this];simp[jT,aa,ak,aK,bb,ct]
theorem SR(k:Int):k=0\/k=1\/k=2\/k=3\/k=4\/k=5\/k=6\/k=7\/k=8\/k=9\/k=10\/(k<0\/10<k):=Ω
theorem Mm{α:Type}{l:List α}(h:l.length=2):∃x y,l=[x,y]:=by
 match l,h with
 |[x,y],_=>exact⟨x,y,rfl⟩
theorem QJ(g:Gm){room:Int}(h:room<1):b5 aS 117 [g.e,.int .i64 room] (.int .i64 (-1)):=by refine bT kM o0 pE fun aQ=>?_;unfold n9;clear aQ;exact cH
theorem QO(g:Gm){room:Int}(h:¬room<1)(au:g.ts.all aU.fits=false):b5 aS 117 [g.e,.int .i64 room] (.int .i64 (-1)):=by have cd:=qD g.ts;rw[au]at cd;refine bT kM o0 pE fun aQ=>?_;unfold n9;clear aQ;exact cH
theorem QH(g:Gm){room:Int}(h:¬room<1)(au:g.ts.all aU.fits=true)(J:0<=g.kind/\g.kind<=6):b5 aS 117 [g.e,.int .i64 room] (.int .i64 (if g.shape then 1 else-1)):=by
 have cd:=qD g.ts;rw[au]at cd;generalize bF:(if g.shape then(1:Int)else-1)=R;rw[mR,au,if_pos J,Bool.true_and]at bF;have mD:g.kind=0\/g.kind=1\/g.kind=2\/g.kind=3\/g.kind=4\/g.kind=5\/g.kind=6:=Ω
 have af:∀l:List Gm,((l.length:Int) !=0)= !l.isEmpty:=fun l=>by simp only[bne,AS]
 clear J au;rcases mD with J|J|J|J|J|J|J;all_goals
  rw[J]at bF
  simp[jT]at bF
  refine bT kM o0 pE fun aQ=>?_;unfold n9
  clear aQ
  simp
  simp[J]
  ((with_reducible repeat' first|refine aI ?_|refine bn cd ?_|refine bo cd ?_|simp[h,J,pA,jT,af,-ox]|((first|apply dy|apply dC|apply dB)<;>intro h<;>try simp at h))<;>(try exact ep))
  all_goals try(simp[ca,qs,ba,bc,a1];simp_all;done)
  all_goals
   obtain⟨x,y,e⟩:∃x y,g.ts=[x,y]:=Mm Ω
   simp only[e]at bF⊢
   simp
   ((with_reducible repeat' first|refine aI ?_|simp|((first|apply dy|apply dC|apply dB)<;>intro h<;>try simp at h))<;>(try exact ep))
   all_goals(simp[ca,qs,ba,bc,a1];simp_all;done)
theorem QG(g:Gm){room:Int}(h:¬room<1)(au:g.ts.all aU.fits=true)(J:g.kind=9):b5 aS 117 [g.e,.int .i64 room] (.int .i64 (if g.shape then 1 else-1)):=by
 have cd:=qD g.ts;rw[au]at cd;have vY:=Mu g.name;generalize bF:(if g.shape then(1:Int)else-1)=R;have he:g.shape=(iq g.name&&g.gs.isEmpty&&decide (g.ts.length<=4)):=by rw[mR,au,J];rfl
 rw[he]at bF;clear he;have af:∀l:List Gm,((l.length:Int) !=0)= !l.isEmpty:=fun l=>by simp only[bne,AS]
 have az:decide ((4:Int)<g.ts.length)= !decide (g.ts.length<=4):=by
  by_cases h:g.ts.length<=4
  ·rw[decide_eq_true h];simp;omega
  ·rw[decide_eq_false h];simp;omega
 cases aB:iq g.name;all_goals
  rw[aB]at vY bF
  refine bT kM o0 pE fun aQ=>?_;unfold n9
  clear aQ
  simp
  simp[J]
  ((with_reducible repeat' first|refine aI ?_|refine bn cd ?_|refine bo cd ?_|refine bn vY ?_|refine bo vY ?_|simp[h,J,pA,jT,af,-ox]|((first|apply dy|apply dC|apply dB)<;>intro h<;>try simp at h))<;>(try exact ep))
  all_goals(simp[ca,qs,ba,bc,a1];simp_all)
  all_goals omega
theorem QN(g:Gm){room:Int}(h:¬room<1)(J:g.kind<0\/10<g.kind):b5 aS 117 [g.e,.int .i64 room] (.int .i64 (-1)):=by
 have cd:=qD g.ts;have e:∀n:Int,0<=n->n<=10->(g.kind==n)=false:=fun n I aa=>beq_eq_false_iff_ne.2 Ω;have sd:=e 0 Ω Ω;have ah:=e 1 Ω Ω;have aE:=e 2 Ω Ω;have bg:=e 3 Ω Ω;have cB:=e 4 Ω Ω;have hc:=e 5 Ω Ω;have e0:=e 6 Ω Ω;have oe:=e 7 Ω Ω;have lZ:=e 8 Ω Ω;have tN:=e 9 Ω Ω;have Og:=e 10 Ω Ω;clear e J;cases au:g.ts.all aU.fits;all_goals
  rw[au]at cd
  refine bT kM o0 pE fun aQ=>?_;unfold n9
  clear aQ
  simp
  (with_reducible repeat' first|refine aI ?_|refine bn cd ?_|refine bo cd ?_|simp[h,pA,sd,ah,aE,bg,cB,hc,e0,oe,lZ,tN,Og,-ox])
  simp[ca,qs,ba,bc,a1]
set_option maxRecDepth 8000 in
theorem QK(g:Gm){room:Int}(h:¬room<1)(au:g.ts.all aU.fits=true)(J:g.kind=7\/g.kind=8\/g.kind=10)(aR:g.name.isEmpty=false):b5 aS 117 [g.e,.int .i64 room] (.int .i64 (-1)):=by
 have cd:=qD g.ts;rw[au]at cd;rcases J with J|J|J;all_goals
  refine bT kM o0 pE fun aQ=>?_;unfold n9
  clear aQ
  simp
  (with_reducible repeat' first|refine aI ?_|refine bn cd ?_|refine bo cd ?_|simp[h,pA,J,aR,-ox])
  simp[ca,qs,ba,bc,a1]
set_option maxRecDepth 8000 in
theorem QP(g:Gm){room:Int}(h:¬room<1)(au:g.ts.all aU.fits=true)(J:g.kind=7\/g.kind=8\/g.kind=10)(aR:g.name.isEmpty=true)(aa:¬g.ts.length=0):b5 aS 117 [g.e,.int .i64 room] (.int .i64 (-1)):=by
 have cd:=qD g.ts;rw[au]at cd;have ak:((g.ts.length:Int) !=0)=true:=by simpa using aa
 rcases J with J|J|J;all_goals
  refine bT kM o0 pE fun aQ=>?_;unfold n9
  clear aQ
  simp
  (with_reducible repeat' first|refine aI ?_|refine bn cd ?_|refine bo cd ?_|simp[h,pA,J,aR,ak,-ox])
  simp[ca,qs,ba,bc,a1]
set_option maxRecDepth 8000 in
theorem QI(g:Gm){room:Int}(h:¬room<1)(au:g.ts.all aU.fits=true)(J:g.kind=7\/g.kind=8)(aR:g.name.isEmpty=true)(aa:g.ts.length=0)(aK:¬g.gs.length<=8):b5 aS 117 [g.e,.int .i64 room] (.int .i64 (-1)):=by
 have cd:=qD g.ts;rw[au]at cd;have bb:(8:Int)<g.gs.length:=Ω
 rcases J with J|J;all_goals
  refine bT kM o0 pE fun aQ=>?_;unfold n9
  clear aQ
  simp
  (with_reducible repeat' first|refine aI ?_|refine bn cd ?_|refine bo cd ?_|simp[h,pA,J,aR,aa,bb,-ox])
  simp[ca,qs,ba,bc,a1]
set_option maxRecDepth 8000 in
theorem QL(g:Gm){room:Int}(h:¬room<1)(au:g.ts.all aU.fits=true)(J:g.kind=10)(aR:g.name.isEmpty=true)(aa:g.ts.length=0)(aK:¬g.gs.length=1):b5 aS 117 [g.e,.int .i64 room] (.int .i64 (-1)):=by
 have cd:=qD g.ts;rw[au]at cd;have bb:((g.gs.length:Int) !=1)=true:=by simp;omega
 refine bT kM o0 pE fun aQ=>?_;unfold n9;clear aQ;simp;(with_reducible repeat' first|refine aI ?_|refine bn cd ?_|refine bo cd ?_|simp[h,pA,J,aR,aa,bb,-ox]);simp[ca,qs,ba,bc,a1]
set_option maxRecDepth 8000 in
theorem QM(g:Gm){room:Int}(h:¬room<1)(au:g.ts.all aU.fits=true)(J:g.kind=10)(aR:g.name.isEmpty=true)(aa:g.ts.length=0){x:Gm}(aK:g.gs=[x])(bb:¬x.kind=9):b5 aS 117 [g.e,.int .i64 room] (.int .i64 (-1)):=by
 have cd:=qD g.ts;rw[au]at cd;have ct:(x.kind !=9)=true:=by simpa using bb
 refine bT kM o0 pE fun aQ=>?_;unfold n9;clear aQ;simp;(with_reducible repeat' first|refine aI ?_|refine bn cd ?_|refine bo cd ?_|simp[h,pA,J,aR,aa,aK,ct,-ox]);simp[ca,qs,ba,bc,a1]
theorem FI{l:List Gm}{i:Nat}{x:Gm}(h:l[i]? =some x):((l.take (i+1)).map Gm.sz).sum=((l.take i).map Gm.sz).sum+x.sz:=by rw[lq,h];simp
theorem FG{l:List Gm}(i:Nat):((l.take i).map Gm.sz).sum<=(l.map Gm.sz).sum:=by
 conv=>rhs;rw[<-List.take_append_drop i l]
 rw[List.map_append,List.sum_append];omega
def kn(g:Gm)(room:Int)(i:Nat)(n:Int):aN:=⟨[(1,.int .i64 room),(6,.int .i64 n),(124,.slice 4 .no (g.gs.map Gm.e)),(125,.int .i64 g.gs.length),(126,.int .i64 i)],[],[],0,[]⟩
def u6(g:Gm)(room:Int)(i:Nat)(n:Int):Prop:=n=1+(((g.gs.take i).map Gm.sz).sum:Nat)/\mK Gm.shape g.gs i ()/\n<=room
set_option maxRecDepth 8000 in
theorem IU(g:Gm){room:Int}(h:¬room<1)(hr:room<=1000)(au:g.ts.all aU.fits=true)(J:g.kind=7\/g.kind=8\/g.kind=10)(aR:g.name.isEmpty=true)(aa:g.ts.length=0)(aK:g.kind≠10->g.gs.length<=8)(bb:g.kind=10->∃x,g.gs=[x]/\x.kind=9)
  (fq:g.shape=g.gs.all Gm.shape) (a8:∀x∈g.gs,∀r:Int,-1000<=r/\r<=1000->b5 aS 117 [x.e,.int .i64 r] (.int .i64 (jd x r))):b5 aS 117 [g.e,.int .i64 room] (.int .i64 (jd g room)):=by
 have cd:=qD g.ts;rw[au]at cd;have Rt:g.gs.length<=1000:=by
  rcases J with J|J|J
  ·have:=aK Ω;omega
  ·have:=aK Ω;omega
  ·obtain⟨x,ad,_⟩:=bb J;rw[ad];simp
 have dZ:g.kind≠10->¬(8:Int)<g.gs.length:=fun e=>by have:=aK e;omega
 rcases J with J|J|J;all_goals
  refine bT kM o0 pE fun aQ=>?_;unfold n9
  clear aQ
  simp
 ·have hS:=dZ Ω;clear aK bb dZ;(with_reducible repeat' first|refine aI ?_|refine bn cd ?_|refine bo cd ?_|simp[h,pA,J,aR,aa,hS,-ox]);refine iA (kn g room) g.gs.length (u6 g room) 1 (by simp[kn];exact dp) ⟨Ψ,fun k b J=>Ω,Ω⟩ (fun n av _=>?_) (fun i n aB av _=>?_)
  ·obtain⟨kE,jt,uv⟩:=av;rw[kQ]at kE;have:jd g room=n:=by rw[uE (by rw[fq];exact jt.fin) (by rw[qy];omega),qy];omega
   rw[this];clear kE jt a8 fq this;simp[kn];exact cH
  ·obtain⟨y,bk,gN⟩:=hy aB;obtain⟨kE,jt,uv⟩:=av;have pq:=FI bk;have sR:=FG (l:=g.gs) (i+1);have cN:bm ((i:Int)+1):=by unfold bm;omega
   have x8:bm (room-n):=by unfold bm;omega
   have ky:=a8 y (gB bk) (room-n) Ω;by_cases ja:y.shape=true/\(y.sz:Int)<=room-n
   ·rw[uE ja.1 ja.2]at ky;have x1:bm (n+y.sz):=by unfold bm;omega
    have bU:¬(y.sz:Int)<0:=Ω
    have kt:u6 g room (i+1) (n+y.sz):=⟨by rw[pq];omega,jt.step bk ja.1,Ω⟩;clear kE jt a8 fq pq sR bk;simp[kn,aB,gN];(with_reducible repeat' first|refine aI ?_|refine bn ky ?_|refine bo ky ?_|simp[aB,gN,cN,x8,x1,bU]);refine cF.rng (n+y.sz) aB kt (by simp[kn];exact dp)
   ·have eB:jd y (room-n)= -1:=be ja;rw[eB]at ky;have:jd g room= -1:=by
     unfold jd;rw[be];rintro⟨g1,g2⟩;refine ja ⟨?_,?_⟩
     ·rw[fq,kj]at g1;exact g1 y (gB bk)
     ·rw[qy]at g2;omega
    rw[this];clear kE jt a8 fq pq sR bk ja eB this;simp[kn,aB,gN];exact cH
 ·have hS:=dZ Ω;clear aK bb dZ;(with_reducible repeat' first|refine aI ?_|refine bn cd ?_|refine bo cd ?_|simp[h,pA,J,aR,aa,hS,-ox]);refine iA (kn g room) g.gs.length (u6 g room) 1 (by simp[kn];exact dp) ⟨Ψ,fun k b J=>Ω,Ω⟩ (fun n av _=>?_) (fun i n aB av _=>?_)
  ·obtain⟨kE,jt,uv⟩:=av;rw[kQ]at kE;have:jd g room=n:=by rw[uE (by rw[fq];exact jt.fin) (by rw[qy];omega),qy];omega
   rw[this];clear kE jt a8 fq this;simp[kn];exact cH
  ·obtain⟨y,bk,gN⟩:=hy aB;obtain⟨kE,jt,uv⟩:=av;have pq:=FI bk;have sR:=FG (l:=g.gs) (i+1);have cN:bm ((i:Int)+1):=by unfold bm;omega
   have x8:bm (room-n):=by unfold bm;omega
   have ky:=a8 y (gB bk) (room-n) Ω;by_cases ja:y.shape=true/\(y.sz:Int)<=room-n
   ·rw[uE ja.1 ja.2]at ky;have x1:bm (n+y.sz):=by unfold bm;omega
    have bU:¬(y.sz:Int)<0:=Ω
    have kt:u6 g room (i+1) (n+y.sz):=⟨by rw[pq];omega,jt.step bk ja.1,Ω⟩;clear kE jt a8 fq pq sR bk;simp[kn,aB,gN];(with_reducible repeat' first|refine aI ?_|refine bn ky ?_|refine bo ky ?_|simp[aB,gN,cN,x8,x1,bU]);refine cF.rng (n+y.sz) aB kt (by simp[kn];exact dp)
   ·have eB:jd y (room-n)= -1:=be ja;rw[eB]at ky;have:jd g room= -1:=by
     unfold jd;rw[be];rintro⟨g1,g2⟩;refine ja ⟨?_,?_⟩
     ·rw[fq,kj]at g1;exact g1 y (gB bk)
     ·rw[qy]at g2;omega
    rw[this];clear kE jt a8 fq pq sR bk ja eB this;simp[kn,aB,gN];exact cH
 ·obtain⟨x,ad,Sp⟩:=bb J;clear aK bb dZ;(with_reducible repeat' first|refine aI ?_|refine bn cd ?_|refine bo cd ?_|simp[h,pA,J,aR,aa,ad,Sp,-ox]);refine iA (kn g room) g.gs.length (u6 g room) 1 (by simp[kn];exact⟨by simp[fresh,kinL,kin,b1,aG,Pv.look,ad],eR (by simp[fresh,kinL,kin,b1,aG,Pv.look,ad]),eS (by simp[fresh,kinL,kin,ef,aG,Pv.look,ad]),Ψ⟩) ⟨Ψ,fun k b J=>Ω,Ω⟩ (fun n av _=>?_) (fun i n aB av _=>?_)
  ·obtain⟨kE,jt,uv⟩:=av;rw[kQ]at kE;have:jd g room=n:=by rw[uE (by rw[fq];exact jt.fin) (by rw[qy];omega),qy];omega
   rw[this];clear kE jt a8 fq this;simp[kn];exact cH
  ·obtain⟨y,bk,gN⟩:=hy aB;obtain⟨kE,jt,uv⟩:=av;have pq:=FI bk;have sR:=FG (l:=g.gs) (i+1);have cN:bm ((i:Int)+1):=by unfold bm;omega
   have x8:bm (room-n):=by unfold bm;omega
   have ky:=a8 y (gB bk) (room-n) Ω;by_cases ja:y.shape=true/\(y.sz:Int)<=room-n
   ·rw[uE ja.1 ja.2]at ky;have x1:bm (n+y.sz):=by unfold bm;omega
    have bU:¬(y.sz:Int)<0:=Ω
    have kt:u6 g room (i+1) (n+y.sz):=⟨by rw[pq];omega,jt.step bk ja.1,Ω⟩;clear kE jt a8 fq pq sR bk;simp[kn,aB,gN];(with_reducible repeat' first|refine aI ?_|refine bn ky ?_|refine bo ky ?_|simp[aB,gN,cN,x8,x1,bU]);refine cF.rng (n+y.sz) aB kt (by simp[kn];exact dp)
   ·have eB:jd y (room-n)= -1:=be ja;rw[eB]at ky;have:jd g room= -1:=by
     unfold jd;rw[be];rintro⟨g1,g2⟩;refine ja ⟨?_,?_⟩
     ·rw[fq,kj]at g1;exact g1 y (gB bk)
     ·rw[qy]at g2;omega
    rw[this];clear kE jt a8 fq pq sR bk ja eB this;simp[kn,aB,gN];exact cH
theorem VZ:∀(n:Nat) (g:Gm),g.sz<=n->∀room:Int,-1000<=room/\room<=1000->b5 aS 117 [g.e,.int .i64 room] (.int .i64 (jd g room)):=by
 intro n;induction n with
 |zero=>intro g aP;have:=g.sz_pos;omega
 |succ n a8=>
 intro g aP room hr;by_cases h:room<1
 ·rw[TA (by have:=g.sz_pos;omega)];exact QJ g h
 cases au:g.ts.all aU.fits
 ·rw[sZ (by rw[mR,au];rfl)];exact QO g h au
 have leaf:∀ao:g.gs=[]\/g.shape=false,jd g room=if g.shape then 1 else-1:=by
  intro ao;cases fq:g.shape
  ·rw[sZ fq];rfl
  ·rw[fq]at ao;have ao:g.gs=[]:=by simpa using ao
   have I:g.sz=1:=by rw[qy,ao];rfl
   rw[uE fq Ω,I];rfl
 rcases SR g.kind with J|J|J|J|J|J|J|J|J|J|J|J;case inr.inr.inr.inr.inr.inr.inr.inr.inr.inr.inr=>rw[sZ (by rw[mR,be Ω,be Ω,be Ω,be Ω,Bool.and_false])];exact QN g h J
 case inr.inr.inr.inr.inr.inr.inr.inr.inr.inl=>
  rw[leaf ?_]
  ·exact QG g h au J
  ·by_cases ao:g.gs=[]
   ·exact .inl ao
   ·right;rw[mR,au,J];have:g.gs.isEmpty=false:=by simpa using ao
    simp[this]
 case inr.inr.inr.inr.inr.inr.inr.inl|inr.inr.inr.inr.inr.inr.inr.inr.inl|inr.inr.inr.inr.inr.inr.inr.inr.inr.inr.inl=>
  have fU:g.kind=7\/g.kind=8\/g.kind=10:=Ω
  have gT:=mR g;rw[au,Bool.true_and,be Ω,be Ω]at gT;cases aR:g.name.isEmpty
  ·have gS:(g.name==[])=false:=by simpa using aR
   rw[sZ (by rw[gT,gS];simp)];exact QK g h au fU aR
  have gS:(g.name==[])=true:=by simpa using aR
  by_cases aa:g.ts.length=0;rotate_left
  ·have qV:g.ts.isEmpty=false:=by simpa using aa
   rw[sZ (by rw[gT,qV];simp)];exact QP g h au fU aR aa
  have qV:g.ts.isEmpty=true:=by simpa using aa
  rw[gS,qV,Bool.true_and]at gT;have AF:∀x∈g.gs,∀r:Int,-1000<=r/\r<=1000->b5 aS 117 [x.e,.int .i64 r] (.int .i64 (jd x r)):=fun x ad r hr=>a8 x (by have:=g.gs_lt ad;omega) r hr;by_cases e6:g.kind=10
  ·rw[be Ω,if_pos e6,Bool.true_and]at gT;by_cases aK:g.gs.length=1
   ·obtain⟨x,ad⟩:=List.length_eq_one_iff.1 aK;by_cases fb:x.kind=9
    ·exact IU g h hr.2 au fU aR aa (fun e=>absurd e6 e) (fun _=>⟨x,ad,fb⟩) (by rw[gT,ad];simp[fb]) AF
    ·rw[sZ (by rw[gT,ad];simp[fb])];exact QM g h au e6 aR aa ad fb
   ·rw[sZ (by
     rw[gT];match aP:g.gs with
     |[]=>rfl
     |[x]=>rw[aP]at aK;simp at aK
     |x::y::l=>rfl)]
    exact QL g h au e6 aR aa aK
  ·have tX:g.kind=7\/g.kind=8:=Ω
   rw[if_pos tX,Bool.true_and]at gT;by_cases aK:g.gs.length<=8
   ·exact IU g h hr.2 au fU aR aa (fun _=>aK) (fun e=>absurd e e6) (by rw[gT,decide_eq_true aK];rfl) AF
   ·rw[sZ (by rw[gT,decide_eq_false aK];rfl)];exact QI g h au tX aR aa aK
 all_goals
  rw[leaf ?_]
  ·exact QH g h au Ω
  ·by_cases ao:g.gs=[]
   ·exact .inl ao
   ·right;rw[mR,au,J]
    have:g.gs.isEmpty=false:=by simpa using ao
    simp[this]
theorem VS(g:Gm):b5 aS 115 [g.e] (.bool (g.fits 80)):=by
 have cu:=VZ g.sz g (cE _) 80 Ω;have af:decide ((0:Int)<jd g 80)=g.fits 80:=by
  unfold jd Gm.fits;have:=g.sz_pos;by_cases h:g.shape=true/\(g.sz:Int)<=80
  ·rw[if_pos h,h.1];simp;omega
  ·rw[be h];cases ao:g.shape
   ·rfl
   ·rw[ao]at h;simp at h⊢;omega
 refine bT kM Py TN fun aQ=>?_;unfold GU;clear aQ;exact cH
theorem VU(t:T):b5 aS 77 [t.e] (.bool t.fit):=by have:=Mw t.tm;rwa[qT,aU.fits_T]at this
theorem V4(a b:T):b5 aS 141 [a.e,b.e] (T.pair a b).e:=by refine bT oI P2 Ug fun aQ=>?_;unfold Hn;simp;(with_reducible repeat' first|((first|refine dy (fun h=>?_) fun h=>?_|refine dC (fun h=>?_) fun h=>?_|refine dB (fun h=>?_) fun h=>?_)<;>try simp at h)|refine aI ?_|simp);all_goals try simp[ca,Lo,ba,bc,a1]
def Kt(l:List (Int×T)):List ab:=kc (l.map fun x=>(x.1,x.2.e))
@[simp]theorem Zh:Kt []=kc []:=rfl
@[simp]theorem ZF(l:List (Int×T)):fm (Kt l)=false:=rfl
end
end Go.Proofs.YtlnndmgfngfeiaaGreatDoor
