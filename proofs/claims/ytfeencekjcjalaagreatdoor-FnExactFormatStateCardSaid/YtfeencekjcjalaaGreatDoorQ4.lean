/- Substitutions in solved form: their solutions, uniqueness, growth. -/
import Derived.Deep.LoopGhost
import Derived.Test.YtfeencekjcjalaaGreatDoorQ3
set_option linter.all false
set_option maxHeartbeats 4000000
set_option maxRecDepth 4000
open Bool renaming and_eq_true->cD,false_eq_true->hz,or_eq_true->nL
open Decidable renaming not_not->awe
open Go renaming Program->cz,TypeId->fF
open Go.IntKind renaming bits->pe,i64->oz,signed->tP,u64->hM,wrap->tQ
open Go.IntWalk renaming i64_in->lT
open Go.Op renaming bytesLess->hX
open Go.Result renaming andThen_ok->fx
open Go.Sem renaming run_bind->fq,run_pure->gn
open Go.Value renaming cells->nM
open List renaming cons_append->bX,drop_eq_getElem_cons->mh,getElem?_eq_getElem->cl,getElem?_eq_some_iff->fy,length_append->hq,length_cons->jc,length_nil->qM,map_cons->fA,map_nil->pg,mem_append->kr,mem_cons->gp,mem_cons_of_mem->p4,mem_filter->nN,mem_map->iL,nil_append->b3,nodup_append->ss,pairwise_cons->nO,pairwise_iff_getElem->qN
open List.Nodup renaming length_le_of_subset->Qb
open List.Pairwise renaming nil->awo
open List.Perm renaming eq_of_pairwise->Qc
open List.cons renaming injEq->rA
open Nat renaming le_refl->eR,le_trans->jM
open Ne renaming symm->k8
open Option renaming getD_none->oD,getD_some->mi,isSome_iff_exists->gd,isSome_none->nh,map_eq_some_iff->gD,map_some->ni
open Option.some renaming injEq->dv
open Prod.mk renaming injEq->hN
open _root_ renaming False->et,Option->aW,UInt8->bV,beq_iff_eq->dS,congrArg->eu,decide_eq_false_iff_not->iq,decide_eq_true_eq->e8
namespace Go.Pv
section
open Go Go.RowKit
mutual
def hO(N:List aB):ah->ah
 | .slice sz (.tr k j) xs=>if k∈N\/k=uS then .slice sz .no (h0 N xs)else .slice sz (.tr k j) (cK xs)
 | .slice sz (.own k) xs=>.slice sz (.own k) (h0 N xs)
 | .slice sz .nil xs=>.slice sz .nil (h0 N xs)
 | .slice sz .no xs=>.slice sz .no (h0 N xs)
 | .slice sz (.lo _) xs=>.slice sz .no (h0 N xs)
 | .agg cs=>.agg (h0 N cs)
 | .eptr x=>.eptr (hO N x)
 | .iface t x=>.iface t (hO N x)
 | .tuple ba=>.tuple (h0 N ba)
 | .func f cZ=>.func f (h0 N cZ)
 |p=>p
def h0(N:List aB):List ah->List ah
 |[]=>[]
 |x::xs=>hO N x::h0 N xs
end
theorem yF(N:List aB):∀xs,(h0 N xs).length=xs.length
 |[]=>rfl
 |x::xs=>by simp[h0,yF N xs]
section
variable {w:World} {Z μ:aZ} {N:List aB} (be:∀b o,Z.A b o->μ.A b o) (ae:μ.bx=Z.bx) (ak:μ.ow=Z.ow) (aM:∀k,k∉N->∀j b,Z.tr k j b->μ.tr k j b)
 (gO:∀k j bn df b,Z.tr k j b->Z.tr bn df b->k=bn/\j=df)
include be ae ak aM gO
mutual
theorem Ct:∀(p:ah) (v:Value),aS w Z p v->aS w μ (hO N p) v
 | .junk,_,_=>by simp[hO,aS]
 | .int _ _,_,h=>by simpa only[hO,aS]using h
 | .bool _,_,h=>by simpa only[hO,aS]using h
 | .str _,_,h=>by simpa only[hO,aS]using h
 | .slice sz tag xs,v,h=>by
  have hw:=h;simp only[aS]at h;obtain⟨J,U,d,r,K⟩:=h;obtain⟨a0,G,F,A,z,s⟩:=J;have c:∃a cap,v= .slice a (h0 N xs).length cap/\(h0 N xs).length<=cap/\(cap<=maxLen/\(h0 N xs).length<=lim)/\(h0 N xs=[]\/ ∃b off us,a=some ⟨b,off,none⟩/\ly w μ.A b off us/\di w μ sz (h0 N xs) us):=by
   refine⟨a0,G,by rw[yF];exact F,by rw[yF];exact A,by rw[yF];exact z,?_⟩;rcases s with r|⟨b,off,us,B,E,y⟩
   ·exact .inl (by rw[r];rfl)
   ·exact .inr ⟨b,off,us,B,xL (fun b o h=>⟨be b o h,rfl⟩) _ _ E,OS sz xs us y⟩
  cases tag with
  |no=>simp only[hO,aS];exact⟨c,fun e=>(by cases e),fun _ e=>(by cases e),fun _ _ e=>(by cases e),fun _ e=>(by cases e)⟩
  |lo k=>simp only[hO,aS];exact⟨c,fun e=>(by cases e),fun _ e=>(by cases e),fun _ _ e=>(by cases e),fun _ e=>(by cases e)⟩
  |nil=>simp only[hO,aS];exact⟨c,fun _=>U rfl,fun _ e=>(by cases e),fun _ _ e=>(by cases e),fun _ e=>(by cases e)⟩
  |own k=>simp only[hO,aS];refine⟨c,fun e=>(by cases e),fun g e=>?_,fun _ _ e=>(by cases e),fun _ e=>(by cases e)⟩;rw[ak,yF];exact d g e
  |tr k j=>
   simp only[hO];by_cases l:k∈N\/k=uS
   ·rw[if_pos l];simp only[aS];exact⟨c,fun e=>(by cases e),fun _ e=>(by cases e),fun _ _ e=>(by cases e),fun _ e=>(by cases e)⟩
   ·rw[if_neg l];have q:=not_or.1 l;have D:=NT gO _ v hw (by simp only[ma];exact q.2) (by simp[hp]);have m:=yQ (A':=μ.A) (fun b o h=>⟨be b o h,rfl⟩) (fun _ _ _=>rfl) _ _ (μ.tr k j) _ (fun b ae=>by obtain⟨H,i,hm,ae⟩:=ae;simp only[hp,List.mem_singleton,hN]at hm;obtain⟨rfl,rfl⟩:=hm;exact aM _ q.1 _ _ ae) D
    simp only[de]at m;exact PE m (x5 xs)
 | .agg cs,v,h=>by simp only[aS,hO]at h⊢;obtain⟨us,J,U⟩:=h;exact⟨us,J,OU cs _ U⟩
 | .ptr key off,v,h=>by simp only[aS,hO]at h⊢;rw[ae];exact h
 | .eptr x,v,h=>by simp only[aS,hO]at h⊢;obtain⟨b,off,u,J,U,d⟩:=h;exact⟨b,off,u,J,Ct x u U,xL (fun b o h=>⟨be b o h,rfl⟩) _ _ d⟩
 | .iface t x,v,h=>by simp only[aS,hO]at h⊢;obtain⟨u,J,U⟩:=h;exact⟨u,J,Ct x u U⟩
 | .nilp,_,h=>by simpa only[hO,aS]using h
 | .tuple ba,v,h=>by simp only[aS,hO]at h⊢;obtain⟨us,J,U⟩:=h;exact⟨us,J,Fx ba _ U⟩
 | .func f cZ,v,h=>by simp only[aS,hO]at h⊢;obtain⟨us,J,U⟩:=h;exact⟨us,J,Fx cZ _ U⟩
 | .gmap key,v,h=>by simp only[aS,hO]at h⊢;rw[ae];exact h
 | .row sz k n,v,h=>by simp only[aS,hO]at h⊢;rw[ak];exact h
 | .rptr sz k n i f,v,h=>by simp only[aS,hO]at h⊢;rw[ak];exact h
 | .hdm _ _,_,h=>by simp only[aS]at h
 | .hdi _ _ _,_,h=>by simp only[aS]at h
 | .cst _,_,h=>by simpa only[hO,aS]using h
theorem OU:∀(cs:List ah) (us:List Value),cW w Z cs us->cW w μ (h0 N cs) us
 |[],_,h=>by simpa only[h0,cW]using h
 |c::cs,us,h=>by simp only[cW,h0]at h⊢;obtain⟨u,a,J,U,b⟩:=h;exact⟨u,a,J,⟨Ct c u U.1,U.2⟩,OU cs a b⟩
theorem Fx:∀(cs:List ah) (us:List Value),cH w Z cs us->cH w μ (h0 N cs) us
 |[],_,h=>by simpa only[h0,cH]using h
 |c::cs,us,h=>by simp only[cH,h0]at h⊢;obtain⟨u,a,J,U,b⟩:=h;exact⟨u,a,J,Ct c u U,Fx cs a b⟩
theorem OS(sz:Nat):∀(cs:List ah) (us:List Value),di w Z sz cs us->di w μ sz (h0 N cs) us
 |[],_,h=>by simpa only[h0,di]using h
 |c::cs,us,h=>by simp only[di,h0]at h⊢;obtain⟨u,a,J,⟨U,b⟩,d⟩:=h;exact⟨u,a,J,⟨Ct c u U,b⟩,OS sz cs a d⟩
end
theorem aoM{cs:List ah}{us:List Value}(h:iz w Z cs us):iz w μ (h0 N cs) us:=by
 have i:∀c:ah,(∀a b,c≠ .hdm a b)->(∀a b d,c≠ .hdi a b d)->(∀a b,hO N c≠ .hdm a b)/\(∀a b d,hO N c≠ .hdi a b d):=by
  intro c J U;cases c with
  |slice sz tag xs=>cases tag<;>simp only[hO]<;>first|(split<;>simp)|simp
  |hdm a b=>exact absurd rfl (J a b)
  |hdi a b d=>exact absurd rfl (U a b d)
  |_=>simp[hO]
 unfold iz at h;split at h
 ·simp only[h0,hO,iz];exact⟨Fx be ae ak aM gO _ _ h.1,⟨by rw[yF];exact h.2.len,h.2.inc,h.2.lt⟩⟩
 ·simp only[h0,hO,iz];exact Fx be ae ak aM gO _ _ h
 ·rename_i f g;have e:=OU be ae ak aM gO _ _ h;rw[qC]
  ·exact e
  ·exact zV e
end
theorem adb(N:List aB)(cs:List ah)(us:Array Value)(el:fF):jI (h0 N cs) us el=jI cs us el:=by
 cases cs with
 |nil=>rfl
 |cons c r=>
  cases c with
  |slice sz tag xs=>
   cases tag with
   |tr k j=>by_cases a:k∈N\/k=uS<;>simp[h0,hO,jI,a]
   |_=>rfl
  |_=>rfl
def Di(N:List aB)(l:List (Nat×ah)):List (Nat×ah):=l.map fun x=>(x.1,hO N x.2)
def Dh(N:List aB)(l:List (aB×List ah)):List (aB×List ah):=l.map fun x=>(x.1,h0 N x.2)
def GK(N:List aB)(o:ec):ec:=⟨o.n,o.el,o.sz,o.xs.map (h0 N)⟩
def AP(N:List aB)(rw:List aB)(l:List (aB×ec)):List (aB×ec):=(l.filter fun x=>decide (x.1∉rw)).map fun x=>(x.1,GK N x.2)
theorem UH(N:List aB)(i:Nat):∀l,get i (Di N l)=hO N (get i l)
 |[]=>by simp[Di,get,hO]
 |(j,p)::r=>by
  have a:=UH N i r;simp only[Di,fA,get]at a⊢;split
  ·rfl
  ·exact a
theorem Nd(N:List aB)(k:aB):∀l,look k (Dh N l)=(look k l).map (h0 N)
 |[]=>rfl
 |(j,p)::r=>by
  have a:=Nd N k r;simp only[Dh,fA,look]at a⊢;split
  ·rfl
  ·exact a
theorem Nf(N rw:List aB)(k:aB):∀l,look k (AP N rw l)=if k∈rw then none else(look k l).map (GK N)
 |[]=>by simp[AP,look]
 |(j,p)::r=>by
  have b:=Nf N rw k r;simp only[AP]at b⊢;by_cases a:j∈rw
  ·rw[List.filter_cons_of_neg (by simpa using a),b];simp only[look];by_cases c:k∈rw
   ·simp[c]
   ·have:j≠k:=fun e=>c (e▸a);simp[c,this]
  ·rw[List.filter_cons_of_pos (by simpa using a)];simp only[fA,look];by_cases e:j=k
   ·subst e;simp[a]
   ·rw[if_neg e,b,if_neg e]
def A0(st:bh)(p:ah):List aB:=(gZ st.e p).map (·.1)
def A1(st:bh)(s:Nat):bh:=⟨put s (fold st.n st.e 0 (get s st.t)) (Di (A0 st (get s st.t)) st.t),Dh (A0 st (get s st.t)) st.b,AP (A0 st (get s st.t)) (fV (get s st.t)) st.e,st.n+1,st.o⟩
def DB(ob:List aB)(st:bh)(s:Nat):Prop:=jn st.e (get s st.t)/\(gZ st.e (get s st.t)).Nodup/\(fV (get s st.t)).Nodup/\ .loc st.n∉st.o/\(∀k∈A0 st (get s st.t),k∉ob)/\∀k∈fV (get s st.t),∃j,k= .loc j
def aZ.fd(Z:aZ)(R:Nat->Prop)(rw:List aB)(e:List (aB×ec))(T:List (Nat->Prop))(N:List aB)(n:Nat):aZ:=
 {A:=fun b o=>Z.A b o\/ ∃k,k∈rw/\∃own,look k e=some own/\nF Z k b/\o<own.n*own.sz,
  bx:=Z.bx,ow:=Z.ow,
  tr:=fun k j b=>(k∉N/\Z.tr k j b)\/(k= .loc n/\∃S,T[j]? =some S/\S b)}
theorem agC{C:e0}{st:bh}{a:Act}{w:World}{Z:aZ}(h:cS C st a w Z){s:Nat}(ax:DB C.ob st s):∃Z',cS C (A1 st s) a w Z':=by
 obtain⟨ok,nd,Ft,vD,VG,Vv⟩:=ax;unfold A1;generalize bJ:get s st.t=p at ok nd Ft VG Vv⊢;have mV:aS w Z p (a.tmps.getD s undef):=by rw[<-bJ];exact h.slot s
 let R:Nat->Prop:=fun b=> ∃k,k∈fV p/\nF Z k b
 have HP:=h.new (.loc st.n) ⟨eR _,vD⟩;have A:∀k b,k∈fV p->nF Z k b->∃own,look k st.e=some own/\C.w0.heap.size<=b/\b<w.heap.size/\(∀k j,¬Z.tr k j b)/\(∀f,(look f st.b).isSome->Z.bx f≠some b)/\∀g n v,(look g st.e).isSome->Z.ow g=some (n,v)->v.ownBlock=some b->g=k:=by rintro k b d ⟨n,v,J,U⟩;obtain⟨own,K⟩:=XT _ ok k d;obtain⟨j,rfl⟩:=Vv k d;exact⟨own,K,h.fr.nrow j n v b J U,h.good.ownLt K J U,h.good.otr b (.inr ⟨_,_,_,by simp[K],J,U⟩),fun f t lL=>h.good.obx _ f _ _ b (by simp[K]) t J U lL,fun g n' v' aY z D=>h.good.oinj g _ n' n v' v b aY (by simp[K]) z J D U⟩
 have Hq:CR Z R (fV p):=by refine⟨h.fr.trd,fun k f b d t J U=>?_,fun k b d h=>⟨k,d,h⟩⟩;obtain⟨n,v,y,a2⟩:=J;obtain⟨_,bM,_⟩:=A k b d ⟨n,v,y,a2⟩;obtain⟨_,_,_,_,_,_,c2⟩:=A f b t U;exact c2 k n v (by simp[bM]) y a2
 let N:=A0 st p
 let μ:aZ:=Z.fd R (fV p) st.e (fi Z R st.e p) N st.n
 have be:∀b o,Z.A b o->μ.A b o:=fun b o h=>.inl h;have gO:∀k,k∉N->∀j b,Z.tr k j b->μ.tr k j b:=fun k d j b ae=>.inl ⟨d,ae⟩;have ah5:∀q v,aS w Z q v->aS w μ (hO N q) v:=Ct be rfl rfl gO h.fr.trd;have ah6:∀sz q v,di w Z sz q v->di w μ sz (h0 N q) v:=fun sz=>OS be rfl rfl gO h.fr.trd sz;have Mr:∀(j:Nat) (S:Nat->Prop) (b:Nat),(fi Z R st.e p)[j]? =some S->S b->(∃k∈fV p,nF Z k b)\/ ∃k i,(k,i)∈gZ st.e p/\Z.tr k i b:=by
  intro j S b af dC;rcases Ju _ j S af b dC with⟨k,d,J⟩|⟨⟨k,i,J,U⟩,_⟩
  ·exact .inl ⟨k,d,J⟩
  ·exact .inr ⟨k,i,J,U⟩
 have L:∀k,(look k (Dh N st.b)).isSome->(look k st.b).isSome:=fun k d=>by rw[Nd]at d;simpa using d
 have H:∀k,(look k (AP N (fV p) st.e)).isSome->k∉fV p/\(look k st.e).isSome:=fun k d=>by
  rw[Nf]at d;split at d
  ·cases d
  ·rename_i e;exact⟨e,by simpa using d⟩
 have VH:∀g n v b,g∉fV p->(look g st.e).isSome->Z.ow g=some (n,v)->v.ownBlock=some b->∀k∈fV p,¬nF Z k b:=by intro g n v b aY B z D k d G;obtain⟨_,_,_,_,_,_,c⟩:=A k b d G;exact aY (c g n v B z D▸d)
 have L5:aS w μ (fold st.n st.e 0 p) (a.tmps.getD s undef):=by refine Lu (μ:=μ) h.good Hq (fun b bq=>?_) be (fun k d own K b r o ak=>.inr ⟨k,d,own,K,r,ak⟩) p _ 0 mV ok nd (fun k d=>d) (fun i S hi b dC=>.inr ⟨rfl,S,by simpa using hi,dC⟩);obtain⟨k,d,r⟩:=bq;obtain⟨_,_,_,_,a6,_⟩:=A k b d r;exact a6
 refine⟨μ,⟨fun bl o be=>?_,fun k cs d=>?_,fun k f bl J U=>h.good.inj k f bl (L k J) (L f U),fun g o aY=>?_,fun g fm n n' v v' bl J U=>h.good.oinj g fm n n' v v' bl (H g J).2 (H fm U).2,fun g k n v bl J U=>h.good.obx g k n v bl (H g J).2 (L k U),h.good.one,fun bl aM k j aje=>?_⟩,
  ⟨h.fr.os,h.fr.tape,h.fr.output,h.fr.size,h.fr.block,fun b o l=>⟨.inl (h.fr.keep b o l).1,(h.fr.keep b o l).2⟩,fun b o l=>?_,h.fr.obj,h.fr.obn,h.fr.row,h.fr.obr,fun k j f E b J U=>?_,fun k j b ae=>?_,fun k j b ae=>?_,h.fr.sh,h.fr.nrow⟩,
  h.defers,h.size,fun i=>?_,fun k d=>?_,fun x F=>?_,fun m hm aG=>h.obk m hm (yP (Nat.le_succ _) (fun _ h=>h) aG)⟩
 ·rcases be with be|⟨k,d,own,_,r,_⟩
  ·exact h.good.alt bl o be
  ·obtain⟨_,_,_,ao,_⟩:=A k bl d r;exact ao
 ·simp only at d;rw[Nd]at d;cases B:look k st.b with
  |none=>rw[B]at d;cases d
  |some en=>
   rw[B]at d;simp only[ni,dv]at d;subst d;obtain⟨bl,us,el,z,D,P,cR,fM⟩:=h.good.box k en B;refine⟨bl,us,el,z,D,fun o l=>?_,by rw[adb];exact cR,aoM be rfl rfl gO h.fr.trd fM⟩;rcases l with l|⟨f,t,own,_,r,_⟩
   ·exact P o l
   ·obtain⟨_,_,_,_,_,bW,_⟩:=A f bl t r;exact bW k (by simp[B]) z
 ·simp only at aY;have W:=H g (by rw[aY];rfl);rw[Nf,if_neg W.1]at aY;cases B:look g st.e with
  |none=>rw[B]at aY;cases aY
  |some oq=>
   rw[B]at aY;simp only[ni,dv]at aY;subst aY;obtain⟨v,us,z,D,P,cR⟩:=h.good.own g oq B;have dq:∀bl,v.ownBlock=some bl->∀j,μ.A bl j->Z.A bl j:=by
    intro bl ae j l;rcases l with l|⟨f,t,own,_,r,_⟩
    ·exact l
    ·exact absurd r (VH g _ v bl W.1 W.2 z ae f t)
   refine⟨v,us,z,D,fun bl ae=>⟨(P bl ae).1,fun j l=>(P bl ae).2 j (dq bl ae j l)⟩,fun xs F=>?_⟩;simp only[GK]at F;cases Q:oq.xs with
   |none=>rw[Q]at F;cases F
   |some ys=>rw[Q]at F;simp only[ni,dv]at F;subst F;obtain⟨f1,f2,f3⟩:=cR ys Q;exact⟨by rw[yF];exact f1,ah6 _ _ _ f2,fun bl ae j l=>f3 bl ae j (dq bl ae j l)⟩
 ·have hold:∀k j,¬Z.tr k j bl:=by refine h.good.otr bl (aM.imp (fun⟨k,y,a2⟩=>⟨k,L k y,a2⟩) fun⟨g,n,v,y,a2,a3⟩=>⟨g,n,v,(H g y).2,a2,a3⟩)
  rcases aje with⟨_,ae⟩|⟨_,S,dC,ae⟩
  ·exact hold k j ae
  ·rcases Mr j S bl dC ae with⟨f,t,G⟩|⟨f,i,_,r⟩
   ·rcases aM with⟨bP,y,a2⟩|⟨g,n,v,y,a2,a3⟩
    ·obtain⟨_,_,_,_,_,bW,_⟩:=A f bl t G;exact bW bP (L bP y) a2
    ·exact VH g n v bl (H g y).1 (H g y).2 a2 a3 f t G
   ·exact hold f i r
 ·rcases l with l|⟨k,d,own,_,r,_⟩
  ·exact h.fr.fresh b o l
  ·obtain⟨_,_,U,_⟩:=A k b d r;exact .inr (.inr U)
 ·have mixed:∀(k:aB) (j E:Nat) (S:Nat->Prop),k∉N->Z.tr k j b->(fi Z R st.e p)[E]? =some S->S b->et:=by
   intro k j E S d ae dC r;rcases Mr E S b dC r with⟨f,t,G⟩|⟨f,i,hm,V⟩
   ·obtain⟨_,_,_,_,a6,_⟩:=A f b t G;exact a6 k j ae
   ·obtain⟨rfl,_⟩:=h.fr.trd k j f i b ae V;exact d (iL.2 ⟨_,hm,rfl⟩)
  rcases J with⟨X,M⟩|⟨rfl,S,s1,M⟩<;>rcases U with⟨Y,O⟩|⟨rfl,mm,s2,O⟩
  ·exact h.fr.trd k j f E b M O
  ·exact(mixed k j E mm X M s2 O).elim
  ·exact(mixed f E j S Y O s1 M).elim
  ·exact⟨rfl,ZS Hq p nd Ft (fun k d=>d) j E S mm s1 s2 b M O⟩
 ·rcases ae with⟨_,ae⟩|⟨_,S,dC,ae⟩
  ·exact h.fr.trb k j b ae
  ·rcases Mr j S b dC ae with⟨f,t,G⟩|⟨f,i,hm,V⟩
   ·obtain⟨_,_,U,ao,_⟩:=A f b t G;exact⟨.inr U,ao⟩
   ·have:=h.fr.trb f i b V;exact⟨.inr (this.1.resolve_left (XS _ ok _ hm)),this.2⟩
 ·rcases ae with⟨_,ae⟩|⟨rfl,_⟩
  ·exact h.fr.trn k j b ae
  ·exact⟨HP.1,HP.2.1⟩
 ·simp only[pE];split
  ·rename_i e;subst e;exact L5
  ·rw[UH];exact ah5 _ _ (h.slot i)
 ·have aG:fresh st.n st.o k:=yP (Nat.le_succ _) (fun _ h=>h) d;obtain⟨X,Y,iG⟩:=h.new k aG;refine⟨X,Y,fun j b ae=>?_⟩;rcases ae with⟨_,ae⟩|⟨rfl,_⟩
  ·exact iG j b ae
  ·have:=d.1;simp only at this;omega
 ·obtain⟨z,D⟩:=h.ext x F;refine⟨tE (S:=fun k=>k∉N) (w:=w) (Z:=Z) (w':=w) (Z':=μ) ⟨fun b o h=>⟨.inl h,rfl⟩,fun _ _ _ h=>h,fun g n u _ h=>⟨n,u,h,.inl ⟨rfl,rfl⟩⟩,fun _ _ _=>rfl,fun k j b d ae=>.inl ⟨d,ae⟩⟩ _ _ (tl (fun k d az=>VG k az d) _ D) z,D⟩
end
section
open Go Go.RowKit
def eV:List ah->Prop
 |[]=>True
 |p::a=>(match p with| .slice _ _ xs=>xs.length<=lim| .str s=>s.length<=lim|_=>True)/\eV a
def eK:ah->Prop
 | .slice _ _ xs=>xs.length<=lim
 | .str s=>s.length<=lim
 | .agg cs=>eV cs
 |_=>True
def e1:List ah->Prop
 |[]=>True
 |p::r=>eK p/\e1 r
theorem OT{w:World}{Z:aZ}:∀{cs:List ah} {us:List Value},cW w Z cs us->eV cs
 |[],_,_=>trivial
 |c::cs,us,h=>by
  simp only[cW]at h;obtain⟨u,e,_,J,U⟩:=h;refine⟨?_,OT U⟩;cases c<;>simp only<;>have b:=J.1<;>simp only[aS]at b
  ·exact b.2
  ·obtain⟨⟨a,cap,_,_,d,_⟩,_⟩:=b;exact d.2
theorem Zm{w:World}{Z:aZ}{cs:List ah}{us:List Value}(h:iz w Z cs us):ik cs=true->eV cs:=fun a=>by rw[qC a]at h;exact OT h
theorem Zz{w:World}{Z:aZ}{p:ah}{v:Value}(h:aS w Z p v):eK p:=by
 cases p<;>simp only[eK]<;>simp only[aS]at h
 ·exact h.2
 ·obtain⟨⟨a,cap,_,_,b,_⟩,_⟩:=h;exact b.2
 ·obtain⟨us,_,U⟩:=h;exact OT U
theorem Zx{w:World}{Z:aZ}:∀{cs:List ah} {us:List Value},cH w Z cs us->e1 cs
 |[],_,_=>trivial
 |c::cs,us,h=>by simp only[cH]at h;obtain⟨u,a,_,J,U⟩:=h;exact⟨Zz J,Zx U⟩
inductive C where
 |skip
 |region (gs:List dm)
 |drawn (q:Bool) (N:Nat) (gs:List dm)
 |drawnW (nw:List Nat) (N:Nat) (gs:List dm)
 |seq (a b:C)
 |cond (x:ds) (t e:C)
 |block (id:Nat) (c:C)
 |loop (c:C)
 |exit (id:Nat)
 |ret
 |pub (s:Nat) (c:C)
 |pubB (s:Nat) (c:C)
 |fg (qx:Bool) (s:Nat) (c:C)
 |fz (agg:Bool) (s:Nat) (c:C)
 |fd (s:Nat) (c:C)
 |no
def Fj(st:bh):ah->aW (ah×List (aB×ec))
 | .row sz k n=>match look k st.e with
  |some ⟨n',el,a,some xs⟩=>if n'=n/\a=sz then some (.slice sz (.own k) xs,cB k ⟨n,el,sz,none⟩ st.e)else none
  |_=>none
 |_=>none
def wi(st:bh)(s:Nat):aW bh:=
 match Fj st (get s st.t)with
 |some (p,e)=>some {st with t:=put s p st.t,e:=e}
 |none=>none
def xX(st:bh)(s:Nat):aW bh:=
 match get (s%1000) st.t with
 | .ptr k off=>match look k st.b with
  |some cs=>match cs[off+s/1000]? with
   |some p=>match Fj st p with
    |some (a,e)=>if ik cs then some {st with b:=cB k (cs.set (off+s/1000) a) st.b,e:=e}else none
    |none=>none
   |none=>none
  |none=>none
 |_=>none
theorem ON{C:e0}{st:bh}{a:Act}{w:World}{Z:aZ}(h:cS C st a w Z){s:Nat}{p:ah}(b:aS w Z p (a.tmps.getD s undef)):cS C {st with t:=put s p st.t} a w Z:=by
 refine⟨h.good,h.fr,h.defers,h.size,fun i=>?_,h.new,h.ext,h.obk⟩;have:=h.slot i;simp only[pE];split
 ·rename_i e;subst e;exact b
 ·exact this
theorem Yq{C:e0}{st:bh}{a:Act}{w:World}{Z:aZ}(h:cS C st a w Z){p m:ah}{e:List (aB×ec)}{v:Value}(i:aS w Z p v)(he:Fj st p=some (m,e)):
  ∃Z',cS C {st with e:=e} a w Z'/\aS w Z' m v/\lU w Z w Z':=by
 unfold Fj at he;split at he
 ·rename_i sz k n;split at he
  ·rename_i n' el z xs l;split at he
   ·rename_i ax;obtain⟨rfl,rfl⟩:=ax;cases he;simp only[aS]at i;obtain⟨_,r,n0,u,J,U,s⟩:=i;obtain⟨v0,y,d,B,A,q⟩:=h.good.own k _ l;rw[J]at d;simp only[dv,hN]at d;obtain⟨rfl,rfl⟩:=d;have x:v=u:=s rfl;subst x;obtain⟨f,_,_⟩:=q xs rfl;simp only at f;obtain⟨g1,g2⟩:=h.publish l rfl J (by rw[f];exact r);refine⟨_,g1,g2,⟨fun b o be=>⟨.inl be,rfl⟩,fun j b _ t=>t,fun g n u _ c=>⟨n,u,?_,.inl ⟨rfl,rfl⟩⟩,fun _ _ _=>rfl,fun _ _ _ _ h=>h⟩⟩;simp only[aZ.withRowOf];split
    ·rename_i e;subst e;rw[J]at c;exact c
    ·exact c
   ·cases he
  ·cases he
 ·cases he
def A2(a:Bool):ah->ah
 | .slice sz tag xs=>.slice sz (if a then tag else .no) (cK xs)
 |p=>de p
theorem agD{w:World}{Z:aZ}{a:Bool}{p:ah}{v:Value}(h:aS w Z p v):aS w Z (A2 a p) v:=by
 have J:=zY p v h;cases p with
 |slice sz tag xs=>
  simp only[A2];cases a with
  |false=>simpa only[hz,if_false,de]using J
  |true=>
   simp only[if_true];simp only[aS,de]at h J⊢;refine⟨J.1,fun e=>h.2.1 e,fun g e=>?_,fun k j e=>?_,fun k e=>?_⟩
   ·obtain⟨n,u,c,d,b⟩:=h.2.2.1 g e;exact⟨n,u,c,by rw[nH];exact d,by rw[nH];exact b⟩
   ·exact Lw _ _ (h.2.2.2.1 k j e)
   ·exact Lw _ _ (h.2.2.2.2 k e)
 |_=>exact J
theorem anz{C:e0}{st st':bh}{a:Act}{w:World}{Z:aZ}(h:cS C st a w Z){s:Nat}(he:wi st s=some st'):∃Z',cS C st' a w Z':=by
 unfold wi at he;split at he
 ·rename_i p e b;cases he;obtain⟨Z',J,U,_⟩:=Yq h (h.slot s) b;exact⟨_,ON J U⟩
 ·cases he
theorem Zu{w:World}{Z:aZ}:∀{cs:List ah} {us:List Value} {i:Nat} {p q:ah} {v:Value},cW w Z cs us->cs[i]? =some p->us[i]? =some v->aS w Z q v->cW w Z (cs.set i q) us
 |[],_,_,_,_,_,_,h,_,_=>by simp at h
 |c::cs,us,0,p,q,v,h,_,a,b=>by simp only[cW]at h;obtain⟨u,d,rfl,J,U⟩:=h;simp only[List.getElem?_cons_zero,dv]at a;subst a;simp only[List.set_cons_zero,cW];exact⟨_,_,rfl,⟨b,J.2⟩,U⟩
 |c::cs,us,i+1,p,q,v,h,e,a,b=>by simp only[cW]at h;obtain⟨u,d,rfl,J,U⟩:=h;simp only[List.set_cons_succ,cW];exact⟨_,_,rfl,J,Zu U (by simpa using e) (by simpa using a) b⟩
theorem anx{C:e0}{st st':bh}{a:Act}{w:World}{Z:aZ}(h:cS C st a w Z){s:Nat}(he:xX st s=some st'):∃Z',cS C st' a w Z':=by
 unfold xX at he;split at he
 ·rename_i k m N;generalize m+s/1000=off at he;split at he
  ·rename_i cs d;split at he
   ·rename_i p i;split at he
    ·rename_i K e H;split at he
     ·rename_i r;cases he;obtain⟨bl,us,el,g1,g2,g3,g4,g5⟩:=h.good.box k cs d;rw[qC r]at g5;have t:off<us.toList.length:=by rw[qF g5];exact(fy.1 i).1
      obtain⟨v,z⟩:∃v,us.toList[off]? =some v:=⟨_,cl t⟩;have L:aS w Z p v:=by have:=Cr off g5;rw[mh (fy.1 i).1,mh t]at this;simp only[cW]at this;obtain⟨u,G,y,A,_⟩:=this;rw[(fy.1 i).2]at A;rw[(fy.1 z).2]at y;cases y;exact A.1
      obtain⟨Z',J,U,x⟩:=Yq h L H;have o:cW w Z' (cs.set off K) us.toList:=Zu (Zt x g5) i z U;have B:=zV o;refine⟨Z',⟨J.good.alt,fun j D c=>?_,fun j E b c f=>J.good.inj j E b ?_ ?_,J.good.own,J.good.oinj,fun g j n v b aY c=>J.good.obx g j n v b aY ?_,J.good.one,fun bl ae=>J.good.otr bl (ae.imp (fun⟨F,l,a2⟩=>⟨F,by rw[jG]at l;split at l;(rename_i e;subst e;simp[d]);exact l,a2⟩) id)⟩,J.fr,J.defers,J.size,J.slot,J.new,J.ext,J.obk⟩
      ·simp only at c;rw[jG]at c;split at c
       ·rename_i e;subst e;cases c;obtain⟨q,G,M,f1,f2,f3,f4,f5⟩:=J.good.box k cs d;have:q=bl:=by have:=x.bx k bl trivial g1;rw[this]at f1;cases f1;rfl
        subst this;rw[rk r]at g4 f4;rw[g4]at f4;injection f4 with f4;injection f4 with f4 f6 f7;refine⟨q,us,el,f1,f2,f3,by rw[rk B];exact g4,by rw[qC B];exact o⟩
       ·exact J.good.box j D c
      ·simp only at c;rw[jG]at c;split at c
       ·rename_i e;subst e;simp[d]
       ·exact c
      ·simp only at f;rw[jG]at f;split at f
       ·rename_i e;subst e;simp[d]
       ·exact f
      ·simp only at c;rw[jG]at c;split at c
       ·rename_i e;subst e;simp[d]
       ·exact c
     ·cases he
    ·cases he
   ·cases he
  ·cases he
 ·cases he
def tX{α:Type}(k:aB)(l:List (aB×α)):List (aB×α):=match l with
 |[]=>[]
 |(i,x)::r=>if i=k then tX k r else(i,x)::tX k r
theorem Ng{α:Type}(k j:aB):∀l:List (aB×α),look j (tX k l)=if j=k then none else look j l
 |[]=>by simp[tX,look]
 |(i,x)::r=>by
  simp only[tX];by_cases h:i=k
  ·subst h;rw[if_pos rfl,Ng i j r];by_cases U:j=i
   ·simp[U]
   ·have:¬i=j:=fun e=>U e.symm;simp[look,U,this]
  ·rw[if_neg h];simp only[look];by_cases U:i=j
   ·subst U;simp[h]
   ·simp only[U,if_false];exact Ng k j r
def Ly(agg:Bool):List ah->aW ah
 |[p]=>if agg then some (.agg [p])else some p
 |cs=>if agg then some (.agg cs)else none
def w9(st:bh)(agg:Bool)(s:Nat):aW bh:=
 match get s st.t with
 | .ptr k 0=>match look k st.b with
  |some cs=>if ik cs then match Ly agg cs with
    |some x=>some {st with t:=put s (.eptr x) st.t,b:=tX k st.b}
    |none=>none
   else none
  |none=>none
 |_=>none
theorem anj{u:Value}(h:u.oneCell'=true):u.cells.toList=[u]:=by cases u<;>first|rfl|(simp[Value.oneCell']at h)
theorem W6{w:World}{A:Nat->Nat->Prop}{b:Nat}{us:Array Value}{el:fF}(ae:w.heap[b]? =some (.cells us el))(be:∀o,o<us.size->A b o):∀(ba:List Value) (off:Nat),us.toList.drop off=ba->ly w A b off ba
 |[],_,_=>trivial
 |v::ba,off,h=>by
  have a:off<us.toList.length:=by
   rcases Nat.lt_or_ge off us.toList.length with J|J
   ·exact J
   ·rw[List.drop_eq_nil_of_le J]at h;cases h
  have U:=mh a;rw[h]at U;injection U with U d;refine⟨⟨be off (by simpa using a),?_⟩,W6 ae be ba (off+1) d.symm⟩;have c:off<us.size:=by simpa using a
  simp only[World.cell?,ae,nh,hz,if_false];rw[U];simp[c]
theorem agT{C:e0}{st st':bh}{a:Act}{w:World}{Z:aZ}(h:cS C st a w Z){agg:Bool}{s:Nat}(he:w9 st agg s=some st'):∃Z',cS C st' a w Z':=by
 unfold w9 at he;split at he
 ·rename_i k ad;split at he
  ·rename_i cs t;split at he
   ·rename_i E;split at he
    ·rename_i x c;cases he;obtain⟨bl,us,el,g1,g2,g3,g4,g5⟩:=h.good.box k cs t;rw[qC E]at g5;rw[rk E]at g4;have X:bl<w.heap.size:=by
      rcases Nat.lt_or_ge bl w.heap.size with J|J
      ·exact J
      ·rw[Array.getElem?_eq_none J]at g4;cases g4
     let Z':aZ:={Z with A:=fun b o=>Z.A b o\/(b=bl/\o<us.size)}
     have ak:lU w Z w Z':=⟨fun b o be=>⟨.inl be,rfl⟩,fun j b _ d=>d,fun g n u _ P=>⟨n,u,P,.inl ⟨rfl,rfl⟩⟩,fun _ _ _=>rfl,fun _ _ _ _ h=>h⟩;have G:∀j f,look j (tX k st.b)=some f->j≠k/\look j st.b=some f:=fun j f d=>by
      rw[Ng]at d;split at d
      ·cases d
      ·rename_i e;exact⟨e,d⟩
     have r:∀j,(look j (tX k st.b)).isSome->(look j st.b).isSome:=fun j d=>by obtain⟨f,Q⟩:=gd.1 d;simp[(G j f Q).2]
     have M:∀(g:aB) (n:Nat) (v:Value),(look g st.e).isSome->Z.ow g=some (n,v)->v.ownBlock=some bl->et:=fun g n v J U ao=>h.good.obx g k n v bl J (by simp[t]) U ao g1;have N:aS w Z' (.eptr x) (a.tmps.getD s undef):=by
      have B:=h.slot s;rw[ad]at B;simp only[aS]at B⊢;obtain⟨cb,L,y⟩:=B;rw[g1]at L;cases L;have z:ly w Z'.A bl 0 us.toList:=W6 g4 (fun o ak=>.inr ⟨rfl,ak⟩) _ 0 rfl;have g6:cW w Z' cs us.toList:=Zt ak g5;unfold Ly at c;split at c
      ·rename_i p;simp only[cW]at g6;obtain⟨u,K,l,m,q⟩:=g6;subst q;split at c
       ·cases c;exact⟨bl,0,.agg us,y,by simp only[aS];exact⟨us,rfl,by rw[l];simp only[cW];exact⟨u,[],rfl,m,rfl⟩⟩,by simpa[nM]using z⟩
       ·cases c;refine⟨bl,0,u,y,m.1,?_⟩;rw[anj m.2,<-l];exact z
      ·split at c
       ·cases c;exact⟨bl,0,.agg us,y,by simp only[aS];exact⟨us,rfl,g6⟩,by simpa[nM]using z⟩
       ·cases c
     refine⟨Z',ON (Z:=Z') (st:={st with b:=tX k st.b}) ⟨⟨fun b o be=>?_,fun j f d=>?_,fun j H b J U=>h.good.inj j H b (r j J) (r H U),fun g o aY=>?_,h.good.oinj,fun g j n v b J U=>h.good.obx g j n v b J (r j U),h.good.one,fun b aM=>h.good.otr b (aM.imp (fun⟨j,Y,a2⟩=>⟨j,r j Y,a2⟩) id)⟩,⟨h.fr.os,h.fr.tape,h.fr.output,h.fr.size,h.fr.block,fun b o be=>⟨.inl (h.fr.keep b o be).1,(h.fr.keep b o be).2⟩,fun b o be=>?_,h.fr.obj,h.fr.obn,h.fr.row,h.fr.obr,h.fr.trd,h.fr.trb,h.fr.trn,h.fr.sh,h.fr.nrow⟩,h.defers,h.size,fun i=>wx ak (h.slot i),h.new,fun x c=>⟨wx ak (h.ext x c).1,(h.ext x c).2⟩,h.obk⟩ N⟩
     ·rcases be with be|⟨rfl,_⟩
      ·exact h.good.alt b o be
      ·exact X
     ·obtain⟨W,F⟩:=G j f d;obtain⟨O,K,S,f1,f2,f3,f4,f5⟩:=h.good.box j f F;refine⟨O,K,S,f1,f2,fun o be=>?_,f4,qE ak f5⟩;rcases be with be|⟨rfl,_⟩
      ·exact f3 o be
      ·exact W (h.good.inj j k _ (by simp[F]) (by simp[t]) f1 g1)
     ·obtain⟨v0,R,l,m,q,V⟩:=h.good.own g o aY;have D:∀b,v0.ownBlock=some b->∀j,Z'.A b j->Z.A b j:=fun b ae j be=>by
       rcases be with be|⟨rfl,_⟩
       ·exact be
       ·exact(M g _ v0 (by simp[aY]) l ae).elim
      exact⟨v0,R,l,m,fun b ae=>⟨(q b ae).1,fun j be=>(q b ae).2 j (D b ae j be)⟩,sb ak D V⟩
     ·rcases be with be|⟨rfl,_⟩
      ·exact h.fr.fresh b o be
      ·exact .inr g2
    ·cases he
   ·cases he
  ·cases he
 ·cases he
def tD(st:bh)(x:ds)(b:Bool):bh:=match x with
 | .t i=>{st with t:=put i (.bool b) st.t}
 | .c _=>st
def ri(nw:List Nat)(o:List aB):List Nat:=nw.filter fun j=>decide (aB.obj j∉o)
theorem ak9{nw:List Nat}{o:List aB}:∀j∈ri nw o,aB.obj j∉o:=fun j a=>by have:=(nN.1 a).2;simpa using this
def dd(P:cz)(ob:List aB):C->(Exit->bh->Prop)->bh->Prop
 | .skip,Q,st=>Q .normal st
 | .region gs,Q,st=>hP P ob gs st (Q .normal)
 | .drawn q N gs,Q,st=>iu P q [] st.n gs st (va (st.n+N) st.o (Q .normal))
 | .drawnW nw N gs,Q,st=>iu P false (ri nw st.o) st.n gs st (va (st.n+N) ((ri nw st.o).map aB.obj++st.o) (Q .normal))
 | .seq a b,Q,st=>dd P ob a (fun e st'=>match e with| .normal=>dd P ob b Q st'|e=>Q e st') st
 | .cond x t e,Q,st=>match cc st.t x with
  | .bool b=>(b=true->dd P ob t Q (tD st x true))/\(b=false->dd P ob e Q (tD st x false))
  |_=>et
 | .block id c,Q,st=>dd P ob c (fun e st'=>match e with| .exit j=>if j=id then Q .normal st' else Q (.exit j) st'|e=>Q e st') st
 | .loop c,Q,st=> ∃(d:Nat->bh->Prop) (m:Nat) (f:bh),jx ob st f/\d m f/\
   ∀k s,d k s->(∀i,eK (get i s.t))->(∀j cs,look j s.b=some cs->ik cs=true->eV cs)->dd P ob c (fun e l=>match e with| .normal=> ∃h g,h<k/\jx ob l g/\d h g|e=>Q e l) s
 | .exit id,Q,st=>Q (.exit id) st
 | .ret,Q,st=>Q .ret st
 | .pub s c,Q,st=>match wi st s with
  |some st'=>dd P ob c Q st'
  |none=>et
 | .pubB s c,Q,st=>match xX st s with
  |some st'=>dd P ob c Q st'
  |none=>et
 | .fg n s c,Q,st=>dd P ob c Q {st with t:=put s (A2 n (get s st.t)) st.t}
 | .fd s c,Q,st=>DB ob st s/\dd P ob c Q (A1 st s)
 | .fz o s c,Q,st=>match w9 st o s with
  |some st'=>dd P ob c Q st'
  |none=>et
 | .no,_,_=>et
def hD(N:Nat)(bu:List (Nat×dE)):C->Code->Bool
 | .skip,.skip=>true
 | .region gs,.region _ ops false=>lf N bu ops.toList gs ops.toList
 | .drawn _ N' gs,.region _ ops true=>N'==N&&lf N bu ops.toList gs ops.toList&&C5 gs ops.toList&&AR N gs
 | .drawnW _ N' gs,.region _ ops true=>N'==N&&lf N bu ops.toList gs ops.toList&&C5 gs ops.toList&&AR N gs
 | .seq a b,.seq x y=>hD N bu a x&&hD N bu b y
 | .cond x t e,.cond o h g=>ep x o&&hD N bu t h&&hD N bu e g
 | .block id c,.block f d=>id==f&&hD N bu c d
 | .loop c,.loop d=>hD N bu c d
 | .exit id,.exit f=>id==f
 | .ret,.ret=>true
 | .pub _ c,d=>hD N bu c d
 | .pubB _ c,d=>hD N bu c d
 | .fg _ _ c,d=>hD N bu c d
 | .fz _ _ c,d=>hD N bu c d
 | .fd _ c,d=>hD N bu c d
 | .no,_=>true
 |_,_=>false
theorem UP{N:Nat}{bu:List (Nat×dE)}{ops:List Oper}:∀{gs:List dm} {os:List Oper},lf N bu ops gs os=true->gs.length=os.length
 |[],[],_=>rfl
 |[],_::_,h=>by simp[lf]at h
 |_::_,[],h=>by simp[lf]at h
 |g::gs,o::os,h=>by simp only[lf,cD]at h;simp[UP h.2]
def Qh(P:cz)(C:e0)(c:Code)(Q:Exit->bh->Prop)(st:bh):Prop:= ∀a w Z,cS C st a w Z->c.wp P (fun e bo w'=> ∃st' Z',Q e st'/\cS C st' bo w' Z') a w
theorem rS{P:cz}(hm:P.follows .mixedOrders=true){bu:List (Nat×dE)}(aM:e6 P bu=true){X:e0}:∀(c:C) (code:Code) (Q:Exit->bh->Prop) (st:bh),hD X.N bu c code=true->dd P X.ob c Q st->Qh P X code Q st
 | .skip,code,Q,st,ak,he=>by
  cases code<;>simp only[hD]at ak<;>try cases ak
  intro a w Z d;exact wp_skip ⟨st,Z,he,d⟩
 | .region gs,code,Q,st,ak,he=>by
  cases code<;>try(simp[hD]at ak;done)
  rename_i id ops draw;cases draw<;>simp only[hD]at ak
  ·intro a w Z d;refine wp_region ?_;have R:gs.length=ops.size:=by simpa using UP ak
   rw[List.range_eq_range',<-R];exact TP aM (K:=Q .normal) (fun st' bo w' Z' J U=>⟨st',Z',J,U⟩) gs ops.toList 0 Ψ ak st a w Z he d
  ·cases ak
 | .drawn q N gs,code,Q,st,ak,he=>by
  cases code<;>try(simp[hD]at ak;done)
  rename_i id ops draw;cases draw<;>simp only[hD]at ak
  ·cases ak
  ·simp only[cD,dS]at ak;obtain⟨⟨⟨rfl,J⟩,U⟩,u⟩:=ak;intro a w Z d;exact TO hm aM J U u (nw:=[]) (K:=Q .normal) (fun st' bo w' Z' J U=>⟨st',Z',J,U⟩) Ψ he d
 | .drawnW nw N gs,code,Q,st,ak,he=>by
  cases code<;>try(simp[hD]at ak;done)
  rename_i id ops draw;cases draw<;>simp only[hD]at ak
  ·cases ak
  ·simp only[cD,dS]at ak;obtain⟨⟨⟨rfl,J⟩,U⟩,u⟩:=ak;intro a w Z d;exact TO hm aM J U u (nw:=ri nw st.o) (K:=Q .normal) (fun st' bo w' Z' J U=>⟨st',Z',J,U⟩) ak9 he d
 | .seq x y,code,Q,st,ak,he=>by
  cases code<;>try(simp[hD]at ak;done)
  rename_i F G;simp only[hD,cD]at ak;intro a w Z d;refine wp_seq ?_;have J:=rS hm aM x F _ st ak.1 he a w Z d;refine wp_mono J fun e bo w' h=>?_;obtain⟨st',Z',f,g⟩:=h;cases e with
  |normal=>exact rS hm aM y G Q st' ak.2 f bo w' Z' g
  |_=>exact⟨st',Z',f,g⟩
 | .cond x t e,code,Q,st,ak,he=>by
  cases code<;>try(simp[hD]at ak;done)
  rename_i o z ce;simp only[hD,cD]at ak;intro a w Z d;simp only[dd]at he;have A:=er d ak.1.1;split at he
  ·rename_i b ae;rw[ae]at A;simp only[aS]at A;have B:cS X (tD st x b) a w Z:=by
    unfold tD;split
    ·exact OM d (by simpa[cc]using ae)
    ·exact d
   refine wp_cond A ?_;cases b
   ·exact rS hm aM e ce Q _ ak.2 (he.2 rfl) a w Z B
   ·exact rS hm aM t z Q _ ak.1.2 (he.1 rfl) a w Z B
  ·exact he.elim
 | .block id c,code,Q,st,ak,he=>by
  cases code<;>try(simp[hD]at ak;done)
  rename_i W r;simp only[hD,cD,dS]at ak;obtain⟨rfl,ak⟩:=ak;intro a w Z d;refine wp_block ?_;refine wp_mono (rS hm aM c r _ st ak he a w Z d) fun e bo w' h=>?_;obtain⟨st',Z',f,g⟩:=h;cases e with
  |exit j=>
   simp only[Exit.inBlock]at f⊢;by_cases n:j=id
   ·rw[if_pos n]at f⊢;exact⟨st',Z',f,g⟩
   ·rw[if_neg n]at f⊢;exact⟨st',Z',f,g⟩
  |_=>exact⟨st',Z',f,g⟩
 | .loop c,code,Q,st,ak,he=>by
  cases code<;>try(simp[hD]at ak;done)
  rename_i r;simp only[hD]at ak;intro a w Z d;simp only[dd]at he;obtain⟨L,m,D,hw,hi,H⟩:=he;refine wp_loop_ghost (fun k a w=> ∃s Z,L k s/\cS X s a w Z) m ⟨D,_,hi,d.weaker hw⟩ ?_;intro k a w v;obtain⟨s,Z,l,p⟩:=v;have J:=H k s l (fun i=>Zz (p.slot i)) (fun j cs n=>by obtain⟨bl,us,el,_,_,_,_,g5⟩:=p.good.box j cs n;exact Zm g5);refine wp_mono (rS hm aM c r _ s ak J a w Z p) fun e bo w' h=>?_;obtain⟨st',Z',f,g⟩:=h;cases e with
  |normal=>obtain⟨M,E,S,V,O⟩:=f;exact⟨M,S,E,_,O,g.weaker V⟩
  |_=>exact⟨st',Z',f,g⟩
 | .exit id,code,Q,st,ak,he=>by
  cases code<;>try(simp[hD]at ak;done)
  rename_i W;simp only[hD,dS]at ak;subst ak;intro a w Z d;exact wp_exit ⟨st,Z,he,d⟩
 | .ret,code,Q,st,ak,he=>by
  cases code<;>try(simp[hD]at ak;done)
  intro a w Z d;exact wp_ret ⟨st,Z,he,d⟩
 | .pub s c,code,Q,st,ak,he=>by
  simp only[hD]at ak;simp only[dd]at he;split at he
  ·rename_i st' l;intro a w Z d;obtain⟨Z',J⟩:=anz d l;exact rS hm aM c code Q st' ak he a w Z' J
  ·exact he.elim
 | .pubB s c,code,Q,st,ak,he=>by
  simp only[hD]at ak;simp only[dd]at he;split at he
  ·rename_i st' l;intro a w Z d;obtain⟨Z',J⟩:=anx d l;exact rS hm aM c code Q st' ak he a w Z' J
  ·exact he.elim
 | .fg Y s c,code,Q,st,ak,he=>by simp only[hD]at ak;simp only[dd]at he;intro a w Z d;exact rS hm aM c code Q _ ak he a w Z (ON d (agD (d.slot s)))
 | .fd s c,code,Q,st,ak,he=>by simp only[hD]at ak;simp only[dd]at he;intro a w Z d;obtain⟨Z',J⟩:=agC d he.1;exact rS hm aM c code Q _ ak he.2 a w Z' J
 | .fz gL s c,code,Q,st,ak,he=>by
  simp only[hD]at ak;simp only[dd]at he;intro a w Z d;split at he
  ·rename_i st' dr;obtain⟨Z',J⟩:=agT d dr;exact rS hm aM c code Q st' ak he a w Z' J
  ·exact he.elim
 | .no,code,Q,st,ak,he=>by simp only[dd]at he
inductive bU where
 |tmp (i:Nat)
 |cell (i:Nat) (agg:Bool) (sz:Nat)
def a1(st:bh):bU->aW (Prop×ah)
 | .tmp i=>some (True,get i st.t)
 | .cell i agg sz=>nC st.b st.e agg sz (get i st.t)
def aX(st:bh):List bU->aW (Prop×List ah)
 |[]=>some (True,[])
 |r::a=>match a1 st r,aX st a with
  |some (c,p),some (b,d)=>some (c/\b,p::d)
  |_,_=>none
def rl(bu:List (Nat×dE)):List bU->List ResultVar->Bool
 |[],[]=>true
 | .tmp i::a,.tmp j::os=>i==j&&rl bu a os
 | .cell i agg sz::a,.cell j t::os=>i==j&&(match ea bu t with|some f=>f.size==sz&&f.kind.isAgg==agg|none=>false)&&rl bu a os
 |_,_=>false
def aV:List ah->ah
 |[p]=>p
 |a=>.tuple a
def Jk(tmps:Array Value):ResultVar->Sem Value
 | .tmp t=>pure (tmps.getD t undef)
 | .cell x t=>do loadVar t (<-asAddr (tmps.getD x undef))
theorem aoR(fn:Func)(tmps:Array Value):results fn tmps=(do let ba<-fn.results.mapM (Jk tmps);pure (if h:ba.size=1 then ba[0]else .tuple ba)):=by unfold results;congr 2
theorem OZ{P:cz}{bu:List (Nat×dE)}(aM:e6 P bu=true){X:e0}{st:bh}{a:Act}{w:World}{Z:aZ}(g:cS X st a w Z):
  ∀(h:List bU) (os:List ResultVar) (c:Prop) (s:List ah),rl bu h os=true->aX st h=some (c,s)->c->
  ∃ba,(os.mapM (Jk a.tmps)).run P w= .ok ba w/\cH w Z s ba
 |[],[],c,s,_,he,_=>by simp only[aX]at he;cases he;exact⟨[],Ψ,by simp[cH]⟩
 |[],_::_,_,_,ak,_,_=>by simp[rl]at ak
 | .tmp _::_,[],_,_,ak,_,_=>by simp[rl]at ak
 | .cell _ _ _::_,[],_,_,ak,_,_=>by simp[rl]at ak
 |r::h,o::os,c,s,ak,he,ax=>by
  simp only[aX]at he;split at he
  ·rename_i H p c2 z J U;cases he;cases r with
   |tmp i=>
    cases o with
    |cell _ _=>simp[rl]at ak
    |tmp j=>simp only[rl,cD,dS]at ak;obtain⟨rfl,ak⟩:=ak;simp only[a1]at J;cases J;obtain⟨ba,g1,g2⟩:=OZ aM g h os c2 z ak U ax.2;refine⟨a.tmps.getD i undef::ba,?_,by simp only[cH];exact⟨_,_,rfl,g.slot i,g2⟩⟩;simp only[List.mapM_cons,fq,Jk,gn,fx,g1]
   |cell i agg sz=>
    cases o with
    |tmp _=>simp[rl]at ak
    |cell j t=>
     simp only[rl,cD,dS]at ak;obtain⟨⟨rfl,x⟩,ak⟩:=ak;split at x
     ·rename_i f B;simp only[cD,dS]at x;obtain⟨rfl,rfl⟩:=x;simp only[a1]at J;obtain⟨ba,g1,g2⟩:=OZ aM g h os c2 z ak U ax.2;obtain⟨v,f1,f2⟩:=Ih aM g.good B (g.slot i) J ax.1;have D:∃m,a.tmps.getD i undef= .pointer (some m):=by
       have d:=g.slot i;unfold nC at J;split at J
       ·rename_i G k n F E l;rw[l]at d;simp only[aS]at d;obtain⟨⟨b,o,e⟩,_⟩:=d;exact⟨_,e⟩
       ·rename_i k off l;rw[l]at d;simp only[aS]at d;obtain⟨b,_,e⟩:=d;exact⟨_,e⟩
       ·rename_i q l;rw[l]at d;simp only[aS]at d;obtain⟨b,off,u,e,_⟩:=d;exact⟨_,e⟩
       ·cases J
      obtain⟨m,A⟩:=D;rw[A]at f1;simp only[Instr.loadAt,Instr.sureAddr,fq,gn,fx]at f1;refine⟨v::ba,?_,by simp only[cH];exact⟨_,_,rfl,f2,g2⟩⟩;have y:(asAddr (.pointer (some m)):Sem Addr).run P w= .ok m w:=rfl;simp only[List.mapM_cons,fq,Jk,gn,fx,g1,A,y,f1]
     ·cases x
  ·cases he
theorem Fy{w:World}{Z:aZ}:∀{a:List ah} {ba:List Value},cH w Z a ba->ba.length=a.length
 |[],ba,h=>by simp only[cH]at h;subst h;rfl
 |p::a,ba,h=>by simp only[cH]at h;obtain⟨u,b,rfl,_,U⟩:=h;simp[Fy U]
def j5:Nat->List ah->List (Nat×ah)
 |_,[]=>[]
 |i,p::a=>(i,p)::j5 (i+1) a
theorem He:∀(a:List ah) (i j:Nat),get j (j5 i a)=if i<=j/\j<i+a.length then a.getD (j-i) .junk else .junk
 |[],i,j=>by simp[j5,get]
 |p::a,i,j=>by
  simp only[j5,get];by_cases h:i=j
  ·subst h;simp
  ·rw[if_neg h,He a (i+1) j];by_cases U:i<=j/\j<i+(p::a).length
   ·rw[if_pos U,if_pos (by simp at U⊢;omega)];have:j-i=(j-(i+1))+1:=Ω
    rw[this];simp
   ·rw[if_neg U,if_neg (by simp at U⊢;omega)]
def hb{α:Type}(a:cM):List (aB×α)->Prop
 |[]=>True
 |(k,_)::r=>inObs a k/\hb a r
theorem BL{α:Type}{b:cM}:∀{l:List (aB×α)},hb b l->∀k,(look k l).isSome->inObs b k
 |[],_,k,h=>by simp[look]at h
 |(i,x)::r,a,k,h=>by
  simp only[hb]at a;simp only[look]at h;split at h
  ·rename_i e;subst e;exact a.1
  ·exact BL a.2 k h
def cO(d:List bU)(s:cM)(Q:ah->cM->Prop)(e:Exit)(st:bh):Prop:=
 (e= .ret\/e= .normal)/\match aX st d with
  |some (c,b)=>c/\∃a,hb a s.b/\hb a s.e/\hf (inObs a) a.b st.b/\pX (inObs a) a.e st.e/\jm a/\av (inObs a) (de (aV b))/\Q (de (aV b)) a
  |none=>et
theorem bK.ofW{P:cz}{bu:List (Nat×dE)}(aM:e6 P bu=true){f:FuncId}{fn:Func}(aG:P.funcs[f]? =some fn){code:Code}(ae:fn.body=some code)(zi:(fn.name== "runtime.NumGoroutine")=false){fw:List bU}(zl:rl bu fw fn.results.toList=true)
  {args:List ah} (aq:args.length<=fn.ntmps) {s:cM} (nu:jm s) {Q:ah->cM->Prop} (he:∀X:e0,X.N=fn.ntmps->X.ob=dh s->X.ex=[]->(∀b o,X.Z0.A b o->b<X.w0.heap.size)->e1 args->(∀j cs,look j s.b=some cs->ik cs=true->eV cs)->Qh P X code (cO fw s Q) ⟨j5 0 args,s.b,s.e,0,dh s⟩):bK P f args s Q:=by
 intro w Z ba gl aY ab aD;refine .inl ⟨⟨fn,aG,by simp[ae],zi⟩,?_⟩;have qv:=Fy aD;have jk:ba.size=args.length:=by simpa using qv
 let X:e0:=⟨w,Z,fZ Z s,fn.ntmps,dh s,gl,[]⟩
 have pK:∀k,fresh 0 (dh s) k->Z.bx k=none/\Z.ow k=none/\∀j b,¬Z.tr k j b:=by
  intro k ad;cases k with
  |loc m=>exact⟨(ab _).1 (nu.1 m),(ab _).2.1 (nu.2 m),(ab _).2.2⟩
  |obj m=>
   simp only[fresh,true_and]at ad;refine⟨?_,?_,(ab _).2.2⟩
   ·refine(ab _).1 ?_;cases h:look (.obj m) s.b with
    |none=>rfl
    |some x=>exact absurd (uM (.inl (by simp[h]))) ad
   ·refine(ab _).2.1 ?_;cases h:look (.obj m) s.e with
    |none=>rfl
    |some x=>exact absurd (uM (.inr (by simp[h]))) ad
 have j2:∀m,(Z.bx (.obj m)≠none\/Z.ow (.obj m)≠none)-> .obj m∈dh s:=by
  intro m hm;refine Classical.byContradiction fun ax=>?_;obtain⟨J,U,_⟩:=pK (.obj m) ⟨trivial,ax⟩;rcases hm with hm|hm
  ·exact hm J
  ·exact hm U
 have od:cS X ⟨j5 0 args,s.b,s.e,0,dh s⟩ {tmps:=ba++Array.replicate (fn.ntmps-ba.size) undef,defers:=[]} w Z:=by
  refine⟨⟨aY.alt,fun k cs ad=>?_,aY.inj,fun g o fo=>?_,aY.oinj,aY.obx,aY.one,aY.otr⟩,⟨rfl,rfl,rfl,eR _,fun _ _ _=>rfl,fun b o h=>⟨h,rfl⟩,fun b o h=>.inl h,fun n b h=>h,fun n b h=>j2 n (.inl (by rw[h];simp)),fun m n u h=>⟨n,u,h,.inl ⟨rfl,rfl⟩⟩,fun m n u h=>j2 m (.inr (by rw[h];simp)),fun k j _ _ b h=>absurd h ((ab k).2.2 j b),fun k j b h=>absurd h ((ab k).2.2 j b),fun k j b h=>absurd h ((ab k).2.2 j b),fun _ _ _=>rfl,fun j n u b ai _=>(by rw[(ab _).2.1 (nu.2 j)]at ai;cases ai)⟩,rfl,?_,fun i=>?_,pK,fun _ ab=>(by cases ab),fun m hm aG=>aG.2 hm⟩
  ·obtain⟨bl,us,el,g1,g2,g3⟩:=aY.box k cs ad;exact⟨bl,us,el,g1,.inl g2,g3⟩
  ·obtain⟨v,us,g1,g2,g3,g4⟩:=aY.own g o fo;exact⟨v,us,g1,g2,fun bl dV=>⟨.inl (g3 bl dV).1,(g3 bl dV).2⟩,g4⟩
  ·show(ba++Array.replicate (fn.ntmps-ba.size) undef).size=fn.ntmps;simp;omega
  ·rw[He];by_cases hi:i<args.length
   ·rw[if_pos Ω];have vF:args[i]? =some args[i]:=cl hi;obtain⟨v,ai,aC⟩:=Jd i aD vF;have aK:(ba++Array.replicate (fn.ntmps-ba.size) undef).getD i undef=v:=by
     have GS:ba[i]? =some v:=by simpa using ai
     rw[Array.getD_eq_getD_getElem?,Array.getElem?_append_left Ω,GS];rfl
    show aS w Z _ ((ba++Array.replicate (fn.ntmps-ba.size) undef).getD i undef);rw[aK];simpa[List.getD,vF]using aC
   ·rw[if_neg Ω];simp[aS]
 have ajp:=he X rfl rfl rfl aY.alt (Zx aD) (fun j cs af=>by obtain⟨bl,us,el,_,_,_,_,g5⟩:=aY.box j cs af;exact Zm g5) _ w Z od;refine calls_of_wp aG ae (wp_mono ajp fun e bo w' cP=>?_);obtain⟨st',Z',⟨sT,bz⟩,dG⟩:=cP;cases l1:aX st' fw with
 |none=>simp[l1]at bz
 |some x=>
  obtain⟨cw,cr⟩:=x;simp only[l1]at bz;obtain⟨h2,aj,kb,ke,a8,bA,bR,cY,da⟩:=bz;obtain⟨x3,g1,g2⟩:=OZ aM dG fw fn.results.toList cw cr zl l1 h2;have ai4:=Fy g2;have dR:bo.defers=[]/\∃v,(results fn bo.tmps).run P w'= .ok v w'/\(fun(e:Ending) w'=> ∃v r aj Z',e= .returned v/\Q r aj/\aS w' Z' r v/\Good (fun bl=>fZ Z s bl\/w.heap.size<=bl) w' Z' aj.b aj.e/\ql Z' aj/\jm aj/\qa ⟨w,Z,fZ Z s,0,dh s,gl,[]⟩ w' Z') (.returned v) w':=by
   refine⟨dG.defers,?_⟩;have h7:(results fn bo.tmps).run P w'= .ok (if h:x3.toArray.size=1 then x3.toArray[0]else .tuple x3.toArray) w':=by rw[aoR];simp only[fq,Array.mapM_eq_mapM_toList,Sem.run_map,g1,fx,gn]
   refine⟨_,h7,_,de (aV cr),aj,Z'.cut (inObs aj),rfl,da,?_,dG.good.cut a8 bA (fun bl h _=>h),?_,bR,?_⟩
   ·have kW:aS w' Z' (aV cr) (if h:x3.toArray.size=1 then x3.toArray[0]else .tuple x3.toArray):=by
     match cr,x3,g2,ai4 with
     |[p],[v],g2,_=>simp only[cH]at g2;obtain⟨u,bY,ai,aC,_⟩:=g2;cases ai;simpa[aV]using aC
     |[],[],g2,_=>simp[aV,aS,cH]
     |p::du::cr,v::v2::x3,g2,_=>rw[dif_neg Ψ];simp only[aV,aS];exact⟨_,rfl,by simpa using g2⟩
     |[_],[],_,h=>simp at h
     |[],_::_,_,h=>simp at h
     |[_],_::_::_,_,h=>simp at h
     |_::_::_,[],_,h=>simp at h
     |_::_::_,[_],_,h=>simp at h
    exact tE (pn.cut _ w' Z') _ _ cY (zY _ _ kW)
   ·intro k;refine⟨?_,?_,?_⟩;rotate_left 2
    ·rintro j b ⟨ag,ae⟩;obtain⟨t1,t2⟩:=dG.fr.trn k j b ae;rcases ag with ag|ag<;>obtain⟨x,iV⟩:=gd.1 ag
     ·obtain⟨bl,bY,el,ai,_⟩:=dG.good.box k x (a8 k x iV).1;rw[t1]at ai;cases ai
     ·obtain⟨v',bY,ai,_⟩:=dG.good.own k x (bA k x iV).1;rw[t2]at ai;cases ai
    ·intro ad;by_cases ag:inObs aj k
     ·rw[aZ.cut_bx ag];rcases ag with ag|ag
      ·rw[ad]at ag;cases ag
      ·obtain⟨x,iV⟩:=gd.1 ag;obtain⟨v',bY,ai,_⟩:=dG.good.own k x (bA k x iV).1;rcases dG.good.one k with J|J
       ·exact J
       ·rw[J]at ai;cases ai
     ·exact(aZ.cut_no ag).1
    ·intro ad;by_cases ag:inObs aj k
     ·rw[aZ.cut_ow ag];rcases ag with ag|ag
      ·obtain⟨x,iV⟩:=gd.1 ag;obtain⟨bl,bY,el,ai,_⟩:=dG.good.box k x (a8 k x iV).1;rcases dG.good.one k with J|J
       ·rw[J]at ai;cases ai
       ·exact J
      ·rw[ad]at ag;cases ag
     ·exact(aZ.cut_no ag).2.1
   ·refine⟨dG.fr.os,dG.fr.tape,dG.fr.output,dG.fr.size,dG.fr.block,dG.fr.keep,dG.fr.fresh,fun n b h=>?_,fun n b h=>j2 n (.inl (by rw[h];simp)),fun m n u h=>?_,fun m n u h=>j2 m (.inr (by rw[h];simp)),fun k j bn df b J U=>dG.fr.trd k j bn df b J.2 U.2,fun k j b ae=>dG.fr.trb k j b ae.2,fun k j b ae=>(by rw[aZ.cut_bx ae.1,aZ.cut_ow ae.1];exact dG.fr.trn k j b ae.2),dG.fr.sh,fun j n u b ai aC=>dG.fr.nrow j n u b (aZ.cut_someO ai).2 aC⟩
    ·have ag:inObs aj (.obj n):=by
      cases aq:look (.obj n) s.b with
      |none=>rw[(ab _).1 aq]at h;cases h
      |some x=>exact BL kb _ (by simp[aq])
     rw[aZ.cut_bx ag];exact dG.fr.obj n b h
    ·have ag:inObs aj (.obj m):=by
      cases aq:look (.obj m) s.e with
      |none=>rw[(ab _).2.1 aq]at h;cases h
      |some x=>exact BL ke _ (by simp[aq])
     rw[aZ.cut_ow ag];exact dG.fr.row m n u h
  rcases sT with rfl|rfl<;>exact dR
theorem bK.of{P:cz}(hm:P.follows .mixedOrders=true){bu:List (Nat×dE)}(aM:e6 P bu=true){f:FuncId}{fn:Func}(aG:P.funcs[f]? =some fn){code:Code}(ae:fn.body=some code)(zi:(fn.name== "runtime.NumGoroutine")=false){c:C}(ax:hD fn.ntmps bu c code=true){fw:List bU}(zl:rl bu fw fn.results.toList=true)
  {args:List ah} (aq:args.length<=fn.ntmps) {s:cM} (nu:jm s) {Q:ah->cM->Prop} (he:e1 args->(∀j cs,look j s.b=some cs->ik cs=true->eV cs)->dd P (dh s) c (cO fw s Q) ⟨j5 0 args,s.b,s.e,0,dh s⟩):bK P f args s Q:=
 bK.ofW aM aG ae zi zl aq nu fun X mN rX _ _ J U=>rS hm aM c code _ _ (by rw[mN];exact ax) (by rw[rX];exact he J U)
def b4(bu:List (Nat×dE))(c:C)(fw:List bU)(ak6:Nat)(fn:Func):Bool:=
 match fn.body with
 |some code=>hD fn.ntmps bu c code&&rl bu fw fn.results.toList&& !(fn.name== "runtime.NumGoroutine")&&decide (ak6<=fn.ntmps)
 |none=>false
theorem bK.mk{P:cz}(hm:P.follows .mixedOrders=true){bu:List (Nat×dE)}(aM:e6 P bu=true){f:FuncId}{fn:Func}(h:P.funcs[f]? =some fn){c:C}{b:List bU}{n:Nat}(a:b4 bu c b n fn=true)
  {args:List ah} (e:args.length<=n) {s:cM} (d:jm s) {Q:ah->cM->Prop} (he:e1 args->(∀j cs,look j s.b=some cs->ik cs=true->eV cs)->dd P (dh s) c (cO b s Q) ⟨j5 0 args,s.b,s.e,0,dh s⟩):bK P f args s Q:=by
 unfold b4 at a;split at a
 ·rename_i code ae;simp only[cD,Bool.not_eq_true',e8]at a;obtain⟨⟨⟨J,U⟩,g⟩,i⟩:=a;exact bK.of hm aM h ae g J U (jM e i) d he
 ·cases a
theorem wc:jm ⟨[],[]⟩:=⟨fun _=>rfl,fun _=>rfl⟩
def bE(a:List bU)(r:ah)(e:Exit)(st:bh):Prop:=
 (e= .ret\/e= .normal)/\match aX st a with
  |some (c,b)=>c/\de (aV b)=r
  |none=>et
theorem abz{b:List bU}{r:ah}(g:av (fun _=>et) r):bE b r=cO b ⟨[],[]⟩ (fun f d=>f=r/\d=⟨[],[]⟩):=by
 funext e st;unfold bE cO;apply propext;refine and_congr_right fun _=>?_;cases aX st b with
 |none=>exact Iff.rfl
 |some x=>
  obtain⟨c,i⟩:=x;refine and_congr_right fun _=>?_;constructor
  ·intro h;refine⟨⟨[],[]⟩,trivial,trivial,fun k cs a=>by simp[look]at a,fun k cs a=>by simp[look]at a,wc,?_,h,rfl⟩;rw[h];exact tl (fun k a=>a.elim) r g
  ·rintro⟨d,_,_,_,_,_,_,h,_⟩;exact h
theorem bL.mk{P:cz}(hm:P.follows .mixedOrders=true){bu:List (Nat×dE)}(aM:e6 P bu=true){f:FuncId}{fn:Func}(e:P.funcs[f]? =some fn){c:C}{a:List bU}{n:Nat}(b:b4 bu c a n fn=true)
  {args:List ah} (d:args.length<=n) {r:ah} (g:av (fun _=>et) r) (he:e1 args->dd P [] c (bE a r) ⟨j5 0 args,[],[],0,[]⟩):bL P f args r:=by
 refine bK.mk hm aM e b d wc fun J _=>?_;rw[<-abz g];exact he J
theorem P3{α:Type}{β:Type}:∀l:List (aB×α),bZ ([]:List (aB×β)) l=l
 |[]=>rfl
 |(k,x)::r=>by simp[bZ,look,P3 r]
theorem cC.val{P:cz}{n:Nat}{args:List ah}{st:bh}{d:aW Nat}{K:bh->Prop}{r:ah}(a:aA (fun _=>et) args)(c:bL P n args r)(h:K {st with t:=eP d r st.t}):cC P n args st d K:=by
 refine .inl ⟨⟨[],[]⟩,_,fun k cs a=>by simp[look]at a,fun k cs a=>by simp[look]at a,wc,kB (fun _ h=>h.elim) _ a,c,?_⟩;rintro b e ⟨rfl,rfl⟩;refine⟨⟨fun m h=>by simp[look]at h,fun m h=>by simp[look]at h⟩,?_⟩;have:after st ⟨[],[]⟩ ⟨[],[]⟩ d b={st with t:=eP d b st.t}:=by simp[after,P3,dh]
 rw[this];exact h
@[reducible,simp] def gi(n:Int):ds:= .c (.int .i64 n)
@[reducible,simp] def I(a b:Nat):dm:=⟨none,.s (.v a (.mov (.t b)))⟩
@[reducible,simp] def bG(a:Nat)(i:gq):dm:=⟨none,.s (.v a i)⟩
@[reducible,simp] def c8(i:eb):dm:=⟨none,.s i⟩
@[reducible,simp] def dU(a f:Nat)(l:List ds):dm:=⟨none,.call (some a) (.c (.func f [])) l⟩
@[reducible,simp] def cg(j:Nat)(w:Bool)(a b:Nat):dm:=⟨some (j,w),.s (.v a (.mov (.t b)))⟩
@[reducible,simp] def yj(j:Nat)(w:Bool)(a:Nat)(i:gq):dm:=⟨some (j,w),.s (.v a i)⟩
@[reducible,simp] def ys(j:Nat)(w:Bool)(i:eb):dm:=⟨some (j,w),.s i⟩
@[reducible,simp] def cx(d s a b:Nat):dm:=bG d (.iaddr s (.t a) (.t b))
@[reducible,simp] def aw(d s a:Nat):dm:=bG d (.load false s (.t a))
@[reducible,simp] def bg(d s a:Nat):dm:=bG d (.load true s (.t a))
@[reducible,simp] def aH(d o s a:Nat):dm:=bG d (.faddr o false s (.t a))
@[reducible,simp] def h9(d o s a:Nat):dm:=bG d (.faddr o true s (.t a))
@[reducible,simp] def bp(d:Nat)(o:BinOp)(a b:Nat):dm:=bG d (.bin o false (.t a) (.t b))
@[reducible,simp] def aT(d:Nat)(o:BinOp)(a:Nat)(n:Int):dm:=bG d (.bin o false (.t a) (gi n))
@[reducible,simp] def cp(d a:Nat):dm:=bG d (.len (.t a))
@[reducible,simp] def cJ(d a:Nat):dm:=bG d (.notB (.t a))
@[reducible,simp] def dn(d i a:Nat):dm:=bG d (.ext i (.t a))
@[reducible,simp] def dy(d a b:Nat):dm:=bG d (.pick (.t a) (.c (.bool true)) (.t b))
@[reducible,simp] def ef(d a b:Nat):dm:=bG d (.pick (.t a) (.t b) (.c (.bool false)))
@[reducible,simp] def bt(d:Nat)(b:Bool):dm:=bG d (.mov (.c (.bool b)))
@[reducible,simp] def b1(d:Nat)(n:Int):dm:=bG d (.mov (gi n))
@[reducible,simp] def b7(s a b:Nat):dm:=c8 (.store s (.t a) (.t b))
@[reducible,simp] def ay(j:Nat)(w:Bool)(x:dm):dm:=⟨some (j,w),x.i⟩
@[reducible,simp] def aa(l:List dm)(c:C):C:= .seq (.region l) c
@[reducible,simp] def aU(n:Nat)(a b:C):C:= .cond (.t n) a b
@[reducible,simp] def hj(d a:Nat)(l:List ds):dm:=⟨none,.call (some d) (.t a) l⟩
@[reducible,simp] def cG(d f a:Nat):dm:=dU d f [.t a]
@[reducible,simp] def cq(d f a b:Nat):dm:=dU d f [.t a,.t b]
@[reducible,simp] def eI:List ah:=[.int .i64 0,.int .i64 0,.str [],.slice 4 .nil []]
@[reducible,simp] def ko:List ah:=[.int .i64 0,.int .i64 0,.int .i64 0,.str [],.slice 4 .nil []]
@[reducible,simp] def pP:List ah:=[.int .i64 0,.slice 5 .nil [],.slice 1 .nil [],.slice 2 .nil [],.slice 2 .nil []]
@[reducible,simp] def dc(a b:Nat):dm:=c8 (.box a none (.t b))
@[reducible,simp] def eg(a:Nat)(l:List ah):dm:=c8 (.alloc a none (.agg l))
@[reducible,simp] def fk(a n:Nat):dm:=bG a (.mov (.c (.slice n .nil [])))
@[reducible,simp] def hW(a b c d e:Nat):dm:=c8 (.app a b c (.t d) (.t e))
@[reducible,simp] def eD(a b c:Nat)(l:List ds):dm:=c8 (.bsl a b c l)
@[reducible,simp] def fQ(a b:Nat):dm:=bG a (.nck (.t b))
@[reducible,simp] def im(d s a:Nat)(n:Int):dm:=bG d (.iaddr s (.t a) (gi n))
@[reducible,simp] def mf(d:Nat)(l:List ah)(m:List (Nat×Nat×ds)):dm:=bG d (.build l m)
@[reducible,simp] def fR(a b c:Nat)(x:C):C:= .block 0 (.loop (aa [bp a .lss b c] (.seq (aU a .skip (.exit 0)) x)))
end
section
open Go Go.RowKit
theorem ev{α:Type}{l:List α}{i:Nat}(h:i<l.length):∃b,l[i]? =some b/\∀h,(l[i]'h)=b:=⟨l[i],cl h,fun _=>rfl⟩
def O6(st:bh)(i:eb):Prop:=match mF st i with|some (c,_)=>c|none=>et
def O7(st:bh)(i:eb):bh:=match mF st i with|some (_,s)=>s|none=>st
def wP(P:cz)(ob:List aB)(r:List dm)(K:bh->Prop)(st:bh):Prop:=hP P ob r st K
def Ay(P:cz)(ob:List aB)(c:C)(Q:Exit->bh->Prop)(st:bh):Prop:=dd P ob c Q st
def qV(P:cz)(ob:List aB)(v:ah)(s:Nat)(w:Bool)(i:ed)(r:List dm)(st:bh)(K:bh->Prop):Prop:=
 match v with
 | .bool b=>(b=w->hP P ob (⟨none,i⟩::r) {st with t:=put s (.bool w) st.t} K)/\(b= !w->hP P ob r {st with t:=eP i.dst (.tuple []) (put s (.bool !w) st.t)} K)
 | .tuple []=>hP P ob r {st with t:=eP i.dst (.tuple []) st.t} K
 |_=>et
def vs(P:cz)(ob:List aB)(v:ah)(x:ds)(t e:C)(Q:Exit->bh->Prop)(st:bh):Prop:=
 match v with
 | .bool b=>(b=true->dd P ob t Q (tD st x true))/\(b=false->dd P ob e Q (tD st x false))
 |_=>et
def K9(P:cz)(ob:List aB)(v:ah)(d:aW Nat)(xs:List ah)(r:List dm)(st:bh)(K:bh->Prop):Prop:=
 match v with
 | .func n cZ=>cC P n (cK (xs++cZ)) st d (wP P ob r K)
 |_=>et
section
variable {P:cz} {ob:List aB} {st:bh} {K:bh->Prop} {r:List dm} {Q:Exit->bh->Prop} {a b c t e:C}
theorem ael:hP P ob [] st K=K st:=rfl
theorem aen{i:eb}:hP P ob (⟨none,.s i⟩::r) st K=(O6 st i/\hP P ob r (O7 st i) K):=by
 simp only[hP,qT,O6,O7];cases mF st i with
 |none=>simp
 |some x=>rfl
theorem aeh{d:aW Nat}{f:ds}{xs:List ds}:hP P ob (⟨none,.call d f xs⟩::r) st K=K9 P ob (cc st.t f) d (xs.map (cc st.t)) r st K:=by simp only[hP,qT,K9];rfl
def Lb(P:cz)(ob:List aB)(v:ah)(d:aW Nat)(xs:List ah)(r:List dm)(st:bh)(K:bh->Prop):Prop:=
 match v with
 | .func n cZ=>CV P ob n (xs++cZ) st d (wP P ob r K)
 |_=>et
theorem aem{d:aW Nat}{f:ds}{xs:List ds}:hP P ob (⟨none,.opn d f xs⟩::r) st K=Lb P ob (cc st.t f) d (xs.map (cc st.t)) r st K:=by simp only[hP,qT,Lb];rfl
theorem aef{n:Nat}{cZ xs:List ah}{d:aW Nat}:Lb P ob (.func n cZ) d xs r st K=CV P ob n (xs++cZ) st d (wP P ob r K):=rfl
def La(P:cz)(ob:List aB)(v:ah)(d:aW Nat)(r:List dm)(st:bh)(K:bh->Prop):Prop:=
 match v with
 | .func n cZ=> ¬n<1000000/\cC P (wL n) (cK cZ) st d (wP P ob r K)
 |_=>et
theorem aei{d:aW Nat}{f:ds}:hP P ob (⟨none,.callb d f⟩::r) st K=La P ob (cc st.t f) d r st K:=by simp only[hP,qT,La];rfl
theorem aee{n:Nat}{cZ:List ah}{d:aW Nat}:La P ob (.func n cZ) d r st K=(¬n<1000000/\cC P (wL n) (cK cZ) st d (wP P ob r K)):=rfl
theorem ap2(n:Nat):wL n=n-1000000:=rfl
theorem aek{d:Nat}{x:ds}:hP P ob (⟨none,.next d x⟩::r) st K=tZ st d (cc st.t x) (wP P ob r K):=by simp only[hP,qT];rfl
def wO(P:cz)(ob:List aB)(c:C)(Q:Exit->bh->Prop):aW bh->Prop
 |some st=>dd P ob c Q st
 |none=>et
theorem abx:wO P ob c Q (some st)=dd P ob c Q st:=rfl
theorem adU{s:Nat}:dd P ob (.pub s c) Q st=wO P ob c Q (wi st s):=by simp only[dd];cases wi st s<;>rfl
theorem adQ{a:Bool}{s:Nat}:dd P ob (.fg a s c) Q st=dd P ob c Q {st with t:=put s (A2 a (get s st.t)) st.t}:=rfl
theorem adR{a:Bool}{s:Nat}{d:C}:dd P ob (.seq (.fg a s c) d) Q st=dd P ob (.seq c d) Q {st with t:=put s (A2 a (get s st.t)) st.t}:=rfl
theorem adS{a:Bool}{s:Nat}:dd P ob (.fz a s c) Q st=wO P ob c Q (w9 st a s):=by simp only[dd];cases w9 st a s<;>rfl
theorem adT{a:Bool}{s:Nat}{d:C}:dd P ob (.seq (.fz a s c) d) Q st=wO P ob (.seq c d) Q (w9 st a s):=by simp only[dd];cases w9 st a s<;>rfl
theorem adO{s:Nat}:dd P ob (.fd s c) Q st=(DB ob st s/\dd P ob c Q (A1 st s)):=rfl
theorem adP{s:Nat}{d:C}:dd P ob (.seq (.fd s c) d) Q st=(DB ob st s/\dd P ob (.seq c d) Q (A1 st s)):=rfl
theorem adV{s:Nat}:dd P ob (.pubB s c) Q st=wO P ob c Q (xX st s):=by simp only[dd];cases xX st s<;>rfl
theorem aeg{n:Nat}{cZ:List ah}{d:aW Nat}{xs:List ah}:K9 P ob (.func n cZ) d xs r st K=cC P n (cK (xs++cZ)) st d (wP P ob r K):=rfl
theorem aej{s:Nat}{w:Bool}{i:ed}:hP P ob (⟨some (s,w),i⟩::r) st K=qV P ob (get s st.t) s w i r st K:=by simp only[hP,qV];try rfl
theorem aes{s:Nat}{i:ed}:qV P ob (.bool true) s true i r st K=hP P ob (⟨none,i⟩::r) {st with t:=put s (.bool true) st.t} K:=by simp[qV]
theorem aeo{s:Nat}{i:ed}:qV P ob (.bool false) s false i r st K=hP P ob (⟨none,i⟩::r) {st with t:=put s (.bool false) st.t} K:=by simp[qV]
theorem aer{s:Nat}{i:ed}:qV P ob (.bool true) s false i r st K=hP P ob r {st with t:=eP i.dst (.tuple []) (put s (.bool true) st.t)} K:=by simp[qV]
theorem aep{s:Nat}{i:ed}:qV P ob (.bool false) s true i r st K=hP P ob r {st with t:=eP i.dst (.tuple []) (put s (.bool false) st.t)} K:=by simp[qV]
theorem aeq{s:Nat}{w:Bool}{i:ed}:qV P ob (.tuple []) s w i r st K=hP P ob r {st with t:=eP i.dst (.tuple []) st.t} K:=by simp[qV]
theorem bT{x:Bool}{s:Nat}{w:Bool}{i:ed}(J:x=w->hP P ob (⟨none,i⟩::r) {st with t:=put s (.bool w) st.t} K)(U:x= !w->hP P ob r {st with t:=eP i.dst (.tuple []) (put s (.bool !w) st.t)} K):qV P ob (.bool x) s w i r st K:=⟨J,U⟩
theorem adD:dd P ob (.seq (.seq a b) c) Q st=dd P ob (.seq a (.seq b c)) Q st:=by simp only[dd];congr 1;funext e st';cases e<;>rfl
theorem ad0:dd P ob (.seq .skip c) Q st=dd P ob c Q st:=rfl
theorem adY:dd P ob (.seq .ret c) Q st=Q .ret st:=rfl
theorem adM{n:Nat}:dd P ob (.seq (.exit n) c) Q st=Q (.exit n) st:=rfl
theorem ad1:dd P ob .skip Q st=Q .normal st:=rfl
theorem adZ:dd P ob .ret Q st=Q .ret st:=rfl
theorem adN{n:Nat}:dd P ob (.exit n) Q st=Q (.exit n) st:=rfl
theorem adW{gs:List dm}:dd P ob (.seq (.region gs) c) Q st=hP P ob gs st (Ay P ob c Q):=rfl
theorem adX{gs:List dm}:dd P ob (.region gs) Q st=hP P ob gs st (Q .normal):=rfl
theorem adG{x:ds}:dd P ob (.seq (.cond x t e) c) Q st=vs P ob (cc st.t x) x (.seq t c) (.seq e c) Q st:=by simp only[dd,vs];try rfl
theorem adH{x:ds}:dd P ob (.cond x t e) Q st=vs P ob (cc st.t x) x t e Q st:=by simp only[dd,vs];try rfl
theorem ad3{x:ds}:vs P ob (.bool true) x t e Q st=dd P ob t Q (tD st x true):=by simp[vs]
theorem ad2{x:ds}:vs P ob (.bool false) x t e Q st=dd P ob e Q (tD st x false):=by simp[vs]
theorem bQ{v:Bool}{x:ds}(J:v=true->dd P ob t Q (tD st x true))(U:v=false->dd P ob e Q (tD st x false)):vs P ob (.bool v) x t e Q st:=⟨J,U⟩
def Ar(P:cz)(ob:List aB)(id:Nat)(c:C)(Q:Exit->bh->Prop)(e:Exit)(st:bh):Prop:=
 match e with
 | .normal=>dd P ob c Q st
 | .exit j=>if j=id then dd P ob c Q st else Q (.exit j) st
 |e=>Q e st
theorem adE{id:Nat}:dd P ob (.seq (.block id a) c) Q st=dd P ob a (Ar P ob id c Q) st:=by
 simp only[dd];congr 1;funext e st';cases e with
 |exit j=>rfl
 |_=>rfl
theorem adF{id:Nat}:dd P ob (.block id a) Q st=dd P ob a (Ar P ob id .skip Q) st:=by
 simp only[dd];congr 1;funext e st';cases e with
 |exit j=>simp only[Ar];by_cases b:j=id<;>simp[b,dd]
 |_=>rfl
theorem abl{id:Nat}:Ar P ob id c Q .normal st=Ay P ob c Q st:=rfl
theorem abk{id j:Nat}:Ar P ob id c Q (.exit j) st=if j=id then Ay P ob c Q st else Q (.exit j) st:=rfl
theorem abm{id:Nat}:Ar P ob id c Q .ret st=Q .ret st:=rfl
def bO(ob:List aB)(c:Nat->bh->Prop)(k:Nat)(Q:Exit->bh->Prop)(e:Exit)(st:bh):Prop:=
 match e with
 | .normal=> ∃b a,b<k/\jx ob st a/\c b a
 |e=>Q e st
theorem Ga{b:Nat->bh->Prop}{k:Nat}:bO ob b k Q .normal st= ∃c a,c<k/\jx ob st a/\b c a:=rfl
theorem abr{a:Nat->bh->Prop}{k n:Nat}:bO ob a k Q (.exit n) st=Q (.exit n) st:=rfl
theorem abt{a:Nat->bh->Prop}{k:Nat}:bO ob a k Q .ret st=Q .ret st:=rfl
theorem vr(b:Nat->bh->Prop)(m:Nat)(c:bh)(hw:jx ob st c)(n:b m c)(h:∀k s,b k s->(∀i,eK (get i s.t))->(∀j cs,look j s.b=some cs->ik cs=true->eV cs)->dd P ob a (bO ob b k Q) s):dd P ob (.loop a) Q st:=by
 simp only[dd];refine⟨b,m,c,hw,n,fun k s J U o=>?_⟩;have:=h k s J U o;have l:(bO ob b k Q)=(fun e d=>match e with| .normal=> ∃g f,g<k/\jx ob d f/\b g f|e=>Q e d):=by funext e d;cases e<;>rfl
 rw[l]at this;exact this
end
/-Regions cL draw kI order. -/
def O4(n0:Nat)(st:bh)(i:eb):Prop:=match eA (oN n0 i) st.n (oN n0 i::st.o) st i with|some (c,_)=>c|none=>et
def O5(n0:Nat)(st:bh)(i:eb):bh:=match eA (oN n0 i) st.n (oN n0 i::st.o) st i with|some (_,s)=>s|none=>st
def JY(P:cz)(q:Bool)(nw:List Nat)(n0:Nat)(r:List dm)(K:bh->Prop)(st:bh):Prop:=iu P q nw n0 r st K
def qU(P:cz)(q:Bool)(nw:List Nat)(n0:Nat)(v:ah)(s:Nat)(w:Bool)(i:ed)(r:List dm)(st:bh)(K:bh->Prop):Prop:=
 match v with
 | .bool b=>(b=w->iu P q nw n0 (⟨none,i⟩::r) {st with t:=put s (.bool w) st.t} K)/\(b= !w->iu P q nw n0 r {st with t:=eP i.dst (.tuple []) (put s (.bool !w) st.t)} K)
 | .tuple []=>iu P q nw n0 r {st with t:=eP i.dst (.tuple []) st.t} K
 |_=>et
def K8(P:cz)(q:Bool)(nw:List Nat)(n0:Nat)(v:ah)(d:aW Nat)(xs:List ah)(r:List dm)(st:bh)(K:bh->Prop):Prop:=
 match v with
 | .func n cZ=>iN P q nw n (cK (xs++cZ)) st d (JY P q nw n0 r K)
 |_=>et
section
variable {P:cz} {ob:List aB} {st:bh} {K:bh->Prop} {r:List dm} {Q:Exit->bh->Prop} {c:C} {q:Bool} {nw:List Nat} {n0 N:Nat}
theorem ad7:iu P q nw n0 [] st K=K st:=rfl
theorem ad8{i:eb}:iu P q nw n0 (⟨none,.s i⟩::r) st K=(lK q nw n0 st i/\O4 n0 st i/\iu P q nw n0 r (O5 n0 st i) K):=by
 simp only[iu,jQ,O4,O5];cases eA (oN n0 i) st.n (oN n0 i::st.o) st i with
 |none=>simp
 |some x=>rfl
theorem ad5{d:aW Nat}{f:ds}{xs:List ds}:iu P q nw n0 (⟨none,.call d f xs⟩::r) st K=K8 P q nw n0 (cc st.t f) d (xs.map (cc st.t)) r st K:=by simp only[iu,jQ,K8];rfl
theorem ad4{n:Nat}{cZ:List ah}{d:aW Nat}{xs:List ah}:K8 P q nw n0 (.func n cZ) d xs r st K=iN P q nw n (cK (xs++cZ)) st d (JY P q nw n0 r K):=rfl
theorem ad6{s:Nat}{w:Bool}{i:ed}:iu P q nw n0 (⟨some (s,w),i⟩::r) st K=qU P q nw n0 (get s st.t) s w i r st K:=by simp only[iu,qU];try rfl
theorem aed{s:Nat}{i:ed}:qU P q nw n0 (.bool true) s true i r st K=iu P q nw n0 (⟨none,i⟩::r) {st with t:=put s (.bool true) st.t} K:=by simp[qU]
theorem ad9{s:Nat}{i:ed}:qU P q nw n0 (.bool false) s false i r st K=iu P q nw n0 (⟨none,i⟩::r) {st with t:=put s (.bool false) st.t} K:=by simp[qU]
theorem aec{s:Nat}{i:ed}:qU P q nw n0 (.bool true) s false i r st K=iu P q nw n0 r {st with t:=eP i.dst (.tuple []) (put s (.bool true) st.t)} K:=by simp[qU]
theorem aea{s:Nat}{i:ed}:qU P q nw n0 (.bool false) s true i r st K=iu P q nw n0 r {st with t:=eP i.dst (.tuple []) (put s (.bool false) st.t)} K:=by simp[qU]
theorem aeb{s:Nat}{w:Bool}{i:ed}:qU P q nw n0 (.tuple []) s w i r st K=iu P q nw n0 r {st with t:=eP i.dst (.tuple []) st.t} K:=by simp[qU]
theorem bS{x:Bool}{s:Nat}{w:Bool}{i:ed}(J:x=w->iu P q nw n0 (⟨none,i⟩::r) {st with t:=put s (.bool w) st.t} K)(U:x= !w->iu P q nw n0 r {st with t:=eP i.dst (.tuple []) (put s (.bool !w) st.t)} K):qU P q nw n0 (.bool x) s w i r st K:=⟨J,U⟩
theorem adI{gs:List dm}:dd P ob (.seq (.drawn q N gs) c) Q st=iu P q [] st.n gs st (va (st.n+N) st.o (Ay P ob c Q)):=rfl
theorem adJ{gs:List dm}:dd P ob (.drawn q N gs) Q st=iu P q [] st.n gs st (va (st.n+N) st.o (Q .normal)):=rfl
theorem adK{gs:List dm}:dd P ob (.seq (.drawnW nw N gs) c) Q st=iu P false (ri nw st.o) st.n gs st (va (st.n+N) ((ri nw st.o).map aB.obj++st.o) (Ay P ob c Q)):=rfl
theorem adL{gs:List dm}:dd P ob (.drawnW nw N gs) Q st=iu P false (ri nw st.o) st.n gs st (va (st.n+N) ((ri nw st.o).map aB.obj++st.o) (Q .normal)):=rfl
theorem ala{o:List aB}:ri [] o=[]:=rfl
theorem ak8{j:Nat}{nw:List Nat}{o:List aB}:ri (j::nw) o=if aB.obj j∈o then ri nw o else j::ri nw o:=by simp only[ri,List.filter_cons,e8,ite_not]
theorem iN.val{n:Nat}{args:List ah}{d:aW Nat}{r:ah}(a:aA (fun _=>et) args)(b:bL P n args r)(h:K {st with t:=eP d r st.t}):iN P q nw n args st d K:=by
 refine .inr ⟨⟨[],[]⟩,⟨[],[]⟩,r,none,fun k cs a=>by simp[look]at a,fun k cs a=>by simp[look]at a,wc,wc,⟨fun k h=>.inl h,fun k h=>.inl h,fun k h=>h,fun k h=>h,fun k h=>by cases h⟩,kB (fun _ h=>h.elim) _ a,b,fun _=>⟨rfl,rfl⟩,?_⟩;have:({after st ⟨[],[]⟩ ⟨[],[]⟩ d r with o:=st.o}:bh)={st with t:=eP d r st.t}:=by simp[after,P3]
 rw[this];exact h
theorem aJ{n:Nat}{args:List ah}{d:aW Nat}{r:ah}(b:bL P n args r)(h:K {st with t:=eP d r st.t})(a:aA (fun _=>et) args:=by simp):iN P q nw n args st d K:=iN.val a b h
end
section
variable {k:IntKind} {n:Int} {b:Bool} {s:List bV} {sz:Nat} {tag:Ax} {xs:List ah} {key:aB} {off f:Nat} {x:ah}
@[simp]theorem avx:e5 (.int k n)=true:=rfl
@[simp]theorem avk:e5 (.bool b)=true:=rfl
@[simp]theorem avF:e5 (.str s)=true:=rfl
@[simp]theorem avE:e5 (.slice sz tag xs)=true:=rfl
@[simp]theorem avg:e5 (.agg xs)=true:=rfl
@[simp]theorem avC:e5 (.ptr key off)=true:=rfl
@[simp]theorem avt:e5 (.eptr x)=true:=rfl
@[simp]theorem avw{t:Nat}:e5 (.iface t x)=true:=rfl
@[simp]theorem ass{t:Nat}:cells (.iface t x)=[.iface t x]:=rfl
@[simp]theorem avm{a:aW Addr}{n c:Nat}:e5 (.cst (.slice a n c))=true:=rfl
@[simp]theorem avn{s}:e5 (.cst (.string s))=true:=rfl
@[simp]theorem avB:e5 .nilp=true:=rfl
@[simp]theorem avu:e5 (.func f xs)=true:=rfl
@[simp]theorem avv:e5 (.gmap key)=true:=rfl
@[simp]theorem avD{n:Nat}:e5 (.row sz key n)=true:=rfl
@[simp]theorem asA{n:Nat}:cells (.row sz key n)=[.row sz key n]:=rfl
@[simp]theorem ast:cells (.int k n)=[.int k n]:=rfl
@[simp]theorem ash:cells (.bool b)=[.bool b]:=rfl
@[simp]theorem asC:cells (.str s)=[.str s]:=rfl
@[simp]theorem asB:cells (.slice sz tag xs)=[.slice sz tag xs]:=rfl
@[simp]theorem asd:cells (.agg xs)=xs:=rfl
@[simp]theorem asz:cells (.ptr key off)=[.ptr key off]:=rfl
@[simp]theorem asp:cells (.eptr x)=[.eptr x]:=rfl
@[simp]theorem asy:cells .nilp=[.nilp]:=rfl
@[simp]theorem asq:cells (.func f xs)=[.func f xs]:=rfl
@[simp]theorem asr:cells (.gmap key)=[.gmap key]:=rfl
end
section
variable {b:List (aB×List ah)} {e:List (aB×ec)} {agg:Bool} {sz off:Nat} {k:aB} {p:ah} {cs xs ba:List ah} {fS:IntKind} {n i:Int} {m j:Nat} {tag:Ax} {s:List bV} {QO:Bool} {lo hi:aW ah}
@[simp]theorem auu{a:Nat}{f:Nat}:nC b e agg sz (.rptr a k m j f)=zZ agg sz a m j f (look k e):=rfl
@[simp]theorem aut:nC b e agg sz (.ptr k off)=(match look k b with
  |some cs=>if agg then some (ik cs=true/\off+sz<=cs.length,.agg ((cs.drop off).take sz))else(cs[off]?).map fun p=>(ik cs=true,p)
  |none=>none):=rfl
@[simp]theorem aus:nC b e agg sz (.eptr p)=if agg then some (isAgg sz p,p)else some (e5 p=true/\cells p=[p],p):=rfl
@[simp]theorem as0:DC agg sz (.eptr p)=if agg then some (isAgg sz p,p)else some (e5 p=true/\cells p=[p],p):=rfl
@[simp]theorem asS{o:Nat}:sG off agg sz (.ptr k o)=some (True,.ptr k (o+off)):=rfl
@[simp]theorem asT{a f:Nat}:sG off agg sz (.rptr a k m j f)=some (True,.rptr a k m j (f+off)):=rfl
@[simp]theorem asN:sG off agg sz (.eptr (.agg cs))=if agg then some (off+sz<=cs.length,.eptr (.agg ((cs.drop off).take sz)))else(cs[off]?).map fun p=>(e5 p=true/\cells p=[p],.eptr p):=rfl
@[simp]theorem asV:vu off agg sz (.agg cs)=if agg then some (off+sz<=cs.length,.agg ((cs.drop off).take sz))else(cs[off]?).map fun p=>(True,p):=rfl
@[simp]theorem atu{a:Nat}:BE sz (.slice a tag xs) (.int fS i)=if a=sz then some (0<=i/\i<xs.length,.eptr (xs.getD i.toNat .junk))else none:=rfl
@[simp]theorem att{a:Nat}:BE sz (.row a k m) (.int fS i)=if a=sz then some (0<=i/\i<m,.rptr a k m i.toNat 0)else none:=rfl
@[simp]theorem aur{a:Nat}:BQ (.slice a tag xs)=some (True,.int .i64 xs.length):=rfl
@[simp]theorem auq{a:Nat}:BQ (.row a k m)=some (True,.int .i64 m):=rfl
@[simp]theorem aup{a:aW Addr}{n c:Nat}:BQ (.cst (.slice a n c))=some (True,.int .i64 n):=rfl
@[simp]theorem ave{s}:FF (.cst (.string s))=some (True,.int .i64 s.size):=rfl
@[simp]theorem avf:FF (.str s)=some (True,.int .i64 s.length):=rfl
@[simp]theorem asM:AT j (.tuple ba)=(ba[j]?).map fun p=>(True,p):=rfl
@[simp]theorem auU:B1 (.ptr k off)=some (True,.ptr k off):=rfl
@[simp]theorem auS:B1 (.eptr p)=some (True,.eptr p):=rfl
@[simp]theorem auT:B1 (.func j cs)=some (True,.func j cs):=rfl
@[simp]theorem auV:Ix (.bool QO)=some (True,.bool (!QO)):=rfl
@[simp]theorem avd:Jo (.str s) (.int fS i)=some (0<=i/\i<s.length,.int .u8 (s.getD i.toNat 0).toNat):=rfl
@[simp]theorem avG:Jt (.str s) lo hi=(match r6 0 lo,r6 s.length hi with
  |some l,some h=>some (0<=l/\l<=h/\h<=s.length,.str ((s.take h.toNat).drop l.toNat))
  |_,_=>none):=rfl
@[simp]theorem auv{a:Nat}:Ii sz (.slice a tag xs) lo hi=(if a=sz then match r6 0 lo,r6 xs.length hi with
  |some l,some h=>some (0<=l/\l<=h/\h<=xs.length,.slice sz .no ((xs.take h.toNat).drop l.toNat))
  |_,_=>none else none):=rfl
theorem Xz{f:aB->aW (List ah)}{a:j8}{z q:ah}{ok:Bool}:o2 f a z ok (.gmap k) q=(match f k with
  |some (.hdm _ _::kvs)=>if xH a q=false then none else match xO a q kvs with
   |some (some v)=>some (True,if ok then .tuple [v,.bool true]else v)
   |some none=>some (True,if ok then .tuple [z,.bool false]else z)
   |none=>none
  |_=>none):=rfl
theorem Xw{f:aB->aW (List ah)}:qz f (.ptr k 0)=(match f k with
  |some [.hdi _ seen last,.gmap mk]=>match f mk with
   |some (.hdm clock borns::kvs)=>match seen.getLast? with
    |some n=>(nD n borns kvs).map fun p=>(clock=last,p)
    |none=>none
   |_=>none
  |_=>none):=rfl
@[simp]theorem ava{b f n' el a:Nat}:zZ agg sz b m j f (some ⟨n',el,a,some xs⟩)=(if n'=m/\a=b then
   (match xs[j]? with
    |some p=>if agg then some (e5 p=true/\f+sz<=(cells p).length,.agg (((cells p).drop f).take sz))else((cells p)[f]?).map fun q=>(e5 p=true,q)
    |none=>none)else none):=rfl
end
attribute [simp] adD adW adE adG ad0 adY adM ad1 adZ adN adX adF adH Ay abl abk abm abr abt ael aen aeh aeg aei aee ap2 aej
 aes aeo aer aep aeq ad3 ad2 O6 O7 mF hh j5 cc get put jH q9 oj oo cB r6 C9 HT Jv o6 vm IJ Is GM Ir
 look eP eb.dst ed.dst tD wP sA cK de av aA
 adI adJ adK adL ala ak8 ad7 ad8 ad5 ad4 ad6 aed ad9 aec aea aeb O4 O5 eA oN lK yO gq.loadO va JY zu ik nk aek adU adV adQ adR adS adT w9 Ly tX A2 abx wi Fj xX sg nG je Il Gm qf
theorem aI{P:cz}{n:Nat}{args:List ah}{st:bh}{d:aW Nat}{K:bh->Prop}{r:ah}(b:bL P n args r)(h:K {st with t:=eP d r st.t})(a:aA (fun _=>et) args:=by simp):cC P n args st d K:=cC.val a b h
theorem al{a b:Prop}(ae:b)(c:a:=by first|omega|(unfold e3;omega)|(unfold lim;omega)):a/\b:=⟨c,ae⟩
theorem cv{p:Prop}(h:et:=by first|contradiction|omega):p:=h.elim
theorem cn{p:Prop}(h:p:=by(try simp[*]);(repeat' first|with_reducible refine al ?_|with_reducible refine aI (by assumption) ?_|with_reducible refine aJ (by assumption) ?_|simp[*]);(all_goals first|done|(simp[bE,aX,a1,aV, *];done))):p:=h
attribute [simp] aem aef adO adP C7 HW hO h0 Di Dh GK AP A1 A0 DB
end
section
open Go Go.RowKit
structure ek (s:cM):Prop where
 obj:jm s
 kb:∀k cs,look k s.b=some cs->aA (inObs s) cs
 ke:∀k o,look k s.e=some o->dH (inObs s) o
structure Same (s aj:cM):Prop where
 b:∀k,(look k s.b).isSome=(look k aj.b).isSome
 e:∀k,(look k s.e).isSome=(look k aj.e).isSome
theorem Same.refl(s:cM):Same s s:=⟨fun _=>rfl,fun _=>rfl⟩
theorem Same.inObs{s a:cM}(h:Same s a)(k:aB):inObs s k↔inObs a k:=by unfold Pv.inObs;rw[h.b,h.e]
theorem v8{α:Type}{k:aB}{x:α}:∀{l:List (aB×α)},(k,x)∈l->(look k l).isSome
 |(i,y)::r,h=>by
  simp only[look];split
  ·rfl
  ·rename_i a;rcases gp.1 h with h|h
   ·cases h;exact absurd rfl a
   ·exact v8 h
theorem Wa{s:cM}{k:aB}(h:k∈dh s):inObs s k:=by
 unfold dh at h;rcases kr.1 h with h|h
 ·obtain⟨⟨a,x⟩,J,rfl⟩:=iL.1 h;exact .inl (v8 J)
 ·obtain⟨⟨a,x⟩,J,rfl⟩:=iL.1 h;exact .inr (v8 J)
theorem kD{s:cM}(h:jm s)(m:Nat):aB.loc m∉dh s:=fun hm=>by
 rcases Wa hm with J|J
 ·rw[h.1 m]at J;cases J
 ·rw[h.2 m]at J;cases J
theorem js{α β:Type}(s:List (aB×β)):∀(a b:List (aB×α)),bZ s (a++b)=bZ s a++bZ s b
 |[],b=>rfl
 |(k,x)::r,b=>by
  simp only[bX,bZ];cases look k s with
  |none=>simp[js s r b]
  |some _=>exact js s r b
theorem P4{α β:Type}(s:List (aB×β)):∀(l:List (aB×α)),(∀k x,(k,x)∈l->(look k s).isSome)->bZ s l=[]
 |[],_=>rfl
 |(k,x)::r,h=>by
  have J:=h k x Ψ;simp only[bZ];cases a:look k s with
  |none=>rw[a]at J;cases J
  |some _=>exact P4 s r fun k x b=>h k x (by simp[b])
theorem hy{α:Type}(s:List (aB×α)):bZ s s=[]:=P4 s s fun k x h=>v8 h
theorem kL{α:Type}{k:aB}{x:α}:∀{l:List (aB×α)},look k l=none->cB k x l=l++[(k,x)]
 |[],_=>rfl
 |(i,y)::r,h=>by
  simp only[look]at h;split at h
  ·cases h
  ·rename_i a;simp[cB,a,kL h]
theorem cV{α:Type}(k:aB):∀(a b:List (aB×α)),look k (a++b)=match look k a with|some x=>some x|none=>look k b
 |[],b=>rfl
 |(i,y)::r,b=>by
  simp only[bX,look];split
  ·rfl
  ·exact cV k r b
theorem cC.ob{P:cz}{n:Nat}{args:List ah}{st:bh}{d:aW Nat}{K:bh->Prop}{s:cM}{Q:ah->cM->Prop}(f:bK P n args s Q)(b:ek s)(ae:∀k cs,look k s.b=some cs->look k st.b=some cs)(he:∀k o,look k s.e=some o->look k st.e=some o)
  (e:aA (inObs s) args) (h:∀r a,Q r a->Same s a/\K ⟨eP d r st.t,bZ s.b st.b++a.b,bZ s.e st.e++a.e,st.n,st.o++dh a⟩):cC P n args st d K:=by
 refine .inl ⟨s,Q,fun k cs ax=>⟨ae k cs ax,.inl (by simp[ax]),b.kb k cs ax⟩,fun k o ak=>⟨he k o ak,.inr (by simp[ak]),b.ke k o ak⟩,b.obj,e,f,fun r a c=>?_⟩;obtain⟨J,U⟩:=h r a c;exact⟨⟨fun m hm=>.inl (by rw[J.b];exact hm),fun m hm=>.inl (by rw[J.e];exact hm)⟩,U⟩
theorem cO.ob{i:List bU}{s a:cM}{Q:ah->cM->Prop}{e:Exit}{st:bh}{c:Prop}{f:List ah}(n:e= .ret\/e= .normal)(p:aX st i=some (c,f))(ax:c)(g:ek a)(j:Same s a)(ae:∀k cs,look k a.b=some cs->look k st.b=some cs)(q:∀k o,look k a.e=some o->look k st.e=some o)
  (v:av (inObs a) (de (aV f))) (t:Q (de (aV f)) a):cO i s Q e st:=by
 refine⟨n,?_⟩;rw[p];have m:∀{α:Type} (l:List (aB×α)),(∀k x,(k,x)∈l->inObs a k)->hb a l:=by
  intro α l;induction l with
  |nil=>intro _;trivial
  |cons x r u=>obtain⟨k,x⟩:=x;intro h;exact⟨h k x Ψ,u fun k x b=>h k x (by simp[b])⟩
 exact⟨ax,a,m _ fun k x b=>.inl (by rw[<-j.b];exact v8 b),m _ fun k x b=>.inr (by rw[<-j.e];exact v8 b),fun k cs d=>⟨ae k cs d,.inl (by simp[d]),g.kb k cs d⟩,fun k o ak=>⟨q k o ak,.inr (by simp[ak]),g.ke k o ak⟩,g.obj,v,t⟩
theorem bK.mono{P:cz}{f:FuncId}{args:List ah}{s:cM}{Q b:ah->cM->Prop}(h:bK P f args s Q)(d:∀r a,Q r a->b r a):bK P f args s b:=by
 intro w Z ba gl J U i;have hm:∀(e:Ending) (w':World),(∃v r a Z',e= .returned v/\Q r a/\aS w' Z' r v/\Good (fun bl=>fZ Z s bl\/w.heap.size<=bl) w' Z' a.b a.e/\ql Z' a/\jm a/\qa ⟨w,Z,fZ Z s,0,dh s,gl,[]⟩ w' Z')->(∃v r a Z',e= .returned v/\b r a/\aS w' Z' r v/\Good (fun bl=>fZ Z s bl\/w.heap.size<=bl) w' Z' a.b a.e/\ql Z' a/\jm a/\qa ⟨w,Z,fZ Z s,0,dh s,gl,[]⟩ w' Z'):=by rintro e w' ⟨v,r,a,Z',g,a2,a3⟩;exact⟨v,r,a,Z',g,d _ _ a2,a3⟩
 rcases h w Z ba gl J U i with⟨c,ax⟩|⟨v,w',ax,j⟩
 ·exact .inl ⟨c,ax.mono hm⟩
 ·exact .inr ⟨v,w',ax,hm _ _ j⟩
theorem E1{s:cM}{k:aB}(h:inObs s k):¬fresh 0 (dh s) k:=fun a=>a.2 (uM h)
theorem jx.ob{s:cM}(d:ek s){st:bh}{c:List (Nat×ah)}(aM:∀x∈c,get x.1 st.t=x.2/\av (inObs s) x.2)(ae:∀k cs,look k s.b=some cs->look k st.b=some cs)(he:∀k o,look k s.e=some o->look k st.e=some o):
  jx (dh s) st ⟨c,s.b,s.e,0,dh s⟩:=
 ⟨fun x b=>⟨(aM x b).1,tl (fun k a=>E1 a) _ (aM x b).2⟩,fun k cs ax=>⟨ae k cs ax,E1 (.inl (by simp[ax])),kB (fun k a=>E1 a) _ (d.kb k cs ax)⟩,
  fun k o ak=>⟨he k o ak,E1 (.inr (by simp[ak])),fun xs b=>kB (fun k a=>E1 a) _ (d.ke k o ak xs b)⟩,fun m hm=>hm⟩
def cT(st:bh)(a:List bU)(R:ah->Prop):Prop:=match aX st a with
 |some (c,b)=>c/\R (de (aV b))
 |none=>et
theorem cO.at{b:List bU}{s:cM}{Q:ah->cM->Prop}{e:Exit}{st:bh}(a:cM)(d:e= .ret\/e= .normal)(i:ek a)(f:Same s a)(ae:∀k cs,look k a.b=some cs->look k st.b=some cs)(g:∀k o,look k a.e=some o->look k st.e=some o)
  (h:cT st b fun r=>av (inObs a) r/\Q r a):cO b s Q e st:=by
 unfold cT at h;split at h
 ·rename_i c l j;exact cO.ob d j h.1 i f ae g h.2.1 h.2.2
 ·exact h.elim
theorem iN.ob{P:cz}{nw:List Nat}{n:Nat}{args:List ah}{st:bh}{d:aW Nat}{K:bh->Prop}{s b:cM}{r:ah}(l:bK P n args s fun i j=>i=r/\j=b)(f:ek s)(g:ek b)(c:Same s b)(ae:∀k cs,look k s.b=some cs->look k st.b=some cs)(he:∀k o,look k s.e=some o->look k st.e=some o)
  (a:aA (inObs s) args) (h:K ⟨eP d r st.t,bZ s.b st.b++b.b,bZ s.e st.e++b.e,st.n,st.o⟩):iN P false nw n args st d K:=
 .inr ⟨s,b,r,none,fun k cs ax=>⟨ae k cs ax,.inl (by simp[ax]),f.kb k cs ax⟩,fun k o ak=>⟨he k o ak,.inr (by simp[ak]),f.ke k o ak⟩,f.obj,g.obj,⟨fun k a=>.inl (by rw[c.b];exact a),fun k a=>.inl (by rw[c.e];exact a),fun k a=>by rw[<-c.b];exact a,fun k a=>by rw[<-c.e];exact a,fun k a=>by cases a⟩,a,l,(fun e=>by cases e),h⟩
theorem ek.of{s:cM}(ak:jm s)(ae:∀x∈s.b,aA (inObs s) x.2)(he:∀x∈s.e,∀xs,x.2.xs=some xs->aA (inObs s) xs):ek s:=⟨ak,fun k cs a=>ae (k,cs) (uF a),fun k o a xs b=>he (k,o) (uF a) xs b⟩
@[simp]theorem auW(b:List (aB×List ah))(e:List (aB×ec)):dh ⟨b,e⟩=b.map (·.1)++e.map (·.1):=rfl
theorem CH{α:Type}{k:aB}{p:α}:∀{a r:List (aB×α)},look k a=none->cB k p (a++r)=a++cB k p r
 |[],_,_=>rfl
 |(i,y)::a,r,h=>by
  simp only[look]at h;split at h
  ·cases h
  ·rename_i b;simp[cB,b,CH h]
theorem akh{α:Type}{s b:List (aB×α)}(h:∀p∈s,look p.1 b=some p.2):∀k x,look k s=some x->look k b=some x:=fun k x a=>h (k,x) (uF a)
theorem dN{S:aB->Prop}{cb b:List (aB×List ah)}(h:∀p∈cb,look p.1 b=some p.2/\S p.1/\aA S p.2):hf S cb b:=fun k x a=>h (k,x) (uF a)
theorem dP{S:aB->Prop}{cb b:List (aB×ec)}(h:∀p∈cb,look p.1 b=some p.2/\S p.1/\dH S p.2):pX S cb b:=fun k x a=>h (k,x) (uF a)
theorem aL{α:Type}{s b:List (aB×α)}(h:∀k x,look k s=some x->look k b=some x:=by first|(refine akh ?_;simp;done)|(intro k x a;first|exact a|(simp[a,hy];done)|(simp[cV,hy,a];done)|(cases k<;>simp_all[cV];done))):∀k x,look k s=some x->look k b=some x:=h
theorem b6{ob:List aB}{st st':bh}(J:∀x∈st'.t,get x.1 st.t=x.2/\av (fun k=> ¬fresh st'.n st'.o k) x.2:=by simp[fresh,aA,av,b0,inObs,Pv.look])(U:∀p∈st'.b,look p.1 st.b=some p.2/\(¬fresh st'.n st'.o p.1)/\aA (fun k=> ¬fresh st'.n st'.o k) p.2:=by simp[fresh,aA,av,b0,inObs,Pv.look])(a:∀p∈st'.e,look p.1 st.e=some p.2/\(¬fresh st'.n st'.o p.1)/\dH (fun k=> ¬fresh st'.n st'.o k) p.2:=by simp[fresh,aA,av,dH,inObs,Pv.look])(b:∀m∈ob,m∈st'.o:=by simp):jx ob st st':=⟨J,dN U,dP a,b⟩
theorem bO.next{ob:List aB}{c:Nat->bh->Prop}{k:Nat}{Q:Exit->bh->Prop}{st:bh}(a:Nat){b:bh}(d:a<k)(hi:c a b)(hw:jx ob st b):bO ob c k Q .normal st:=⟨a,b,d,hw,hi⟩
def ld:List (Int×ah)->List ah
 |[]=>[]
 |(k,v)::r=>.int .i64 k::v::ld r
def k1(l:List (Int×ah)):List ah:= .hdm l.length (List.range l.length)::ld l
def yv(k:Int):List (Int×ah)->aW ah
 |[]=>none
 |(i,v)::r=>if k=i then some v else yv k r
def qd(k:Int)(v:ah):List (Int×ah)->aW (List (Int×ah))
 |[]=>none
 |(i,w)::r=>if k=i then some ((k,v)::r)else match qd k v r with|some a=>some ((i,w)::a)|none=>none
def Gl(k:Int)(v:ah)(l:List (Int×ah)):List (Int×ah):=match qd k v l with|some a=>a|none=>l++[(k,v)]
@[simp]theorem auG:[ah.hdm 0 []]=k1 []:=rfl
theorem Uh:∀a b,ld (a++b)=ld a++ld b
 |[],_=>rfl
 |(k,v)::r,b=>by simp[ld,Uh r b]
theorem Xx(k:Int):∀l,xO .i (.int .i64 k) (ld l)=some (yv k l)
 |[]=>rfl
 |(i,v)::r=>by
  simp only[ld,xO,uB,yv];by_cases h:k=i
  ·simp[h]
  ·have:(k==i)=false:=by simp[h]
   simp[h,Xx k r,this]
theorem QE{k:Int}{v:ah}:∀{l a},qd k v l=some a->a.length=l.length
 |[],_,h=>by simp[qd]at h
 |(i,w)::r,a,h=>by
  simp only[qd]at h;split at h
  ·cases h;rfl
  ·split at h
   ·rename_i c b;cases h;simp[QE b]
   ·cases h
theorem XJ(k:Int)(v:ah):∀l,wb .i (.int .i64 k) v (ld l)=some ((qd k v l).map ld)
 |[]=>rfl
 |(i,w)::r=>by
  simp only[ld,wb,uB,qd];by_cases h:k=i
  ·subst h;simp[ld]
  ·simp only[and_self,if_true,h,if_false,dS,XJ k v r];have:(k==i)=false:=by simp[h]
   rw[this];cases qd k v r<;>simp[ld]
@[simp]theorem XI(k:Int)(v:ah)(l:List (Int×ah)):pR .i (.int .i64 k) v (k1 l)=some (k1 (Gl k v l)):=by
 simp only[k1,pR,WI,Bool.true_eq_false,reduceCtorEq,if_false,XJ,Gl];cases h:qd k v l with
 |some a=>simp[QE h]
 |none=>simp[Uh,ld,List.range_succ]
@[simp]theorem akI(f:aB->aW (List ah))(m:aB)(l:List (Int×ah))(z:ah)(ok:Bool)(k:Int)(hm:f m=some (k1 l)):o2 f .i z ok (.gmap m) (.int .i64 k)=(match yv k l with
  |some v=>some (True,if ok then .tuple [v,.bool true]else v)
  |none=>some (True,if ok then .tuple [z,.bool false]else z)):=by
 simp only[Xz,hm,k1,WI,Bool.true_eq_false,reduceCtorEq,if_false,Xx];cases yv k l<;>rfl
def b0(n:Nat)(seen:List Nat)(m:aB):List ah:=[.hdi n seen n,.gmap m]
@[simp]theorem au9(m:aB)(l:List (Int×ah)):zS m (k1 l)=some (b0 l.length [] m):=rfl
@[simp]theorem au5(l:List (Int×ah)):ik (k1 l)=false:=rfl
theorem Ns(b:Nat):∀(n:Nat) (l:List (Int×ah)),nD b (List.range' n l.length) (ld l)=(if n<=b then(l[b-n]?).map fun x=>.tuple [.int .i64 x.1,x.2]else none)
 |n,[]=>by simp[nD,ld]
 |n,(k,v)::r=>by
  simp only[jc,List.range'_succ,ld,nD];by_cases h:n=b
  ·subst h;simp
  ·rw[if_neg h,Ns b (n+1) r];by_cases U:n<=b
   ·rw[if_pos U,if_pos Ω];have:b-n=(b-(n+1))+1:=Ω
    rw[this];simp
   ·rw[if_neg U,if_neg Ω]
@[simp]theorem Xv(f:aB->aW (List ah))(fS mk:aB)(n:Nat)(seen:List Nat)(b:Nat)(l:List (Int×ah))(hi:f fS=some (b0 n (seen++[b]) mk))(hm:f mk=some (k1 l))(a:n=l.length):qz f (.ptr fS 0)=(l[b]?).map fun x=>(True,.tuple [.int .i64 x.1,x.2]):=by subst a;simp only[Xw,hi,hm,b0,k1,List.getLast?_append,List.getLast?_singleton,Option.some_or,List.range_eq_range',Ns,Nat.zero_le,if_true,Nat.sub_zero,Option.map_map];cases l[b]?<;>simp
theorem TN{st:bh}{d:Nat}{K:bh->Prop}{fS mk:aB}{n:Nat}{seen:List Nat}{l:List (Int×ah)}(hi:look fS st.b=some (b0 n seen mk))(hm:look mk st.b=some (k1 l))(g:n=l.length)
  (J:(∀b,b<n->b∈seen)->K {st with t:=put d (.tuple [.bool false]) st.t}) (U:∀b k v,l[b]? =some (k,v)->b∉seen->K {st with t:=put d (.tuple [.bool true,.int .i64 k,v]) st.t,b:=cB fS (b0 n (seen++[b]) mk) st.b}):
  tZ st d (.ptr fS 0) K:=by
 subst g;simp only[tZ,hi,b0,hm,k1,NK,and_self,true_and];refine⟨fun h=>J fun b ae=>h b (by simpa using ae),fun b k v a ae=>?_⟩;rw[List.range_eq_range',Ns]at a;simp only[Nat.zero_le,if_true,Nat.sub_zero,gD,ah.tuple.injEq,rA,and_true]at a;obtain⟨⟨f,v'⟩,i,e,c⟩:=a;simp only at e c;subst e c;exact U b f v' i ae
theorem anv{n:Nat}{seen:List Nat}(d:seen.Nodup)(c:∀b∈seen,b<n)(a:∀b,b<n->b∈seen):seen.Perm (List.range n):=(List.perm_ext_iff_of_nodup d List.nodup_range).2 fun b=>⟨fun h=>by simpa using c b h,fun h=>a b (by simpa using h)⟩
theorem Jl{n:Nat}{seen:List Nat}(c:seen.Nodup)(a:∀b∈seen,b<n):seen.length<=n:=by have:=Qb c (l₂:=List.range n) (fun b ae=>by simpa using a b ae);simpa using this
theorem Pb{n b:Nat}{seen:List Nat}(d:seen.Nodup)(a:∀b∈seen,b<n)(ae:b<n)(c:b∉seen):seen.length<n:=by have J:(b::seen).Nodup:=List.nodup_cons.2 ⟨c,d⟩;have:=Jl J (n:=n) (by simp;exact⟨ae,a⟩);simp at this;omega
theorem Zd{α:Type}:∀(l pre:List α),(List.range' pre.length l.length).filterMap (fun b=>(pre++l)[b]?)=l
 |[],_=>rfl
 |x::r,pre=>by have a:=Zd r (pre++[x]);simp only[hq,List.length_singleton,List.append_assoc,List.singleton_append]at a;simp[List.range'_succ,a]
theorem Pa{α:Type}{l:List α}{seen:List Nat}(d:seen.Nodup)(c:∀b∈seen,b<l.length)(a:∀b,b<l.length->b∈seen):(seen.filterMap fun b=>l[b]?).Perm l:=by have J:=(anv d c a).filterMap fun b=>l[b]?;have U:=Zd l [];simp only[qM,b3,<-List.range_eq_range']at U;rwa[U]at J
theorem NP{b:Nat}{seen:List Nat}(f:seen.Nodup)(d:b∉seen):(seen++[b]).Nodup:=by rw[ss];exact⟨f,Ψ,by simp;intro a c e;subst e;exact d c⟩
theorem cS.start{w:World}{Z:aZ}(gl:nQ w Z){s:cM}{args:List ah}{ba:Array Value}(e:jm s)(aY:Good (fZ Z s) w Z s.b s.e)(a:ql Z s)(r:cH w Z args ba.toList):
  cS ⟨w,Z,fZ Z s,ba.size,dh s,gl,[]⟩ ⟨j5 0 args,s.b,s.e,0,dh s⟩ {tmps:=ba,defers:=[]} w Z:=by
 have t:=Fy r;have D:ba.size=args.length:=by simpa using t
 have l:∀k,fresh 0 (dh s) k->Z.bx k=none/\Z.ow k=none/\∀j b,¬Z.tr k j b:=by
  intro k c;cases k with
  |loc m=>exact⟨(a _).1 (e.1 m),(a _).2.1 (e.2 m),(a _).2.2⟩
  |obj m=>
   simp only[fresh,true_and]at c;refine⟨?_,?_,(a _).2.2⟩
   ·refine(a _).1 ?_;cases h:look (.obj m) s.b with
    |none=>rfl
    |some x=>exact absurd (uM (.inl (by simp[h]))) c
   ·refine(a _).2.1 ?_;cases h:look (.obj m) s.e with
    |none=>rfl
    |some x=>exact absurd (uM (.inr (by simp[h]))) c
 have p:∀m,(Z.bx (.obj m)≠none\/Z.ow (.obj m)≠none)-> .obj m∈dh s:=by
  intro m hm;refine Classical.byContradiction fun ax=>?_;obtain⟨J,U,_⟩:=l (.obj m) ⟨trivial,ax⟩;rcases hm with hm|hm
  ·exact hm J
  ·exact hm U
 refine⟨⟨aY.alt,fun k cs c=>?_,aY.inj,fun g o y=>?_,aY.oinj,aY.obx,aY.one,aY.otr⟩,⟨rfl,rfl,rfl,eR _,fun _ _ _=>rfl,fun b o h=>⟨h,rfl⟩,fun b o h=>.inl h,fun n b h=>h,fun n b h=>p n (.inl (by rw[h];simp)),fun m n u h=>⟨n,u,h,.inl ⟨rfl,rfl⟩⟩,fun m n u h=>p m (.inr (by rw[h];simp)),fun k j _ _ b h=>absurd h ((a k).2.2 j b),fun k j b h=>absurd h ((a k).2.2 j b),fun k j b h=>absurd h ((a k).2.2 j b),fun _ _ _=>rfl,fun j n u b d _=>(by rw[(a _).2.1 (e.2 j)]at d;cases d)⟩,rfl,rfl,fun i=>?_,l,fun _ a=>(by cases a),fun m hm z=>z.2 hm⟩
 ·obtain⟨bl,us,el,g1,g2,g3⟩:=aY.box k cs c;exact⟨bl,us,el,g1,.inl g2,g3⟩
 ·obtain⟨v,us,g1,g2,g3,g4⟩:=aY.own g o y;exact⟨v,us,g1,g2,fun bl q=>⟨.inl (g3 bl q).1,(g3 bl q).2⟩,g4⟩
 ·rw[He];by_cases hi:i<args.length
  ·rw[if_pos Ω];have f:args[i]? =some args[i]:=cl hi;obtain⟨v,d,A⟩:=Jd i r f;have B:ba[i]? =some v:=by simpa using d
   show aS w Z _ (ba.getD i undef);rw[Array.getD_eq_getD_getElem?,B];simpa[List.getD,f]using A
  ·rw[if_neg Ω];simp[aS]
theorem bK.sem{P:cz}{f:FuncId}{args:List ah}{s:cM}{Q:ah->cM->Prop}(E:jm s)
  (h:∀(w:World) (Z:aZ) (ba:Array Value) (gl:nQ w Z),ba.size=args.length->cS ⟨w,Z,fZ Z s,ba.size,dh s,gl,[]⟩ ⟨j5 0 args,s.b,s.e,0,dh s⟩ {tmps:=ba,defers:=[]} w Z->
   wN P f ba w fun e w'=> ∃v st' bo Z' r a,e= .returned v/\cS ⟨w,Z,fZ Z s,ba.size,dh s,gl,[]⟩ st' bo w' Z'/\aS w' Z' r v/\hb a s.b/\hb a s.e/\hf (inObs a) a.b st'.b/\pX (inObs a) a.e st'.e/\jm a/\av (inObs a) r/\Q r a):bK P f args s Q:=by
 intro w Z ba gl aY t z;have G:ba.size=args.length:=by simpa using Fy z
 have B:=cS.start gl E aY t z;have hm:∀(e:Ending) (w':World),(∃v st' bo Z' r a,e= .returned v/\cS ⟨w,Z,fZ Z s,ba.size,dh s,gl,[]⟩ st' bo w' Z'/\aS w' Z' r v/\hb a s.b/\hb a s.e/\hf (inObs a) a.b st'.b/\pX (inObs a) a.e st'.e/\jm a/\av (inObs a) r/\Q r a)->
   ∃v r a Z',e= .returned v/\Q r a/\aS w' Z' r v/\Good (fun bl=>fZ Z s bl\/w.heap.size<=bl) w' Z' a.b a.e/\ql Z' a/\jm a/\qa ⟨w,Z,fZ Z s,0,dh s,gl,[]⟩ w' Z':=by
  rintro e w' ⟨v,st',bo,Z',r,a,rfl,d,D,kb,ke,y,p,N,L,K⟩;refine⟨v,r,a,Z'.cut (inObs a),rfl,K,tE (pn.cut _ w' Z') _ _ L D,d.good.cut y p (fun bl h _=>h),?_,N,?_⟩
  ·intro k;refine⟨?_,?_,?_⟩;rotate_left 2
   ·rintro j b ⟨c,ae⟩;obtain⟨t1,t2⟩:=d.fr.trn k j b ae;rcases c with c|c<;>obtain⟨x,i⟩:=gd.1 c
    ·obtain⟨bl,o,el,g,_⟩:=d.good.box k x (y k x i).1;rw[t1]at g;cases g
    ·obtain⟨v',o,g,_⟩:=d.good.own k x (p k x i).1;rw[t2]at g;cases g
   ·intro q;by_cases c:inObs a k
    ·rw[aZ.cut_bx c];rcases c with c|c
     ·rw[q]at c;cases c
     ·obtain⟨x,i⟩:=gd.1 c;obtain⟨v',o,g,_⟩:=d.good.own k x (p k x i).1;rcases d.good.one k with J|J
      ·exact J
      ·rw[J]at g;cases g
    ·exact(aZ.cut_no c).1
   ·intro q;by_cases c:inObs a k
    ·rw[aZ.cut_ow c];rcases c with c|c
     ·obtain⟨x,i⟩:=gd.1 c;obtain⟨bl,o,el,g,_⟩:=d.good.box k x (y k x i).1;rcases d.good.one k with J|J
      ·rw[J]at g;cases g
      ·exact J
     ·rw[q]at c;cases c
    ·exact(aZ.cut_no c).2.1
  ·refine⟨d.fr.os,d.fr.tape,d.fr.output,d.fr.size,d.fr.block,d.fr.keep,d.fr.fresh,fun n b h=>?_,d.fr.obn,fun m n u h=>?_,d.fr.obr,fun k j M H b J U=>d.fr.trd k j M H b J.2 U.2,fun k j b ae=>d.fr.trb k j b ae.2,fun k j b ae=>(by rw[aZ.cut_bx ae.1,aZ.cut_ow ae.1];exact d.fr.trn k j b ae.2),d.fr.sh,fun j n u b g O=>d.fr.nrow j n u b (aZ.cut_someO g).2 O⟩
   ·have c:inObs a (.obj n):=by
     cases l:look (.obj n) s.b with
     |none=>rw[(t _).1 l]at h;cases h
     |some x=>exact BL kb _ (by simp[l])
    rw[aZ.cut_bx c];exact d.fr.obj n b h
   ·have c:inObs a (.obj m):=by
     cases l:look (.obj m) s.e with
     |none=>rw[(t _).2.1 l]at h;cases h
     |some x=>exact BL ke _ (by simp[l])
    rw[aZ.cut_ow c];exact d.fr.row m n u h
 rcases h w Z ba gl G B with⟨A,ax⟩|⟨v,w',ax,F⟩
 ·exact .inl ⟨A,ax.mono hm⟩
 ·exact .inr ⟨v,w',ax,hm _ _ F⟩
theorem cS.grown{C:e0}{st:bh}{a:Act}{w w':World}{Z:aZ}(h:cS C st a w Z)(aY:w.grownBy w' none):cS C st a w' Z:=by
 have c:lU w Z w' Z:=⟨fun b o be=>⟨be,GJ aY (h.good.alt b o be)⟩,fun _ _ _ h=>h,fun _ n u _ h=>⟨n,u,h,.inl ⟨rfl,rfl⟩⟩,fun b o be=>wE (aY.block b (h.good.alt b o be) Ψ),fun _ _ _ _ h=>h⟩;refine h.over c rfl ⟨fun b o be=>Nat.lt_of_lt_of_le (h.good.alt b o be) aY.size,fun k cs d=>?_,h.good.inj,fun g o f=>?_,h.good.oinj,h.good.obx,h.good.one,h.good.otr⟩
  ⟨aY.os.trans h.fr.os,aY.tape.trans h.fr.tape,aY.output.trans h.fr.output,jM h.fr.size aY.size,fun k d hm=>?_,fun b o be=>?_,h.fr.fresh,h.fr.obj,h.fr.obn,h.fr.row,h.fr.obr,h.fr.trd,fun k j b ae=>⟨(h.fr.trb k j b ae).1,Nat.lt_of_lt_of_le (h.fr.trb k j b ae).2 aY.size⟩,h.fr.trn,fun b o be=>(c.sh b o (h.fr.keep b o be).1).trans (h.fr.sh b o be),h.fr.nrow⟩ h.new
 ·obtain⟨bl,us,el,g1,g2,g3,g4,g5⟩:=h.good.box k cs d;exact⟨bl,us,el,g1,g2,g3,by rw[aY.block bl (Array.getElem?_eq_some_iff.1 g4).1 Ψ];exact g4,qE c g5⟩
 ·obtain⟨v,us,g1,g2,g3,g4⟩:=h.good.own g o f;exact⟨v,us,g1,g2.kept aY (by cases v.ownBlock<;>simp),g3,sb c (fun _ _ _ h=>h) g4⟩
 ·rw[aY.block k (Nat.lt_of_lt_of_le d h.fr.size) Ψ];exact h.fr.block k d hm
 ·obtain⟨e,i⟩:=h.fr.keep b o be;exact⟨e,(c.A b o e).2.trans i⟩
theorem cC.new{P:cz}{n:Nat}{args:List ah}{st:bh}{d:aW Nat}{K:bh->Prop}{s:cM}{Q:ah->cM->Prop}(g:bK P n args s Q)(c:ek s)(ae:∀k cs,look k s.b=some cs->look k st.b=some cs)(he:∀k o,look k s.e=some o->look k st.e=some o)
  (f:aA (inObs s) args) (h:∀r a,Q r a->(∀m,inObs a (.obj m)->inObs s (.obj m)/\Same s a\/ .obj m∉st.o)/\K ⟨eP d r st.t,bZ s.b st.b++a.b,bZ s.e st.e++a.e,st.n,st.o++dh a⟩):cC P n args st d K:=by
 refine .inl ⟨s,Q,fun k cs ax=>⟨ae k cs ax,.inl (by simp[ax]),c.kb k cs ax⟩,fun k o ak=>⟨he k o ak,.inr (by simp[ak]),c.ke k o ak⟩,c.obj,f,g,fun r a e=>?_⟩;obtain⟨J,U⟩:=h r a e;refine⟨⟨fun m hm=>?_,fun m hm=>?_⟩,U⟩
 ·rcases J m (.inl hm)with⟨_,b⟩|b
  ·exact .inl (by rw[b.b];exact hm)
  ·exact .inr b
 ·rcases J m (.inr hm)with⟨_,b⟩|b
  ·exact .inl (by rw[b.e];exact hm)
  ·exact .inr b
theorem cO.new{f:List bU}{s:cM}{Q:ah->cM->Prop}{e:Exit}{st:bh}(a:cM)(i:e= .ret\/e= .normal)(d:ek a)(g:hb a s.b/\hb a s.e)(ae:∀k cs,look k a.b=some cs->look k st.b=some cs)(j:∀k o,look k a.e=some o->look k st.e=some o)
  (h:cT st f fun r=>av (inObs a) r/\Q r a):cO f s Q e st:=by
 unfold cT at h;split at h
 ·rename_i c m l;refine⟨i,?_⟩;rw[l];exact⟨h.1,a,g.1,g.2,fun k cs b=>⟨ae k cs b,.inl (by simp[b]),d.kb k cs b⟩,fun k o ak=>⟨j k o ak,.inr (by simp[ak]),d.ke k o ak⟩,d.obj,h.2.1,h.2.2⟩
 ·exact h.elim
@[simp]theorem asJ{P:cz}{ob:List aB}{c d:C}{Q:Exit->bh->Prop}{st:bh}{s:Nat}:dd P ob (.seq (.pub s c) d) Q st=wO P ob (.seq c d) Q (wi st s):=by simp only[dd];cases wi st s<;>rfl
@[simp]theorem asI{P:cz}{ob:List aB}{c d:C}{Q:Exit->bh->Prop}{st:bh}{s:Nat}:dd P ob (.seq (.pubB s c) d) Q st=wO P ob (.seq c d) Q (xX st s):=by simp only[dd];cases xX st s<;>rfl
end
section
open Go Go.RowKit
def vT(t:List (Nat×ah))(a:List Nat):List (Nat×ah):=a.map fun k=>(k,get k t)
@[simp]theorem atJ(t:List (Nat×ah)):vT t []=[]:=rfl
@[simp]theorem atI(t:List (Nat×ah))(k:Nat)(a:List Nat):vT t (k::a)=(k,get k t)::vT t a:=rfl
def qA(st:bh)(a:List Nat)(cs:List (Nat×ah)):bh:=⟨vT st.t a++cs,st.b,st.e,st.n,st.o⟩
theorem akX(t:List (Nat×ah))(b:List (aB×List ah))(e:List (aB×ec))(n:Nat)(o:List aB)(a:List Nat)(cs:List (Nat×ah)):qA ⟨t,b,e,n,o⟩ a cs=⟨vT t a++cs,b,e,n,o⟩:=rfl
def Au{α:Type}(S:Nat->α->bh)(n:Nat)(b:Nat->α->Prop)(k:Nat)(st:bh):Prop:= ∃i a,i<=n/\k=n-i/\b i a/\st=S i a
section
variable {P:cz} {ob:List aB} {st:bh} {Q:Exit->bh->Prop} {c:C} {α:Type}
theorem hk(S:Nat->α->bh)(n:Nat)(b:Nat->α->Prop)(a0:α)(hw:jx ob st (S 0 a0))(g:b 0 a0)(e:∀a,b n a->(∀i,eK (get i (S n a).t))->dd P ob c (bO ob (Au S n b) 0 Q) (S n a))
  (f:∀i a,i<n->b i a->(∀j,eK (get j (S i a).t))->dd P ob c (bO ob (Au S n b) (n-i) Q) (S i a)):dd P ob (.loop c) Q st:=by
 refine vr (Au S n b) n _ hw ⟨0,a0,Ω,Ω,g,rfl⟩ ?_;rintro k s ⟨i,a,hi,rfl,d,rfl⟩ ae _;rcases Nat.lt_or_ge i n with h|h
 ·exact f i a h d ae
 ·obtain rfl:i=n:=Ω
  rw[Nat.sub_self];exact e a d ae
theorem bO.rng{S:Nat->α->bh}{n:Nat}{a:Nat->α->Prop}{i:Nat}(bo:α)(hi:i<n)(b:a (i+1) bo)(hw:jx ob st (S (i+1) bo)):bO ob (Au S n a) (n-i) Q .normal st:=⟨n-(i+1),_,Ω,hw,i+1,bo,Ω,rfl,b,rfl⟩
def CS{α:Type}(S:α->bh)(μ:α->Nat)(b:α->Prop)(k:Nat)(st:bh):Prop:= ∃a,k=μ a/\b a/\st=S a
theorem mM(S:α->bh)(μ:α->Nat)(b:α->Prop)(a0:α)(hw:jx ob st (S a0))(e:b a0)
  (d:∀a,b a->(∀j,eK (get j (S a).t))->dd P ob c (bO ob (CS S μ b) (μ a) Q) (S a)):dd P ob (.loop c) Q st:=by
 refine vr (CS S μ b) (μ a0) _ hw ⟨a0,rfl,e,rfl⟩ ?_;rintro k s ⟨a,rfl,f,rfl⟩ ae _;exact d a f ae
theorem bO.whl{S:α->bh}{μ:α->Nat}{a:α->Prop}{k:Nat}(bo:α)(hm:μ bo<k)(b:a bo)(hw:jx ob st (S bo)):bO ob (CS S μ a) k Q .normal st:=⟨μ bo,_,hm,hw,bo,rfl,b,rfl⟩
end
theorem iH{p:Prop}(h:p:=by(try simp[*]);(repeat' first|with_reducible refine al ?_|with_reducible refine aI (by assumption) ?_|with_reducible refine aJ (by assumption) ?_|simp[*]);(all_goals first|exact bO.rng () (by assumption) (by first|assumption|trivial) b6|exact bO.rng _ (by assumption) (by assumption) b6)):p:=h
end
section
open Go Go.RowKit
def nb(s:cM)(n:Nat)(k:aB):Prop:=inObs s k\/ ∃m,m<n/\k= .loc m
@[simp]theorem XN(s:cM)(n m:Nat)(hm:m<n):nb s n (.loc m):= .inr ⟨m,hm,rfl⟩
theorem B2{s:cM}{n:Nat}{l:List ah}(h:aA (inObs s) l):aA (nb s n) l:=kB (fun _ h=>.inl h) l h
theorem zH{s b:cM}(c:Same s b){n:Nat}{k:aB}(h:nb b n k):¬fresh n (dh s) k:=by
 rcases h with h|⟨m,hm,rfl⟩
 ·exact fun a=>a.2 (uM ((c.inObs k).2 h))
 ·intro a;have:=a.1;simp at this;omega
theorem jx.obL{s b:cM}(f:ek b)(c:Same s b){st:bh}{g:List (Nat×ah)}{L:List (aB×List ah)}{n:Nat}(aM:∀x∈g,get x.1 st.t=x.2/\av (nb b n) x.2)(h:∀x∈L,look x.1 st.b=some x.2/\nb b n x.1/\aA (nb b n) x.2)
  (ae:∀k cs,look k b.b=some cs->look k st.b=some cs) (he:∀k o,look k b.e=some o->look k st.e=some o):jx (dh s) st ⟨g,L++b.b,b.e,n,dh s⟩:=by
 refine⟨fun x d=>⟨(aM x d).1,tl (fun k a=>zH c a) _ (aM x d).2⟩,fun k cs a=>?_,fun k o ak=>?_,fun m hm=>hm⟩
 ·simp only at a;rw[cV]at a;cases e:look k L with
  |some x=>rw[e]at a;simp only[dv]at a;subst a;obtain⟨J,U,i⟩:=h _ (uF e);exact⟨J,zH c U,kB (fun k a=>zH c a) _ i⟩
  |none=>rw[e]at a;exact⟨ae k cs a,zH c (.inl (.inl (by simp[a]))),kB (fun k a=>zH c (.inl a)) _ (f.kb k cs a)⟩
 ·exact⟨he k o ak,zH c (.inl (.inr (by simp at ak;simp[ak]))),fun xs d=>kB (fun k a=>zH c (.inl a)) _ (f.ke k o ak xs d)⟩
def hJ{α:Type}(l:List α)(i j:Nat):List α:=match l[i]?,l[j]? with
 |some x,some y=>(l.set i y).set j x
 |_,_=>l
section
variable {α:Type}
@[simp]theorem akr(l:List α)(i j:Nat):(hJ l i j).length=l.length:=by unfold hJ;split<;>simp
theorem BS(l:List α)(i j k:Nat)(hi:i<l.length)(a:j<l.length):(hJ l i j)[k]? =if k=i then l[j]? else if k=j then l[i]? else l[k]?:=by
 unfold hJ;rw[cl hi,cl a];simp only[List.getElem?_set,List.length_set];by_cases J:j=k
 ·subst J;by_cases U:j=i
  ·subst U;simp[hi]
  ·simp[U,a]
 ·by_cases U:i=k
  ·subst U;simp[J,hi]
  ·simp[J,U,k8 J,k8 U]
theorem Xi(l:List α)(i j:Nat):(hJ l i j).Perm l:=by
 unfold hJ;split
 ·rename_i x y b c;obtain⟨hi,rfl⟩:=fy.1 b;obtain⟨a,rfl⟩:=fy.1 c;exact List.set_set_perm hi a
 ·exact .refl _
inductive gK (a b:Nat):List α->List α->Prop
 |refl (l:List α):gK a b l l
 |step {l m:List α} {i j:Nat}:gK a b l m->a<=i->i<b->a<=j->j<b->i<m.length->j<m.length->gK a b l (hJ m i j)
theorem gK.length{a b:Nat}{l m:List α}(h:gK a b l m):m.length=l.length:=by
 induction h with
 |refl=>rfl
 |step _ _ _ _ _ _ _ c=>rw[akr,c]
theorem gK.perm{a b:Nat}{l m:List α}(h:gK a b l m):m.Perm l:=by
 induction h with
 |refl=>exact .refl _
 |step _ _ _ _ _ _ _ c=>exact(Xi _ _ _).trans c
theorem gK.out{a b:Nat}{l m:List α}(h:gK a b l m)(k:Nat)(g:k<a\/b<=k):m[k]? =l[k]?:=by
 induction h with
 |refl=>rfl
 |step _ J U f i d c e=>rw[BS _ _ _ _ d c,if_neg Ω,if_neg Ω];exact e
theorem gK.all{a b:Nat}{l m:List α}(h:gK a b l m)(p:α->Prop)(j:∀k x,a<=k->k<b->l[k]? =some x->p x):∀k x,a<=k->k<b->m[k]? =some x->p x:=by
 induction h with
 |refl=>exact j
 |step _ J U n o i g d=>
  intro k x f e c;rw[BS _ _ _ _ i g]at c;split at c
  ·exact d _ _ n o c
  ·split at c
   ·exact d _ _ J U c
   ·exact d _ _ f e c
theorem gK.trans{a b:Nat}{l m r:List α}(h:gK a b l m)(d:gK a b m r):gK a b l r:=by
 induction d with
 |refl=>exact h
 |step _ J U g i e c f=>exact .step f J U g i e c
theorem gK.mono{a b bo cb:Nat}{l m:List α}(h:gK a b l m)(f:bo<=a)(ae:b<=cb):gK bo cb l m:=by
 induction h with
 |refl=>exact .refl _
 |step _ J U g i d c e=>exact .step e Ω Ω Ω Ω d c
def fH(lt:α->α->Bool)(a b:Nat)(l:List α):Prop:= ∀i j x y,a<=i->i<j->j<b->l[i]? =some x->l[j]? =some y->lt y x=false
structure rE (lt:α->α->Bool):Prop where
 asym:∀x y,lt x y=true->lt y x=false
 ntr:∀x y z,lt y x=false->lt z y=false->lt z x=false
theorem fH.pairwise{lt:α->α->Bool}{l:List α}(h:fH lt 0 l.length l):l.Pairwise fun x y=>lt y x=false:=by rw[qN];intro i j hi a b;exact h i j _ _ Ω b a (cl hi) (cl a)
def iA(a m b k:Nat):Nat:=if k<a then k else if k<a+(b-m)then k+(m-a)else if k<b then k-(b-m)else k
def tG(a b c k:Nat):Nat:=if a<=k/\k<a+c then b+(k-a)else if b<=k/\k<b+c then a+(k-b)else k
end
theorem Hk(i j:Nat)(h:i+j<=1099511627776):oz.wrap (Int.fdiv (hM.wrap ((i:Int)+j)) (2 ^ (min 1 hM.bits)))=((i+j)/2:Nat):=by
 have hw:hM.wrap ((i:Int)+j)=i+j:=by simp[tQ,pe,tP];omega
 have a:hM.bits=64:=rfl;rw[hw,a,show(2:Int) ^ (min 1 64)=2 from by decide,Int.fdiv_eq_ediv_of_nonneg _ Ω,lT]
 ·omega
 ·omega
end
section
open Go
inductive b2 where
 |mk (kind n:Int) (name:List bV) (args:List b2)
def b2.kind:b2->Int| .mk k _ _ _=>k
def b2.num:b2->Int| .mk _ n _ _=>n
def b2.name:b2->List bV| .mk _ _ s _=>s
def b2.args:b2->List b2| .mk _ _ _ a=>a
mutual
def enc:b2->ah
 | .mk k n s a=>.agg [.int .i64 k,.int .i64 n,.str s,.slice 4 .no (qi a)]
def qi:List b2->List ah
 |[]=>[]
 |x::xs=>enc x::qi xs
end
theorem GW:∀l,qi l=l.map enc
 |[]=>rfl
 |x::xs=>by simp[qi,GW xs]
theorem AS(t:b2):enc t= .agg [.int .i64 t.kind,.int .i64 t.num,.str t.name,.slice 4 .no (t.args.map enc)]:=by cases t;simp[enc,GW,b2.kind,b2.num,b2.name,b2.args]
mutual
theorem W1(S:aB->Prop):∀t:b2,av S (enc t)
 | .mk k n s a=>by simp[enc,av,aA,M1 S a]
theorem M1(S:aB->Prop):∀l:List b2,aA S (qi l)
 |[]=>by simp[qi,aA]
 |x::xs=>by simp[qi,aA,W1 S x,M1 S xs]
end
mutual
theorem ZV:∀t:b2,de (enc t)=enc t
 | .mk k n s a=>by simp[enc,de,cK,Pn a]
theorem Pn:∀l:List b2,cK (qi l)=qi l
 |[]=>by simp[qi,cK]
 |x::xs=>by simp[qi,cK,ZV x,Pn xs]
end
@[simp]theorem aub(S:aB->Prop)(t:b2):av S (enc t)=True:=eq_true (W1 S t)
@[simp]theorem atU(S:aB->Prop)(l:List b2):aA S (l.map enc)=True:=by rw[<-GW];exact eq_true (M1 S l)
theorem apJ(l:List b2):cK (l.map enc)=l.map enc:=by rw[<-GW];exact Pn l
attribute [simp] ZV apJ
@[simp]theorem avs(t:b2):e5 (enc t)=true:=by rw[AS];rfl
@[simp]theorem aso(t:b2):cells (enc t)=[.int .i64 t.kind,.int .i64 t.num,.str t.name,.slice 4 .no (t.args.map enc)]:=by rw[AS];rfl
@[simp]theorem ar0(t:b2):ah.agg [.int .i64 t.kind,.int .i64 t.num,.str t.name,.slice 4 .no (t.args.map enc)]=enc t:=(AS t).symm
@[simp]theorem atC(t:b2):Pv.isAgg 4 (enc t):=by rw[AS];exact⟨_,rfl,rfl⟩
inductive T where
 |nil
 |var (n:Int)
 |sym (s:List bV)
 |num (n:Int)
 |pair (a b:T)
 deriving DecidableEq,Inhabited
def T.tm:T->b2
 | .nil=>.mk 0 0 [] []
 | .var n=>.mk 1 n [] []
 | .sym s=>.mk 2 0 s []
 | .num n=>.mk 3 n [] []
 | .pair a b=>.mk 4 0 [] [a.tm,b.tm]
def T.e:T->ah
 | .nil=>.agg [.int .i64 0,.int .i64 0,.str [],.slice 4 .no []]
 | .var n=>.agg [.int .i64 1,.int .i64 n,.str [],.slice 4 .no []]
 | .sym s=>.agg [.int .i64 2,.int .i64 0,.str s,.slice 4 .no []]
 | .num n=>.agg [.int .i64 3,.int .i64 n,.str [],.slice 4 .no []]
 | .pair a b=>.agg [.int .i64 4,.int .i64 0,.str [],.slice 4 .no [a.e,b.e]]
theorem w6:∀t:T,enc t.tm=t.e
 | .nil| .var _| .sym _| .num _=>rfl
 | .pair a b=>by simp[T.tm,enc,qi,T.e,w6 a,w6 b]
def T.kind:T->Int
 | .nil=>0| .var _=>1| .sym _=>2| .num _=>3| .pair _ _=>4
def T.int:T->Int
 | .var n=>n| .num n=>n|_=>0
def T.name:T->List bV
 | .sym s=>s|_=>[]
def T.args:T->List T
 | .pair a b=>[a,b]|_=>[]
theorem T.e_eq(t:T):t.e= .agg [.int .i64 t.kind,.int .i64 t.int,.str t.name,.slice 4 .no (t.args.map T.e)]:=by cases t<;>rfl
@[simp]theorem arZ(t:T):ah.agg [.int .i64 t.kind,.int .i64 t.int,.str t.name,.slice 4 .no (t.args.map T.e)]=t.e:=(T.e_eq t).symm
@[simp]theorem ar1:ah.agg [.int .i64 0,.int .i64 0,.str [],.slice 4 .no []]=T.nil.e:=rfl
@[simp]theorem ar5(n:Int):ah.agg [.int .i64 1,.int .i64 n,.str [],.slice 4 .no []]=(T.var n).e:=rfl
@[simp]theorem ar4(s:List bV):ah.agg [.int .i64 2,.int .i64 0,.str s,.slice 4 .no []]=(T.sym s).e:=rfl
@[simp]theorem ar2(n:Int):ah.agg [.int .i64 3,.int .i64 n,.str [],.slice 4 .no []]=(T.num n).e:=rfl
@[simp]theorem ar3(a b:T):ah.agg [.int .i64 4,.int .i64 0,.str [],.slice 4 .no [a.e,b.e]]=(T.pair a b).e:=rfl
@[simp]theorem aj8:(T.nil).kind=0:=rfl
@[simp]theorem ajA:(T.nil).int=0:=rfl
@[simp]theorem ak0:(T.nil).name=[]:=rfl
@[simp]theorem abU:(T.nil).args=[]:=rfl
@[simp]theorem akd(n:Int):(T.var n).kind=1:=rfl
@[simp]theorem ajE(n:Int):(T.var n).int=n:=rfl
@[simp]theorem ak5(n:Int):(T.var n).name=[]:=rfl
@[simp]theorem abY(n:Int):(T.var n).args=[]:=rfl
@[simp]theorem akc(s:List bV):(T.sym s).kind=2:=rfl
@[simp]theorem ajD(s:List bV):(T.sym s).int=0:=rfl
@[simp]theorem ak4(s:List bV):(T.sym s).name=s:=rfl
@[simp]theorem abX(s:List bV):(T.sym s).args=[]:=rfl
@[simp]theorem aj9(n:Int):(T.num n).kind=3:=rfl
@[simp]theorem ajB(n:Int):(T.num n).int=n:=rfl
@[simp]theorem ak1(n:Int):(T.num n).name=[]:=rfl
@[simp]theorem abV(n:Int):(T.num n).args=[]:=rfl
@[simp]theorem aka(a b:T):(T.pair a b).kind=4:=rfl
@[simp]theorem ajC(a b:T):(T.pair a b).int=0:=rfl
@[simp]theorem ak2(a b:T):(T.pair a b).name=[]:=rfl
@[simp]theorem abW(a b:T):(T.pair a b).args=[a,b]:=rfl
@[simp]theorem aua(S:aB->Prop)(t:T):av S t.e=True:=by rw[<-w6];simp
@[simp]theorem avR(t:T):de t.e=t.e:=by rw[<-w6];simp
theorem WU(S:aB->Prop):∀l:List T,aA S (l.map T.e)
 |[]=>by simp[aA]
 |x::xs=>by simp[aA,WU S xs]
@[simp]theorem WT(S:aB->Prop)(l:List T):aA S (l.map T.e)=True:=eq_true (WU S l)
@[simp]theorem apI:∀l:List T,cK (l.map T.e)=l.map T.e
 |[]=>rfl
 |x::xs=>by simp[cK,apI xs]
@[simp]theorem avr(t:T):e5 t.e=true:=by rw[T.e_eq];rfl
@[simp]theorem asn(t:T):cells t.e=[.int .i64 t.kind,.int .i64 t.int,.str t.name,.slice 4 .no (t.args.map T.e)]:=by rw[T.e_eq];rfl
@[simp]theorem atB(t:T):Pv.isAgg 4 t.e:=by rw[T.e_eq];exact⟨_,rfl,rfl⟩
def T.size:T->Nat
 | .pair a b=>1+a.size+b.size
 |_=>1
theorem T.size_pos(t:T):1<=t.size:=by cases t<;>simp[T.size]<;>omega
def low(b:bV):Bool:=decide (97<=b.toNat/\b.toNat<=122)
def mZ(b:bV):Bool:=low b||decide (48<=b.toNat/\b.toNat<=57)||b.toNat==45
def iW(s:List bV):Bool:=decide (1<=s.length/\s.length<=12)&&low (s.getD 0 0)&&(s.drop 1).all mZ
def T.ok:T->Bool
 | .nil=>true
 | .var n=>decide (0<=n/\n<=100000)
 | .sym s=>iW s
 | .num n=>decide (-1000000000<=n/\n<=1000000000)
 | .pair a b=>a.ok&&b.ok
def l8(k n:Int)(s:List bV):Bool:=if k=0 then n==0&&s==[]else if k=1 then decide (0<=n/\n<=100000)&&s==[]else if k=2 then n==0&&iW s else if k=3 then decide (-1000000000<=n/\n<=1000000000)&&s==[]else false
def fY:b2->Int->Int
 | .mk k n s [a,b],room=>if room<1\/k≠4\/n≠0\/s≠[]then-1 else if fY a (room-1)<0 then-1 else if fY b (room-1-fY a (room-1))<0 then-1 else 1+fY a (room-1)+fY b (room-1-fY a (room-1))
 | .mk k n s args,room=>if room<1\/k=4\/args≠[]\/l8 k n s=false then-1 else 1
theorem NM(k n:Int)(s:List bV)(args:List b2)(room:Int):fY (.mk k n s args) room=if room<1 then-1 else if k≠4 then(if args≠[]then-1 else if l8 k n s then 1 else-1)else if n≠0\/s≠[]then-1 else match args with
  |[a,b]=>if fY a (room-1)<0 then-1 else if fY b (room-1-fY a (room-1))<0 then-1 else 1+fY a (room-1)+fY b (room-1-fY a (room-1))
  |_=> -1:=by
 match args with
 |[]=>simp only[fY];by_cases J:room<1<;>by_cases U:k=4<;>by_cases d:l8 k n s=true<;>simp[J,U,d]
 |[a]=>simp[fY]
 |[a,b]=>simp only[fY];by_cases J:room<1<;>by_cases U:k=4<;>simp[J,U]
 |a::b::c::r=>simp[fY]
theorem Iw:∀(t:T) (room:Int),fY t.tm room=if t.ok=true/\(t.size:Int)<=room then(t.size:Int)else-1
 | .nil,room=>by simp[T.tm,fY,T.ok,T.size,l8];split<;>rename_i h<;>simp_all<;>omega
 | .var n,room=>by simp[T.tm,fY,T.ok,T.size,l8];split<;>split<;>simp_all<;>omega
 | .sym s,room=>by simp[T.tm,fY,T.ok,T.size,l8];by_cases J:room<1<;>by_cases U:iW s=true<;>simp[J,U]<;>omega
 | .num n,room=>by simp[T.tm,fY,T.ok,T.size,l8];split<;>split<;>simp_all<;>omega
 | .pair a b,room=>by
  have f:=a.size_pos;have ae:=b.size_pos;simp only[T.tm,fY,Iw a,Iw b,T.ok,T.size,cD];by_cases J:room<1
  ·simp[J];omega
  ·by_cases U:a.ok=true/\(a.size:Int)<=room-1
   ·rw[if_pos U];by_cases c:b.ok=true/\(b.size:Int)<=room-1-a.size
    ·rw[if_pos c];simp[J,U.1,c.1];split<;>omega
    ·rw[if_neg c];simp[J,U.1];intro e;have:=c;simp[e]at this;omega
   ·rw[if_neg U];simp[J];intro d;have:=U;simp[d]at this;omega
theorem E0:∀(t:b2) (room:Int),fY t room= -1\/1<=fY t room
 | .mk k n s [a,b],room=>by
  simp only[fY];split
  ·exact .inl rfl
  ·split
   ·exact .inl rfl
   ·split
    ·exact .inl rfl
    ·right;omega
 | .mk k n s [],room=>by simp only[fY];split<;>simp
 | .mk k n s [a],room=>by simp[fY]
 | .mk k n s (a::b::c::r),room=>by simp[fY]
theorem NO:∀(t:b2) (room:Int),0<fY t room->∃x:T,x.tm=t
 | .mk k n s [a,b],room,h=>by
  simp only[fY]at h;split at h
  ·omega
  ·rename_i J;simp only[not_or,Int.not_lt,ne_eq,awe]at J;obtain⟨J,rfl,rfl,rfl⟩:=J;split at h
   ·omega
   ·split at h
    ·omega
    ·obtain⟨x,rfl⟩:=NO a (room-1) (by rcases E0 a (room-1)with h|h<;>omega);obtain⟨y,rfl⟩:=NO b (room-1-fY x.tm (room-1)) (by rcases E0 b (room-1-fY x.tm (room-1))with h|h<;>omega);exact⟨.pair x y,rfl⟩
 | .mk k n s [],room,h=>by
  simp only[fY]at h;split at h
  ·omega
  ·rename_i J;simp only[not_or,ne_eq,not_true_eq_false,not_false_eq_true,true_and,Bool.not_eq_false]at J;obtain⟨_,_,J⟩:=J;unfold l8 at J;split at J
   ·rename_i e;subst e;simp at J;obtain⟨rfl,rfl⟩:=J;exact⟨.nil,rfl⟩
   ·split at J
    ·rename_i e;subst e;simp at J;obtain⟨_,rfl⟩:=J;exact⟨.var n,rfl⟩
    ·split at J
     ·rename_i e;subst e;simp at J;obtain⟨rfl,_⟩:=J;exact⟨.sym s,rfl⟩
     ·split at J
      ·rename_i e;subst e;simp at J;obtain⟨_,rfl⟩:=J;exact⟨.num n,rfl⟩
      ·cases J
 | .mk k n s [a],room,h=>by simp[fY]at h
 | .mk k n s (a::b::c::r),room,h=>by simp[fY]at h
theorem NN:∀(t:b2) (room:Int),fY t room<=room\/fY t room= -1
 | .mk k n s [a,b],room=>by
  simp only[fY];split
  ·exact .inr rfl
  ·split
   ·exact .inr rfl
   ·split
    ·exact .inr rfl
    ·rcases NN b (room-1-fY a (room-1))with h|h<;>omega
 | .mk k n s [],room=>by simp only[fY];split<;>simp;rename_i h;omega
 | .mk k n s [a],room=>by simp[fY]
 | .mk k n s (a::b::c::r),room=>by simp[fY]
mutual
def b2.sz:b2->Nat
 | .mk _ _ _ a=>1+b2.szL a
def b2.szL:List b2->Nat
 |[]=>0
 |x::xs=>x.sz+b2.szL xs
end
theorem szL_mem:∀{l:List b2} {x:b2},x∈l->x.sz<=b2.szL l
 |y::l,x,h=>by
  rcases gp.1 h with rfl|h
  ·simp[b2.szL]
  ·have:=szL_mem h;simp[b2.szL];omega
theorem PA{t x:b2}(h:x∈t.args):x.sz<t.sz:=by cases t;simp[b2.args]at h;have:=szL_mem h;simp[b2.sz];omega
def T.fit(t:T):Bool:=t.ok&&decide (t.size<=5000)
def b2.fits(t:b2):Bool:=decide (0<fY t 5000)
theorem b2.fits_T(t:T):t.tm.fits=t.fit:=by
 unfold b2.fits T.fit;rw[Iw];have:=t.size_pos;by_cases J:t.ok=true<;>by_cases U:t.size<=5000
 ·rw[if_pos ⟨J,Ω⟩];simp[J,U];omega
 ·rw[if_neg Ω];simp[U]
 ·rw[if_neg (by simp[J])];simp[J]
 ·rw[if_neg (by simp[J])];simp[J]
theorem b2.fits_ex{t:b2}(h:t.fits=true):∃x:T,x.tm=t/\x.fit=true:=by obtain⟨x,rfl⟩:=NO t 5000 (by simpa[b2.fits]using h);exact⟨x,rfl,by rw[<-b2.fits_T];exact h⟩
structure au where
 v:Int
 t:T
 deriving DecidableEq,Inhabited
def au.e(b:au):ah:= .agg [.int .i64 b.v,.int .i64 b.t.kind,.int .i64 b.t.int,.str b.t.name,.slice 4 .no (b.t.args.map T.e)]
@[simp]theorem au.eta(b:au):au.mk b.v b.t=b:=rfl
@[simp]theorem Qs(v:Int)(t:T):ah.agg [.int .i64 v,.int .i64 t.kind,.int .i64 t.int,.str t.name,.slice 4 .no (t.args.map T.e)]=(au.mk v t).e:=rfl
@[simp]theorem arU(v:Int):ah.agg [.int .i64 v,.int .i64 0,.int .i64 0,.str [],.slice 4 .no []]=(au.mk v .nil).e:=rfl
@[simp]theorem arY(v n:Int):ah.agg [.int .i64 v,.int .i64 1,.int .i64 n,.str [],.slice 4 .no []]=(au.mk v (.var n)).e:=rfl
@[simp]theorem arX(v:Int)(s:List bV):ah.agg [.int .i64 v,.int .i64 2,.int .i64 0,.str s,.slice 4 .no []]=(au.mk v (.sym s)).e:=rfl
@[simp]theorem arV(v n:Int):ah.agg [.int .i64 v,.int .i64 3,.int .i64 n,.str [],.slice 4 .no []]=(au.mk v (.num n)).e:=rfl
@[simp]theorem arW(v:Int)(a b:T):ah.agg [.int .i64 v,.int .i64 4,.int .i64 0,.str [],.slice 4 .no [a.e,b.e]]=(au.mk v (.pair a b)).e:=rfl
@[simp]theorem at1(S:aB->Prop)(b:au):av S b.e=True:=by simp[au.e,-Qs]
@[simp]theorem avK(b:au):de b.e=b.e:=by simp[au.e,-Qs]
theorem WQ(S:aB->Prop):∀l:List au,aA S (l.map au.e)
 |[]=>by simp[aA]
 |x::xs=>by simp[aA,WQ S xs]
@[simp]theorem atP(S:aB->Prop)(l:List au):aA S (l.map au.e)=True:=eq_true (WQ S l)
@[simp]theorem ZU:∀l:List au,cK (l.map au.e)=l.map au.e
 |[]=>rfl
 |x::xs=>by simp[cK,ZU xs]
@[simp]theorem avi(b:au):e5 b.e=true:=rfl
@[simp]theorem asf(b:au):cells b.e=[.int .i64 b.v,.int .i64 b.t.kind,.int .i64 b.t.int,.str b.t.name,.slice 4 .no (b.t.args.map T.e)]:=rfl
@[simp]theorem aty(b:au):Pv.isAgg 5 b.e:=⟨_,rfl,rfl⟩
@[simp]theorem asW(off:Nat)(a:Bool)(sz:Nat)(b:au):vu off a sz b.e=if a then some (off+sz<=5,.agg (([.int .i64 b.v,.int .i64 b.t.kind,.int .i64 b.t.int,.str b.t.name,.slice 4 .no (b.t.args.map T.e)].drop off).take sz))else(([.int .i64 b.v,.int .i64 b.t.kind,.int .i64 b.t.int,.str b.t.name,.slice 4 .no (b.t.args.map T.e)]:List ah)[off]?).map fun p=>(True,p):=rfl
@[simp]theorem asO(off:Nat)(a:Bool)(sz:Nat)(b:au):sG off a sz (.eptr b.e)=if a then some (off+sz<=5,.eptr (.agg (([.int .i64 b.v,.int .i64 b.t.kind,.int .i64 b.t.int,.str b.t.name,.slice 4 .no (b.t.args.map T.e)].drop off).take sz)))else(([.int .i64 b.v,.int .i64 b.t.kind,.int .i64 b.t.int,.str b.t.name,.slice 4 .no (b.t.args.map T.e)]:List ah)[off]?).map fun p=>(e5 p=true/\cells p=[p],.eptr p):=rfl
def T.occ(v:Int):T->Bool
 | .var n=>n==v
 | .pair a b=>a.occ v||b.occ v
 |_=>false
def eX(a b:Int):Int:=if a<b then-1 else if b<a then 1 else 0
def lB(a b:List bV):Int:=if a=b then 0 else if hX a b then-1 else 1
def eU:T->T->Int
 | .pair a b,.pair c d=>if eU a c=0 then eU b d else eU a c
 |x,y=>if x.kind≠y.kind then eX x.kind y.kind else if x.int≠y.int then eX x.int y.int else lB x.name y.name
structure dj where
 v:Int
 t:b2
def dj.e(b:dj):ah:= .agg [.int .i64 b.v,.int .i64 b.t.kind,.int .i64 b.t.num,.str b.t.name,.slice 4 .no (b.t.args.map enc)]
def au.b(b:au):dj:=⟨b.v,b.t.tm⟩
theorem au.b_e(b:au):b.b.e=b.e:=by obtain⟨v,t⟩:=b;cases t<;>simp only[au.b,dj.e,au.e,T.tm,b2.kind,b2.num,b2.name,b2.args,w6,aj8,akd,akc,aj9,aka,ajA,ajE,ajD,ajB,ajC,ak0,ak5,ak4,ak1,ak2,abU,abY,abX,abV,abW,fA,pg]
@[simp]theorem dj.eta(b:dj):dj.mk b.v b.t=b:=rfl
@[simp]theorem Qt(v:Int)(t:b2):ah.agg [.int .i64 v,.int .i64 t.kind,.int .i64 t.num,.str t.name,.slice 4 .no (t.args.map enc)]=(dj.mk v t).e:=rfl
@[simp]theorem at3(S:aB->Prop)(b:dj):av S b.e=True:=by simp[dj.e,-Qt]
@[simp]theorem avM(b:dj):de b.e=b.e:=by simp[dj.e,-Qt]
theorem WS(S:aB->Prop):∀l:List dj,aA S (l.map dj.e)
 |[]=>by simp[aA]
 |x::xs=>by simp[aA,WS S xs]
@[simp]theorem atS(S:aB->Prop)(l:List dj):aA S (l.map dj.e)=True:=eq_true (WS S l)
@[simp]theorem apH:∀l:List dj,cK (l.map dj.e)=l.map dj.e
 |[]=>rfl
 |x::xs=>by simp[cK,apH xs]
@[simp]theorem avl(b:dj):e5 b.e=true:=rfl
@[simp]theorem asi(b:dj):cells b.e=[.int .i64 b.v,.int .i64 b.t.kind,.int .i64 b.t.num,.str b.t.name,.slice 4 .no (b.t.args.map enc)]:=rfl
@[simp]theorem atA(b:dj):Pv.isAgg 5 b.e:=⟨_,rfl,rfl⟩
@[simp]theorem asX(off:Nat)(a:Bool)(sz:Nat)(b:dj):vu off a sz b.e=if a then some (off+sz<=5,.agg (([.int .i64 b.v,.int .i64 b.t.kind,.int .i64 b.t.num,.str b.t.name,.slice 4 .no (b.t.args.map enc)].drop off).take sz))else(([.int .i64 b.v,.int .i64 b.t.kind,.int .i64 b.t.num,.str b.t.name,.slice 4 .no (b.t.args.map enc)]:List ah)[off]?).map fun p=>(True,p):=rfl
@[simp]theorem asP(off:Nat)(a:Bool)(sz:Nat)(b:dj):sG off a sz (.eptr b.e)=if a then some (off+sz<=5,.eptr (.agg (([.int .i64 b.v,.int .i64 b.t.kind,.int .i64 b.t.num,.str b.t.name,.slice 4 .no (b.t.args.map enc)].drop off).take sz)))else(([.int .i64 b.v,.int .i64 b.t.kind,.int .i64 b.t.num,.str b.t.name,.slice 4 .no (b.t.args.map enc)]:List ah)[off]?).map fun p=>(e5 p=true/\cells p=[p],.eptr p):=rfl
def B5(l:List dj)(i:Nat):Prop:= ∀b,l[i]? =some b->(0<=b.v/\b.v<=100000)/\(∀c,0<i->l[i-1]? =some c->c.v<b.v)/\b.t.fits=true
def Az(l:List dj):Prop:=l.length<=400/\∀i,i<l.length->B5 l i
theorem r7:∀a b:T,eU a b=0↔a=b
 | .pair a b,.pair c d=>by
  simp only[eU,T.pair.injEq];split
  ·rename_i h;rw[r7 b d,<-r7 a c];simp[h]
  ·rename_i h;simp[h,<-r7 a c]
 | .nil,y=>by cases y<;>simp[eU,eX,lB]
 | .var n,y=>by cases y<;>simp[eU,eX,lB]<;>omega
 | .sym s,y=>by cases y<;>simp[eU,eX,lB];rename_i e;by_cases h:s=e<;>simp[h];by_cases U:hX s e=true<;>simp[U]
 | .num n,y=>by cases y<;>simp[eU,eX,lB]<;>omega
 | .pair a b,.nil| .pair a b,.var _| .pair a b,.sym _| .pair a b,.num _=>by simp[eU,eX]
def T.sub(f:Int->aW T):T->T
 | .var n=>match f n with|some x=>x|none=>.var n
 | .pair a b=>.pair (a.sub f) (b.sub f)
 |t=>t
def mc(f:Int->Int):T->Int
 | .var n=>if 5001<f n then 5001 else f n
 | .pair a b=>if 5000<mc f a then mc f a else if 5001<1+mc f a+mc f b then 5001 else 1+mc f a+mc f b
 |_=>1
theorem Jp(f:Int->Int)(c:∀v,-1<=f v):∀t,-1<=mc f t/\mc f t<=5001
 | .var n=>by have:=c n;simp only[mc];split<;>omega
 | .pair a b=>by have:=Jp f c a;have:=Jp f c b;simp only[mc];split<;>(try split)<;>omega
 | .nil| .sym _| .num _=>by simp[mc]
def dx(l:List au)(v:Int):aW T:=(l.find? fun b=>b.v==v).map (·.t)
end
section
open Go
structure j7 {α:Type} (c:α->α->Int):Prop where
 neg:∀a b,c b a= -c a b
 tr:∀a b d,c a b<=0->c b d<=0->c a d<=0
 zero:∀a b,c a b=0↔a=b
section
variable {α:Type} {c:α->α->Int}
def ij(c:α->α->Int)(a b:α):Bool:=decide (c a b<0)
theorem j7.ltOk(h:j7 c):rE (ij c):=by
 refine⟨fun x y a=>?_,fun x y z J U=>?_⟩
 ·simp only[ij,e8,iq]at a⊢;rw[h.neg x y];omega
 ·simp only[ij,iq]at J U⊢;have d:=h.neg x y;have e:=h.neg y z;have b:=h.neg x z;have:=h.tr x y z Ω Ω;omega
theorem j7.refl(h:j7 c)(a:α):c a a=0:=(h.zero a a).2 rfl
theorem j7.ltr(h:j7 c){a b d:α}(J:c a b<0)(U:c b d<=0):c a d<0:=by
 have f:=h.tr a b d Ω U;rcases(by omega:c a d<0\/c a d=0)with e|e
 ·exact e
 ·obtain rfl:=(h.zero a d).1 e;have:=h.neg a b;omega
def pW(c:α->α->Int)(l:List α):List α:=l.mergeSort fun x y=>decide (c x y<=0)
theorem Ac(c:α->α->Int)(l:List α):(pW c l).Perm l:=List.mergeSort_perm l _
theorem Ph(h:j7 c)(l:List α):(pW c l).Pairwise fun x y=>c x y<=0:=by have:=List.pairwise_mergeSort (le:=fun x y=>decide (c x y<=0)) (fun a b d J U=>by simp at J U⊢;exact h.tr a b d J U) (fun a b=>by simp;have:=h.neg a b;omega) l;exact this.imp Ψ
theorem ZQ(h:j7 c){l a:List α}(d:a.Perm l)(e:a.Pairwise fun x y=>ij c y x=false):a=pW c l:=by refine Qc (le:=fun x y=>c x y<=0) (fun x y _ _ J U=>(h.zero x y).1 (by have:=h.neg x y;omega)) (e.imp fun{x y} b=>?_) (Ph h l) (d.trans (Ac c l).symm);simp only[ij,iq]at b;have:=h.neg x y;omega
def cQ[DecidableEq α](p:aW α):List α->List α
 |[]=>[]
 |x::r=>if p=some x then cQ (some x) r else x::cQ (some x) r
def asc[DecidableEq α](c:α->α->Int)(l:List α):List α:=cQ none (pW c l)
def ir(c:α->α->Int)(l:List α):Prop:=l.Pairwise fun x y=>c x y<0
variable [DecidableEq α]
theorem KV:∀(l:List α) (p:aW α) (x:α),x∈cQ p l->x∈l
 |[],_,_,h=>by simp[cQ]at h
 |y::r,p,x,h=>by
  simp only[cQ]at h;split at h
  ·exact p4 _ (KV r _ x h)
  ·rcases gp.1 h with rfl|h
   ·simp
   ·exact p4 _ (KV r _ x h)
theorem Nu:∀(l:List α) (p:aW α) (x:α),x∈l->x∈cQ p l\/p=some x
 |y::r,p,x,h=>by
  simp only[cQ];rcases gp.1 h with rfl|h
  ·split
   ·rename_i U;exact .inr U
   ·simp
  ·split
   ·rename_i U;rcases Nu r (some y) x h with a|a
    ·exact .inl a
    ·cases a;exact .inr U
   ·rcases Nu r (some y) x h with a|a
    ·exact .inl (p4 _ a)
    ·cases a;simp
theorem Tw(ax:j7 c):∀(l:List α) (p:aW α),l.Pairwise (fun x y=>c x y<=0)->(∀y,p=some y->∀x∈l,c y x<=0)->ir c (cQ p l)/\∀y,p=some y->∀x∈cQ p l,c y x<0
 |[],p,_,_=>⟨awo,fun y _ x a=>by simp[cQ]at a⟩
 |z::r,p,h,i=>by
  obtain⟨J,U⟩:=nO.1 h;have b:=Tw ax r (some z) U (fun y f x a=>by cases f;exact J x a);simp only[cQ];split
  ·rename_i e;subst e;exact b
  ·rename_i e;refine⟨nO.2 ⟨fun x a=>b.2 z rfl x a,b.1⟩,fun y f x a=>?_⟩;subst f;have g:c y z<0:=by
    have j:=i y rfl z Ψ;rcases(by omega:c y z<0\/c y z=0)with d|d
    ·exact d
    ·exact absurd (eu some ((ax.zero y z).1 d)) e
   rcases gp.1 a with rfl|a
   ·exact g
   ·exact ax.ltr g (by have:=b.2 z rfl x a;omega)
theorem Ki(ax:j7 c)(l:List α):ir c (asc c l):=(Tw ax _ none (Ph ax l) (fun y h=>by cases h)).1
theorem Xt(l:List α)(x:α):x∈asc c l↔x∈l:=by
 constructor
 ·intro h;exact(Ac c l).mem_iff.1 (KV _ _ _ h)
 ·intro h;rcases Nu (pW c l) none x ((Ac c l).mem_iff.2 h)with h|h
  ·exact h
  ·cases h
omit [DecidableEq α]in
theorem ir.ext(ax:j7 c){l d:List α}(h:ir c l)(f:ir c d)(hm:∀x,x∈l↔x∈d):l=d:=by
 have g:∀{l:List α},ir c l->l.Nodup:=fun{l} h=>h.imp fun{a b} h e=>by subst e;have:=ax.refl a;omega
 refine Qc (le:=fun x y=>c x y<=0) (fun x y _ _ J U=>(ax.zero x y).1 (by have:=ax.neg x y;omega)) (h.imp fun h=>Ω) (f.imp fun h=>Ω) ?_;exact(List.perm_ext_iff_of_nodup (g h) (g f)).2 hm
omit [DecidableEq α]in
theorem ir.nodup(ax:j7 c){l:List α}(h:ir c l):l.Nodup:=h.imp fun{a b} h e=>by subst e;have:=ax.refl a;omega
end
theorem Kn:∀a b:List bV,hX a b=true->hX b a=false
 |_,[],h=>by simp[hX]at h
 |[],_::_,_=>by simp[hX]
 |x::a,y::b,h=>by
  simp only[hX,nL,e8,cD,dS]at h;simp only[hX,Bool.or_eq_false_iff,iq,Bool.and_eq_false_iff];rcases h with h|⟨rfl,h⟩
  ·refine⟨fun U=>?_,.inl ?_⟩
   ·rw[UInt8.lt_iff_toNat_lt]at h U;omega
   ·simp;intro e;subst e;rw[UInt8.lt_iff_toNat_lt]at h;omega
  ·exact⟨fun U=>by rw[UInt8.lt_iff_toNat_lt]at U;omega,.inr (Kn a b h)⟩
theorem QN:∀a b:List bV,a≠b->hX a b=false->hX b a=true
 |[],[],h,_=>absurd rfl h
 |x::a,[],_,_=>by simp[hX]
 |[],_::_,_,h=>by simp[hX]at h
 |x::a,y::b,c,h=>by
  simp only[hX,Bool.or_eq_false_iff,iq,Bool.and_eq_false_iff]at h;simp only[hX,nL,e8,cD,dS];by_cases e:x=y
  ·subst e;right;refine⟨rfl,QN a b (fun e=>c (by rw[e])) ?_⟩;rcases h.2 with U|U
   ·simp at U
   ·exact U
  ·left;have J:=h.1;rw[UInt8.lt_iff_toNat_lt]at J⊢;have:x.toNat≠y.toNat:=fun h=>e (UInt8.toNat_inj.1 h);omega
theorem QM:∀a b d:List bV,hX a b=true->hX b d=true->hX a d=true
 |_,[],_,h,_=>by simp[hX]at h
 |_,_::_,[],_,h=>by simp[hX]at h
 |[],_::_,_::_,_,_=>by simp[hX]
 |x::a,y::b,z::d,J,U=>by
  simp only[hX,nL,e8,cD,dS,UInt8.lt_iff_toNat_lt]at J U⊢;rcases J with J|⟨rfl,J⟩<;>rcases U with U|⟨rfl,U⟩
  ·left;omega
  ·left;exact J
  ·left;exact U
  ·exact .inr ⟨rfl,QM a b d J U⟩
theorem k3:j7 eX:=by
 refine⟨fun a b=>?_,fun a b d=>?_,fun a b=>?_⟩
 ·simp only[eX];repeat' split
  all_goals omega
 ·simp only[eX];repeat' split
  all_goals omega
 ·simp only[eX];repeat' split
  all_goals omega
theorem Fb:j7 lB:=by
 have g:∀a b,lB b a= -lB a b:=fun a b=>by
  simp only[lB];by_cases e:a=b
  ·subst e;simp
  ·rw[if_neg e,if_neg (k8 e)];cases h:hX a b with
   |true=>simp[Kn a b h]
   |false=>simp[QN a b e h]
 refine⟨g,fun a b d J U=>?_,fun a b=>?_⟩
 ·simp only[lB]at J U⊢;by_cases c:a=b
  ·subst c;exact U
  ·by_cases f:b=d
   ·subst f;exact J
   ·rw[if_neg c]at J;rw[if_neg f]at U;have g1:hX a b=true:=by cases h:hX a b<;>simp[h]at J⊢
    have g2:hX b d=true:=by cases h:hX b d<;>simp[h]at U⊢
    rw[QM a b d g1 g2];split<;>simp
 ·simp only[lB];by_cases e:a=b
  ·simp[e]
  ·rw[if_neg e];simp[e];split<;>omega
theorem tx{a b:T}(h:a.kind≠b.kind):eU a b=eX a.kind b.kind:=by cases a<;>cases b<;>simp at h<;>simp[eU]
theorem IE:∀a b:T,eU b a= -eU a b
 | .pair a b,.pair c d=>by
  simp only[eU];have J:=IE a c;have U:=IE b d;by_cases e:eU a c=0
  ·rw[if_pos e,if_pos Ω,U]
  ·rw[if_neg e,if_neg Ω,J]
 | .nil,y=>by
  by_cases f:T.nil.kind=y.kind
  ·cases y<;>simp at f;simp[eU,lB]
  ·rw[tx f,tx (k8 f),k3.neg]
 | .var n,y=>by
  by_cases f:(T.var n).kind=y.kind
  ·cases y<;>simp at f;rename_i m;by_cases e:n=m
   ·subst e;simp[eU,lB]
   ·simp[eU,e,k8 e,k3.neg n m]
  ·rw[tx f,tx (k8 f),k3.neg]
 | .sym s,y=>by
  by_cases f:(T.sym s).kind=y.kind
  ·cases y<;>simp at f;rename_i m;simp[eU,Fb.neg s m]
  ·rw[tx f,tx (k8 f),k3.neg]
 | .num n,y=>by
  by_cases f:(T.num n).kind=y.kind
  ·cases y<;>simp at f;rename_i m;by_cases e:n=m
   ·subst e;simp[eU,lB]
   ·simp[eU,e,k8 e,k3.neg n m]
  ·rw[tx f,tx (k8 f),k3.neg]
 | .pair a b,.nil| .pair a b,.var _| .pair a b,.sym _| .pair a b,.num _=>by simp[eU,eX]
theorem ID{a b:T}(h:eU a b<=0):a.kind<=b.kind:=by
 by_cases c:a.kind=b.kind
 ·omega
 ·rw[tx c]at h;simp only[eX]at h;repeat' split at h
  all_goals omega
theorem Yi(n m:Int):eU (.var n) (.var m)=eX n m:=by
 simp only[eU,T.kind,T.int,T.name,lB];by_cases e:n=m
 ·subst e;simp[eX]
 ·simp[e]
theorem Yh(n m:Int):eU (.num n) (.num m)=eX n m:=by
 simp only[eU,T.kind,T.int,T.name,lB];by_cases e:n=m
 ·subst e;simp[eX]
 ·simp[e]
theorem ann(n m:List bV):eU (.sym n) (.sym m)=lB n m:=by simp[eU]
theorem IF(a b d:T)(g:a.kind≠4)(J:eU a b<=0)(U:eU b d<=0):eU a d<=0:=by
 have e:=ID J;have f:=ID U;by_cases c:a.kind=d.kind
 ·cases a<;>cases d<;>simp at c g;all_goals(cases b<;>simp at e f)
  ·simp[eU,lB]
  ·rw[Yi]at J U⊢;exact k3.tr _ _ _ J U
  ·rw[ann]at J U⊢;exact Fb.tr _ _ _ J U
  ·rw[Yh]at J U⊢;exact k3.tr _ _ _ J U
 ·rw[tx c];simp only[eX];repeat' split
  all_goals omega
theorem ano:∀a b d:T,eU a b<=0->eU b d<=0->eU a d<=0:=by
 intro a;induction a with
 |pair e a2 o m=>
  intro b d J U;have i:=ID J;have j:=ID U;cases b<;>simp at i;all_goals(cases d<;>simp at j)
  rename_i c k d1 d2;simp only[eU]at J U⊢;by_cases g:eU e c=0
  ·obtain rfl:=(r7 e c).1 g;rw[if_pos g]at J;by_cases f:eU e d1=0
   ·rw[if_pos f]at U⊢;exact m k d2 J U
   ·rw[if_neg f]at U⊢;exact U
  ·rw[if_neg g]at J;by_cases f:eU c d1=0
   ·obtain rfl:=(r7 c d1).1 f;rw[if_neg g];exact J
   ·rw[if_neg f]at U;have l:=o c d1 J U;by_cases h:eU e d1=0
    ·obtain rfl:=(r7 e d1).1 h;have:=IE e c;omega
    ·rw[if_neg h];exact l
 |nil=>exact fun b d=>IF _ b d Ψ
 |var n=>exact fun b d=>IF _ b d Ψ
 |sym n=>exact fun b d=>IF _ b d Ψ
 |num n=>exact fun b d=>IF _ b d Ψ
theorem Oa:j7 eU:=⟨IE,ano,r7⟩
end
section
open Go
section
variable {α:Type} {c:α->α->Int}
def kC(c:α->α->Int):List α->List α->Int
 |[],[]=>0
 |[],_::_=> -1
 |_::_,[]=>1
 |x::xs,y::ys=>if c x y=0 then kC c xs ys else c x y
theorem Xb(h:j7 c):∀a b:List α,kC c b a= -kC c a b
 |[],[]=>rfl
 |[],_::_=>rfl
 |_::_,[]=>rfl
 |x::xs,y::ys=>by
  simp only[kC];have J:=h.neg x y;by_cases e:c x y=0
  ·rw[if_pos e,if_pos Ω,Xb h xs ys]
  ·rw[if_neg e,if_neg Ω,J]
theorem Xd(h:j7 c):∀a b:List α,kC c a b=0↔a=b
 |[],[]=>by simp[kC]
 |[],_::_=>by simp[kC]
 |_::_,[]=>by simp[kC]
 |x::xs,y::ys=>by
  simp only[kC,rA];by_cases e:c x y=0
  ·rw[if_pos e,Xd h xs ys];simp[(h.zero x y).1 e]
  ·rw[if_neg e];exact⟨fun d=>absurd d e,fun d=>absurd ((h.zero x y).2 d.1) e⟩
theorem Xc(h:j7 c):∀a b d:List α,kC c a b<=0->kC c b d<=0->kC c a d<=0
 |[],_,[],_,_=>by simp[kC]
 |[],_,_::_,_,_=>by simp[kC]
 |_::_,[],_,J,_=>by simp[kC]at J
 |_::_,_::_,[],_,U=>by simp[kC]at U
 |x::xs,y::ys,z::c8,J,U=>by
  simp only[kC]at J U⊢;by_cases f:c x y=0
  ·have:=(h.zero x y).1 f;subst this;rw[if_pos f]at J;by_cases e:c x z=0
   ·rw[if_pos e]at U⊢;exact Xc h xs ys c8 J U
   ·rw[if_neg e]at U⊢;exact U
  ·rw[if_neg f]at J;have g:c x y<0:=Ω
   by_cases e:c y z=0
   ·have:=(h.zero y z).1 e;subst this;rw[if_neg f];omega
   ·rw[if_neg e]at U;have:=h.ltr g U;rw[if_neg Ω];omega
theorem akm(h:j7 c):j7 (kC c):=⟨Xb h,Xc h,Xd h⟩
end
def zN(x y:au):Int:=if eX x.v y.v=0 then eU x.t y.t else eX x.v y.v
theorem anl:j7 zN:=by
 refine⟨fun x y=>?_,fun x y z J U=>?_,fun x y=>?_⟩
 ·unfold zN;have:=k3.neg x.v y.v;have:=Oa.neg x.t y.t;by_cases e:eX x.v y.v=0
  ·rw[if_pos e,if_pos Ω];omega
  ·rw[if_neg e,if_neg Ω];omega
 ·unfold zN at J U⊢;by_cases b:eX x.v y.v=0
  ·rw[if_pos b]at J;rw[(k3.zero _ _).1 b];by_cases a:eX y.v z.v=0
   ·rw[if_pos a]at U⊢;exact Oa.tr _ _ _ J U
   ·rw[if_neg a]at U⊢;exact U
  ·rw[if_neg b]at J;have c:eX x.v y.v<0:=Ω
   by_cases a:eX y.v z.v=0
   ·rw[<-(k3.zero _ _).1 a,if_neg b];exact J
   ·rw[if_neg a]at U;have:=k3.ltr c U;rw[if_neg Ω];omega
 ·unfold zN;by_cases e:eX x.v y.v=0
  ·rw[if_pos e,Oa.zero];have:=(k3.zero _ _).1 e;cases x;cases y;simp_all
  ·rw[if_neg e];exact⟨fun h=>absurd h e,fun h=>by rw[h]at e;exact absurd (k3.refl _) e⟩
def eW:List au->List au->Int:=kC zN
theorem mC:j7 eW:=akm anl
end
section
open Go
def T.ap(c:Int->T):T->T
 | .var n=>c n
 | .pair a b=>.pair (a.ap c) (b.ap c)
 |t=>t
theorem C6(f g:Int->T)(t:T):(t.ap f).ap g=t.ap fun v=>(f v).ap g:=by
 induction t with
 |pair a b d c=>simp[T.ap,d,c]
 |_=>simp[T.ap]
theorem vj{f g:Int->T}{t:T}(h:∀v,t.occ v=true->f v=g v):t.ap f=t.ap g:=by
 induction t with
 |var n=>exact h n (by simp[T.occ])
 |pair a b e d=>simp only[T.ap];rw[e fun v c=>h v (by simp[T.occ,c]),d fun v c=>h v (by simp[T.occ,c])]
 |_=>rfl
theorem abS(t:T):t.ap .var=t:=by induction t<;>simp_all[T.ap]
theorem Qy{f:Int->T}{t:T}(h:∀v,t.occ v=true->f v= .var v):t.ap f=t:=(vj h).trans (abS t)
theorem ZY(f:Int->aW T)(t:T):t.sub f=t.ap fun v=>(f v).getD (.var v):=by
 induction t with
 |var n=>simp only[T.sub,T.ap];cases f n<;>rfl
 |pair a b d c=>simp[T.sub,T.ap,d,c]
 |_=>rfl
theorem abR(c:Int->T)(t:T):t.size<=(t.ap c).size:=by
 induction t with
 |var n=>exact T.size_pos _
 |pair a b e d=>simp only[T.ap,T.size];omega
 |_=>exact eR _
theorem B4(c:Int->T){v:Int}{t:T}(h:t.occ v=true):(c v).size<=(t.ap c).size/\(t.kind≠1->(c v).size<(t.ap c).size):=by
 induction t with
 |var n=>simp[T.occ]at h;subst h;simp[T.ap,T.kind]
 |pair a b e d=>
  simp only[T.occ,nL]at h;simp only[T.ap,T.size];rcases h with h|h
  ·have:=(e h).1;exact⟨Ω,fun _=>Ω⟩
  ·have:=(d h).1;exact⟨Ω,fun _=>Ω⟩
 |_=>simp[T.occ]at h
theorem E3{c:Int->T}{v:Int}{t:T}:(t.ap c).occ v=true↔∃w,t.occ w=true/\(c w).occ v=true:=by
 induction t with
 |var n=>simp[T.ap,T.occ]
 |pair a b e d=>
  simp only[T.ap,T.occ,nL,e,d];constructor
  ·rintro(⟨w,J,U⟩|⟨w,J,U⟩)
   ·exact⟨w,.inl J,U⟩
   ·exact⟨w,.inr J,U⟩
  ·rintro⟨w,J|J,U⟩
   ·exact .inl ⟨w,J,U⟩
   ·exact .inr ⟨w,J,U⟩
 |_=>simp[T.ap,T.occ]
def cI(s:List au)(v:Int):T:=(dx s v).getD (.var v)
abbrev iM(s:List au):Prop:=s.Pairwise fun x y=>x.v<y.v
def hs(s:List au)(a:Int->T):Prop:= ∀b∈s,a b.v=b.t.ap a
structure gf (s:List au):Prop where
 asc:iM s
 free:∀b∈s,∀w,b.t.occ w=true->dx s w=none
 ori:∀b∈s,∀w,b.t= .var w->w<b.v
theorem vl(b:au)(s:List au)(v:Int):dx (b::s) v=if b.v=v then some b.t else dx s v:=by
 unfold dx;by_cases h:b.v=v
 ·simp[h]
 ·have:(b.v==v)=false:=by simp[h]
  simp[this,h,List.find?_cons]
theorem kQ{v:Int}{t:T}:∀{s:List au},dx s v=some t->(⟨v,t⟩:au)∈s
 |[],h=>by simp[dx]at h
 |b::s,h=>by
  rw[vl]at h;split at h
  ·rename_i e;cases h;subst e;simp
  ·exact p4 _ (kQ h)
theorem wW{v:Int}:∀{s:List au},dx s v=none↔∀b∈s,b.v≠v
 |[]=>by simp[dx]
 |b::s=>by
  rw[vl];by_cases h:b.v=v
  ·simp[h]
  ·simp[h,wW (s:=s)]
theorem wV{b:au}:∀{s:List au},iM s->b∈s->dx s b.v=some b.t
 |[],_,h=>by simp at h
 |c::s,d,h=>by
  rw[vl];have a:=nO.1 d;rcases gp.1 h with rfl|h
  ·simp
  ·have:=a.1 b h;rw[if_neg Ω];exact wV a.2 h
theorem QB:∀{s a:List au},iM s->iM a->(∀v,dx s v=dx a v)->s=a
 |[],[],_,_,_=>rfl
 |[],c::a,_,_,h=>by have:=h c.v;rw[vl]at this;simp[dx]at this
 |c::s,[],_,_,h=>by have:=h c.v;rw[vl]at this;simp[dx]at this
 |b::s,c::a,k,ae,h=>by
  have f:=nO.1 ae;have d:=nO.1 k;have J:(⟨b.v,b.t⟩:au)∈c::a:=kQ (by rw[<-h b.v,vl];simp);have U:(⟨c.v,c.t⟩:au)∈b::s:=kQ (by rw[h c.v,vl];simp);have n:b=c:=by
   rcases gp.1 J with e|e
   ·exact e
   ·rcases gp.1 U with i|i
    ·exact i.symm
    ·have m:=f.1 _ e;have l:=d.1 _ i;simp only at m l;omega
  subst n;rw[QB d.2 f.2 fun v=>?_];have:=h v;rw[vl,vl]at this;by_cases e:b.v=v
  ·have j:dx s v=none:=wW.2 fun x g=>by have:=d.1 x g;omega
   have z2:dx a v=none:=wW.2 fun x g=>by have:=f.1 x g;omega
   rw[j,z2]
  ·simpa[e]using this
theorem apv{s:List au}(c:iM s){a:Int->T}:hs s a↔∀v,a v=(cI s v).ap a:=by
 constructor
 ·intro h v;unfold cI;cases e:dx s v with
  |none=>rfl
  |some t=>exact h _ (kQ e)
 ·intro h b ae;have:=h b.v;rw[cI,wV c ae]at this;exact this
theorem Pf{s:List au}{a:Int->T}(h:hs s a)(t:T):t.ap a=(t.ap (cI s)).ap a:=by
 rw[C6];refine vj fun v _=>?_;unfold cI;cases e:dx s v with
 |none=>rfl
 |some t=>exact h _ (kQ e)
theorem apb{s:List au}(b:gf s){t:T}(h:∀w,t.occ w=true->dx s w=none):t.ap (cI s)=t:=Qy fun v a=>by simp[cI,h v a]
theorem Ab{s:List au}(a:gf s):hs s (cI s):=fun b ae=>by rw[apb a (a.free b ae),cI,wV a.asc ae];rfl
theorem NG{s a:List au}(f:gf s)(c:gf a)(h:∀d,hs a d->hs s d){v:Int}(g:dx a v=none):dx s v=none:=by
 cases e:dx s v with
 |none=>rfl
 |some t=>
  have J:=h _ (Ab c) _ (kQ e);simp only[cI,g,oD]at J;cases t with
  |var w=>
   have U:w<v:=f.ori _ (kQ e) w rfl;simp only[T.ap,cI]at J;cases b:dx a w with
   |none=>rw[b]at J;simp at J;omega
   |some u=>rw[b]at J;simp only[mi]at J;subst J;have:=c.ori _ (kQ b) v rfl;simp only at this;omega
  |_=>simp[T.ap]at J
theorem akZ{s a:List au}(c:gf a)(h:∀b,hs a b->hs s b){v:Int}:(cI s v).size<=(cI a v).size:=by
 have J:=h _ (Ab c);unfold cI;cases e:dx s v with
 |none=>exact T.size_pos _
 |some t=>have:=J _ (kQ e);show t.size<=(cI a v).size;simp only at this;rw[this];exact abR _ _
theorem apy{s b:List au}(d:gf s)(c:gf b)(h:∀a,hs s a↔hs b a):s=b:=by
 refine QB d.asc c.asc fun v=>?_;have d1:∀w,dx s w=none↔dx b w=none:=fun w=>⟨NG c d (fun a=>(h a).1),NG d c fun a=>(h a).2⟩;cases e:dx s v with
 |none=>exact((d1 v).1 e).symm
 |some t=>
  cases f:dx b v with
  |none=>rw[(d1 v).2 f]at e;cases e
  |some g=>have J:=(h _).2 (Ab c) _ (kQ e);simp only[cI,f,mi]at J;rw[J];exact eu some (Qy fun w hw=>by have:=(d1 w).1 (d.free _ (kQ e) w hw);simp[cI,this]).symm
def hZ(s:List au):Prop:=s.length<=400/\∀b∈s,b.t.size<=5000
theorem ab1{s:List au}(h:iM s):(s.map (·.v)).Nodup:=by rw[List.nodup_iff_pairwise_ne,List.pairwise_map];exact h.imp fun h=>Ω
theorem Ud{s a:List au}(d:gf s)(f:gf a)(h:∀i,hs a i->hs s i)(k:hZ a):hZ s:=by
 have j:∀x∈s.map (·.v),x∈a.map (·.v):=by
  intro x l;obtain⟨b,ae,rfl⟩:=iL.1 l;cases e:dx a b.v with
  |none=>have:=NG d f h e;rw[wV d.asc ae]at this;cases this
  |some t=>exact iL.2 ⟨_,kQ e,rfl⟩
 have g:=Qb (ab1 d.asc) j;simp only[List.length_map]at g;refine⟨jM g k.1,fun b ae=>?_⟩;have J:=akZ (s:=s) f h (v:=b.v);rw[cI,wV d.asc ae]at J;obtain⟨c,ax,e⟩:=iL.1 (j b.v (iL.2 ⟨b,ae,rfl⟩));have U:=k.2 c ax;rw[cI,<-e,wV f.asc ax]at J;exact jM J U
def ka(E:List (T×T))(a:Int->T):Prop:= ∀e∈E,e.1.ap a=e.2.ap a
theorem FJ(a:Int->T):ka [] a:=fun _ h=>by simp at h
theorem sd{e:T×T}{E:List (T×T)}{a:Int->T}:ka (e::E) a↔e.1.ap a=e.2.ap a/\ka E a:=by simp[ka]
theorem FI{E b:List (T×T)}{a:Int->T}:ka (E++b) a↔ka E a/\ka b a:=by simp only[ka,kr];exact⟨fun h=>⟨fun e he=>h e (.inl he),fun e he=>h e (.inr he)⟩,fun h e he=>he.elim (h.1 e) (h.2 e)⟩
def jw(s:List au)(E:List (T×T)):aW (List au)->Prop
 |some a=>(gf a/\hZ a)/\∀b,hs a b↔hs s b/\ka E b
 |none=> ∀a,gf a->(∀b,hs a b->hs s b/\ka E b)->¬hZ a
theorem abI{s:List au}{E:List (T×T)}:∀{o o':aW (List au)},jw s E o->jw s E o'->o=o'
 |none,none,_,_=>rfl
 |some s1,none,h,a=>absurd h.1.2 (a s1 h.1.1 fun b=>(h.2 b).1)
 |none,some s1,a,h=>absurd h.1.2 (a s1 h.1.1 fun b=>(h.2 b).1)
 |some s1,some s2,h,a=>by rw[apy h.1.1 a.1.1 fun b=>(h.2 b).trans (a.2 b).symm]
theorem C4{s s2:List au}{E c:List (T×T)}(h:∀a,(hs s a/\ka E a)↔(hs s2 a/\ka c a)):∀{o:aW (List au)},jw s E o->jw s2 c o
 |none,b=>fun e J U=>b e J fun a d=>(h a).2 (U a d)
 |some s1,b=>⟨b.1,fun a=>(b.2 a).trans (h a)⟩
theorem Qo{s s1:List au}{E d:List (T×T)}(h:jw s E (some s1)):∀{o:aW (List au)},jw s1 d o->jw s (E++d) o
 |none,b=>fun e J U=>b e J fun a c=>⟨(h.2 a).2 ⟨(U a c).1,(FI.1 (U a c).2).1⟩,(FI.1 (U a c).2).2⟩
 |some s2,b=>⟨b.1,fun a=>by rw[b.2 a,h.2 a,FI,and_assoc]⟩
theorem J8{s:List au}{E:List (T×T)}(c:List (T×T))(h:jw s E none):jw s (E++c) none:=fun d J U=>h d J fun b a=>⟨(U b a).1,(FI.1 (U b a).2).1⟩
theorem Gj{s:List au}{E:List (T×T)}(h:∀a,hs s a->¬ka E a):jw s E none:=fun b J U=>absurd (U _ (Ab J)).2 (h _ (U _ (Ab J)).1)
theorem J9{s:List au}(a:gf s)(c:hZ s):jw s [] (some s):=⟨⟨a,c⟩,fun b=>⟨fun h=>⟨h,FJ b⟩,fun h=>h.1⟩⟩
def one(v:Int)(x:T)(w:Int):T:=if w=v then x else .var w
def pM(b:au):List au->List au
 |[]=>[b]
 |c::s=>if b.v<c.v then b::c::s else c::pM b s
def nm(s:List au)(v:Int)(x:T):List au:=pM ⟨v,x⟩ (s.map fun b=>⟨b.v,b.t.ap (one v x)⟩)
theorem Nv{b x:au}:∀{s:List au},x∈pM b s↔x=b\/x∈s
 |[]=>by simp[pM]
 |c::s=>by
  simp only[pM];split
  ·simp
  ·simp only[gp,Nv (s:=s)];constructor
   ·rintro(h|h|h)
    ·exact .inr (.inl h)
    ·exact .inl h
    ·exact .inr (.inr h)
   ·rintro(h|h|h)
    ·exact .inr (.inl h)
    ·exact .inl h
    ·exact .inr (.inr h)
theorem Xa{b:au}:∀{s:List au},(pM b s).length=s.length+1
 |[]=>rfl
 |c::s=>by simp only[pM];split<;>simp[Xa]
theorem QC{b:au}:∀{s:List au},iM s->(∀c∈s,c.v≠b.v)->iM (pM b s)
 |[],_,_=>by simp[pM]
 |c::s,e,f=>by
  have d:=nO.1 e;simp only[pM];split
  ·rename_i g;refine nO.2 ⟨fun x a=>?_,e⟩;rcases gp.1 a with rfl|a
   ·exact g
   ·have:=d.1 x a;omega
  ·rename_i h;refine nO.2 ⟨fun x a=>?_,QC d.2 fun c ax=>f c (by simp[ax])⟩;rcases Nv.1 a with rfl|a
   ·have:=f c Ψ;omega
   ·exact d.1 x a
theorem re{s:List au}{v:Int}{x:T}{b:au}:b∈nm s v x↔b=⟨v,x⟩\/ ∃c∈s,b=⟨c.v,c.t.ap (one v x)⟩:=by unfold nm;rw[Nv,iL];refine or_congr Iff.rfl ⟨fun⟨c,J,U⟩=>⟨c,J,U.symm⟩,fun⟨c,J,U⟩=>⟨c,J,U.symm⟩⟩
theorem Yd{v:Int}{x:T}{a:Int->T}(h:a v=x.ap a)(t:T):(t.ap (one v x)).ap a=t.ap a:=by
 rw[C6];refine vj fun w _=>?_;unfold one;split
 ·rename_i e;subst e;exact h.symm
 ·rfl
theorem Gn{s:List au}{v w:Int}{x:T}:dx (nm s v x) w=none↔w≠v/\dx s w=none:=by
 rw[wW,wW];constructor
 ·intro h;exact⟨fun e=>h ⟨v,x⟩ (re.2 (.inl rfl)) e.symm,fun b ae=>h ⟨b.v,b.t.ap (one v x)⟩ (re.2 (.inr ⟨b,ae,rfl⟩))⟩
 ·rintro⟨J,U⟩ b ae;rcases re.1 ae with rfl|⟨c,ax,rfl⟩
  ·exact fun e=>J e.symm
  ·exact U c ax
theorem Pd{s:List au}(a:gf s){t:T}{w:Int}(h:(t.ap (cI s)).occ w=true):dx s w=none:=by
 obtain⟨u,_,U⟩:=E3.1 h;unfold cI at U;cases e:dx s u with
 |none=>rw[e]at U;simp[T.occ]at U;subst U;exact e
 |some t=>rw[e]at U;exact a.free _ (kQ e) w U
theorem apx{s:List au}(a:gf s){v:Int}{t:T}(h:dx s v=none)(ak:(t.ap (cI s)).occ v=false)(d:∀w,t.ap (cI s)= .var w->w<v):gf (nm s v (t.ap (cI s))):=by
 have f:∀w,(t.ap (cI s)).occ w=true->dx (nm s v (t.ap (cI s))) w=none:=fun w hw=>Gn.2 ⟨fun e=>(by subst e;rw[ak]at hw;cases hw),Pd a hw⟩;refine⟨QC ?_ ?_,fun b ae w hw=>?_,fun b ae w hw=>?_⟩
 ·rw[iM,List.pairwise_map];exact a.asc
 ·intro c ax;obtain⟨b,ae,rfl⟩:=iL.1 ax;exact wW.1 h b ae
 ·rcases re.1 ae with rfl|⟨c,ax,rfl⟩
  ·exact f w hw
  ·obtain⟨u,J,U⟩:=E3.1 hw;unfold one at U;split at U
   ·exact f w U
   ·rename_i g;simp[T.occ]at U;subst U;exact Gn.2 ⟨g,a.free c ax _ J⟩
 ·rcases re.1 ae with rfl|⟨c,ax,rfl⟩
  ·exact d w hw
  ·simp only at hw⊢;cases e:c.t with
   |var u=>
    have:=a.ori c ax u e;rw[e]at hw;simp only[T.ap,one]at hw;split at hw
    ·rename_i i;subst i;have:=d w hw;omega
    ·cases hw;exact this
   |_=>rw[e]at hw;simp[T.ap]at hw
theorem ZL{s:List au}{v:Int}{t:T}(a:Int->T):hs (nm s v (t.ap (cI s))) a↔hs s a/\ka [(.var v,t)] a:=by
 have e:ka [(.var v,t)] a↔a v=t.ap a:=by simp[ka,T.ap]
 rw[e];constructor
 ·intro h;have d:a v=(t.ap (cI s)).ap a:=h _ (re.2 (.inl rfl));have J:hs s a:=fun b ae=>by have:=h _ (re.2 (.inr ⟨b,ae,rfl⟩));simp only at this;rw[Yd d]at this;exact this
  exact⟨J,by rw[Pf J t];exact d⟩
 ·rintro⟨J,U⟩ b ae;have d:a v=(t.ap (cI s)).ap a:=by rw[<-Pf J t];exact U
  rcases re.1 ae with rfl|⟨c,ax,rfl⟩
  ·exact d
  ·simp only;rw[Yd d];exact J c ax
open Classical in
theorem abF{s:List au}(f:gf s){v:Int}{t:T}(g:dx s v=none)(ak:(t.ap (cI s)).occ v=false)(c:∀w,t.ap (cI s)= .var w->w<v):jw s [(.var v,t)] (if hZ (nm s v (t.ap (cI s)))then some (nm s v (t.ap (cI s)))else none):=by
 have J:=apx f g ak c;split
 ·rename_i a;exact⟨⟨J,a⟩,ZL⟩
 ·rename_i a;exact fun i U e h=>a (Ud J U (fun b d=>(ZL b).2 (e b d)) h)
end
end Go.Pv
