/- A call, by its contract. -/
import Derived.Deep.AppendSrc
import Derived.Laws.OwnMore
import Derived.Test.YtlnndmgfngfeiaaGreatDoorZf1
set_option linter.all false
set_option maxHeartbeats 4000000
set_option maxRecDepth 4000
open Bool renaming and_eq_true->bA,false_eq_true->ia
open ByteArray renaming size->Gj
open Go renaming Operand->gY,Program->bp,TypeId->eU
open Go.Builtin renaming append_->pO
open Go.Result renaming andThen_ok->eg
open Go.Sem renaming run_bind->ee,run_pure->eT
open Go.Value renaming cells->mj,int->lM,ownBlock->ln
open Go.World.grownBy renaming refl->WC
open List renaming cons_append->eI,eq_nil_of_length_eq_zero->pS,getElem?_append_left->nS,getElem?_eq_getElem->eh,getElem?_eq_some_iff->fG,length_append->jA,length_cons->lN,length_drop->lp,length_pos_iff->nT,map_cons->gZ,mem_append->ha,mem_append_left->kk,mem_append_right->iz,mem_map->lO,nil_append->fx,take_length->kQ
open Nat renaming le_refl->cE
open Option renaming isSome_iff_exists->ei,isSome_none->qF,map_some->mZ
open Option.some renaming injEq->dv
open Prod.mk renaming injEq->hx
open _root_ renaming ByteArray->ib,False->cw,Option->aV,UInt8->aC,beq_iff_eq->df,congrArg->dq,decide_eq_true_eq->fH,if_neg->be
namespace Go.Pv
section
open Go Go.RowKit
theorem bH.inPlace{C:dh}{st:aN}{a:Act}{w:World}{ν:aD}(h:bH C st a w ν){k:aq}{o:cq}(J:look k st.e=some o){bl cap:Nat}{cur:Array Value}(aL:ν.ow k=some (o.n,.slice (some ⟨bl,0,none⟩) o.n cap))
  (q1:w.heap[bl]? =some (.cells cur o.el (0,0))) (qa:cap<=maxLen) (cO:cur.size=cap*o.sz) {xs ys:List ab} {us ns:List Value} (l5:xs.length=o.n) (mH:cur.toList.take (o.n*o.sz)=us) (az:b4 w ν o.sz xs us) (Ad:b4 w ν o.sz ys ns)
  (fN:0<ys.length) (lC:o.n+ys.length<=cap) (hg:xs.length+ys.length<=bX):
  bH C {st with e:=ck k ⟨o.n+ys.length,o.el,o.sz,none⟩ st.e} a (w.setRow bl (us++ns++cur.toList.drop (o.n*o.sz+ns.length)).toArray)
   (ν.withRowOf k (.slice (some ⟨bl,0,none⟩) (o.n+ys.length) cap) (o.n+ys.length) ((o.n+ys.length)*o.sz))/\
  aw (w.setRow bl (us++ns++cur.toList.drop (o.n*o.sz+ns.length)).toArray) (ν.withRowOf k (.slice (some ⟨bl,0,none⟩) (o.n+ys.length) cap) (o.n+ys.length) ((o.n+ys.length)*o.sz))
   (.slice o.sz (.own k) (xs++ys)) (.slice (some ⟨bl,0,none⟩) (o.n+ys.length) cap):=by
 have jO:=nI Ad;have ps:=nI az;rw[l5]at ps;have hmul:(o.n+ys.length)*o.sz<=cap*o.sz:=Nat.mul_le_mul_right _ lC;rw[Nat.add_mul]at hmul;obtain⟨v0,dX,bJ,cj,de,_⟩:=h.good.own k o J;rw[aL]at bJ;cases bJ;obtain⟨du,cy⟩:=de bl rfl;generalize sS:w.setRow bl (us++ns++cur.toList.drop (o.n*o.sz+ns.length)).toArray=w';have k6:∀j,j≠bl->w'.heap[j]? =w.heap[j]?:=fun j av=>by rw[<-sS];exact setRow_other w bl j _ av
 have iE:w'.heap[bl]? =some (.cells (us++ns++cur.toList.drop (o.n*o.sz+ns.length)).toArray o.el (0,0)):=by rw[<-sS];exact setRow_heap w bl cur _ o.el _ q1
 have DM:w'.heap.size=w.heap.size:=by rw[<-sS];exact setRow_size w bl _
 have l1:∀j,j<o.n*o.sz->w'.cell? ⟨bl,j,none⟩=w.cell? ⟨bl,j,none⟩:=by intro j av;simp only[World.cell?,iE,q1,qF,ia,if_false];rw[List.getElem?_toArray,List.append_assoc,nS Ω,<-mH,List.getElem?_take,if_pos av];simp
 have ag:km w ν w' (ν.withRowOf k (.slice (some ⟨bl,0,none⟩) (o.n+ys.length) cap) (o.n+ys.length) ((o.n+ys.length)*o.sz)):=by
  refine⟨fun b j aT=>⟨.inl aT,?_⟩,fun j b _ av=>av,fun g n u _ hk=>?_,fun b j aT=>?_,fun _ _ _ _ h=>h⟩;rotate_left 2
  ·by_cases e:b=bl
   ·subst e;simp only[shape,iE,q1,List.size_toArray,jA,lp,Array.length_toList];congr 2;omega
   ·exact wO (k6 b e)
  ·by_cases e:b=bl
   ·subst e;exact l1 j (cy j aT)
   ·exact World.cell?_of_block (k6 b e)
  ·by_cases e:g=k
   ·subst e;rw[aL]at hk;cases hk;exact⟨o.n+ys.length,.slice (some ⟨bl,0,none⟩) (o.n+ys.length) cap,by simp[aD.withRowOf],.inr Ω⟩
   ·exact⟨n,u,by simp[aD.withRowOf,e,hk],.inl ⟨rfl,rfl⟩⟩
 have iY:∀g,(look g (ck k ⟨o.n+ys.length,o.el,o.sz,none⟩ st.e)).isSome->g=k\/(g≠k/\(look g st.e).isSome/\(ν.withRowOf k (.slice (some ⟨bl,0,none⟩) (o.n+ys.length) cap) (o.n+ys.length) ((o.n+ys.length)*o.sz)).ow g=ν.ow g):=by
  intro g hj;by_cases e:g=k
  ·exact .inl e
  ·rw[hJ,be (Ne.symm e)]at hj;exact .inr ⟨e,hj,by simp[aD.withRowOf,e]⟩
 have Yj:bl<w.heap.size:=(Array.getElem?_eq_some_iff.1 q1).1;have xO:∀j u,(us++ns)[j]? =some u->w'.cell? ⟨bl,j,none⟩=some u:=by intro j u av;have eV:=(fG.1 av).1;simp only[World.cell?,iE,qF,ia,if_false];rw[List.getElem?_toArray,nS eV];exact av
 refine⟨h.over ag rfl ⟨fun b j aT=>?_,fun j cn av=>?_,h.good.inj,fun g o' ea=>?_,fun g dH n n' u dw b I aa ak aK bb ct=>?_,fun g j n u b I aa ak aK bb=>?_,fun j=>?_,fun b af=>h.good.otr b ?_⟩
  ⟨by rw[<-sS];exact h.fr.os,by rw[<-sS];exact h.fr.tape,by rw[<-sS];exact h.fr.output,by rw[DM];exact h.fr.size,fun j av hm=>?_,fun b j aT=>?_,fun b j aT=>?_,h.fr.obj,h.fr.obn,fun m n u hm=>yV (h.fr.row m n u hm) (fun n u=>ag.ow _ n u trivial),h.fr.obr,h.fr.trd,fun k j b af=>⟨(h.fr.trb k j b af).1,by rw[DM];exact(h.fr.trb k j b af).2⟩,fun aX j b af=>?_,fun b o aT=>(ag.sh b o (h.fr.keep b o aT).1).trans (h.fr.sh b o aT),fun j n u b ah aE=>(by
   by_cases e:aq.loc j=k
   ·subst e;simp only[aD.withRowOf,if_true,dv,hx]at ah;rw[<-ah.2]at aE;have bg:b=bl:=by simpa[ln]using aE.symm
    subst bg;exact h.fr.nrow j _ _ b aL rfl
   ·simp only[aD.withRowOf,be e]at ah;exact h.fr.nrow j n u b ah aE)⟩ (fun m hm=>?_),?_⟩
 ·rw[DM];rcases aT with aT|⟨aT,_⟩
  ·exact h.good.alt b j aT
  ·simp only[ln,dv]at aT;omega
 ·obtain⟨b,a6,dQ,g1,g2,g3,g4,g5⟩:=h.good.box j cn av;have b7:b≠bl:=fun e=>h.good.obx k j o.n _ bl (by simp[J]) (by simp[av]) aL rfl (by rw[<-e];exact g1);refine⟨b,a6,dQ,g1,g2,fun i aT=>?_,by rw[k6 b b7];exact g4,nH ag g5⟩;rcases aT with aT|⟨aT,_⟩
  ·exact g3 i aT
  ·simp only[ln,dv]at aT;exact b7 aT.symm
 ·simp only at ea;rw[hJ]at ea;by_cases e:k=g
  ·rw[if_pos e]at ea;cases ea;subst e;refine⟨.slice (some ⟨bl,0,none⟩) (o.n+ys.length) cap,us++ns,by simp[aD.withRowOf],⟨by rw[jA,ps,jO,Nat.add_mul],.inr ⟨bl,cap,_,rfl,Nat.zero_le _,iE,lC,qa,?_,?_⟩⟩,fun b af=>⟨?_,fun j aT=>?_⟩,fun ys bk=>by cases bk⟩
   ·simp only[List.size_toArray,jA,lp,Array.length_toList];omega
   ·have aA:(us++ns).length=(o.n+ys.length)*o.sz:=by rw[jA,ps,jO,Nat.add_mul]
    simp only[<-aA];rw[List.take_append_of_le_length (cE _),kQ]
   ·simp only[ln,dv]at af;subst af;exact du
   ·simp only[ln,dv]at af;subst af;rcases aT with aT|⟨_,aT⟩
    ·have:=cy j aT;simp only;rw[Nat.add_mul];omega
    ·exact aT
  ·rw[be e]at ea;obtain⟨v0,dX,ah,aE,bg,cB⟩:=h.good.own g o' ea;have b7:∀b,v0.ownBlock=some b->b≠bl:=fun b af CG=>e (h.good.oinj k g o.n o'.n _ v0 bl (by simp[J]) (by simp[ea]) aL ah rfl (by rw[<-CG];exact af));have sx:∀b,v0.ownBlock=some b->∀j,(ν.withRowOf k (.slice (some ⟨bl,0,none⟩) (o.n+ys.length) cap) (o.n+ys.length) ((o.n+ys.length)*o.sz)).A b j->ν.A b j:=fun b af j aT=>by
    rcases aT with aT|⟨aT,_⟩
    ·exact aT
    ·simp only[ln,dv]at aT;exact absurd aT.symm (b7 b af)
   refine⟨v0,dX,by simp[aD.withRowOf,Ne.symm e,ah],⟨aE.1,?_⟩,fun b af=>⟨(bg b af).1,fun j aT=>(bg b af).2 j (sx b af j aT)⟩,pJ ag sx cB⟩;rcases aE.2 with aE|⟨hb,xo,kp,f1,f2,f3,f4⟩
   ·exact .inl aE
   ·exact .inr ⟨hb,xo,kp,f1,f2,by rw[k6 hb (b7 hb (by rw[f1];rfl))];exact f3,f4⟩
 ·rcases iY g I with rfl|⟨ft,eM,hK⟩<;>rcases iY dH aa with rfl|⟨m1,m2,m3⟩
  ·rfl
  ·exfalso;simp only[aD.withRowOf,if_true,dv,hx]at ak;rw[m3]at aK;rw[<-ak.2]at bb;simp only[ln,dv]at bb;subst bb;exact m1 (h.good.oinj dH g n' o.n dw _ bl m2 (by simp[J]) aK aL ct rfl)
  ·exfalso;simp only[aD.withRowOf,if_true,dv,hx]at aK;rw[hK]at ak;rw[<-aK.2]at ct;simp only[ln,dv]at ct;subst ct;exact ft (h.good.oinj g dH n o.n u _ bl eM (by simp[J]) ak aL bb rfl)
  ·rw[hK]at ak;rw[m3]at aK;exact h.good.oinj g dH n n' u dw b eM m2 ak aK bb ct
 ·rcases iY g I with rfl|⟨ft,eM,hK⟩
  ·simp only[aD.withRowOf,if_true,dv,hx]at ak;rw[<-ak.2]at aK;simp only[ln,dv]at aK;subst aK;exact h.good.obx g j o.n _ bl (by simp[J]) aa aL rfl bb
  ·rw[hK]at ak;exact h.good.obx g j n u b eM aa ak aK bb
 ·by_cases e:j=k
  ·subst e;rcases h.good.one j with I|I
   ·exact .inl I
   ·rw[I]at aL;cases aL
  ·rcases h.good.one j with I|I
   ·exact .inl I
   ·exact .inr (by simp[aD.withRowOf,e,I])
 ·rcases af with af|⟨g,n,u,bt,a2,a3⟩
  ·exact .inl af
  ·rcases iY g bt with rfl|⟨ft,eM,hK⟩
   ·simp only[aD.withRowOf,if_true,dv,hx]at a2;rw[<-a2.2]at a3;exact .inr ⟨g,_,_,by simp[J],aL,a3⟩
   ·exact .inr ⟨g,n,u,eM,by rw[<-hK];exact a2,a3⟩
 ·rw[k6 j fun e=>by subst e;exact du.elim hm (fun g2=>Ω)];exact h.fr.block j av hm
 ·obtain⟨cu,cI⟩:=h.fr.keep b j aT;exact⟨.inl cu,(ag.A b j cu).2.trans cI⟩
 ·rcases aT with aT|⟨aT,_⟩
  ·exact h.fr.fresh b j aT
  ·simp only[ln,dv]at aT;subst aT;exact .inr du
 ·obtain⟨t1,t2⟩:=h.fr.trn aX j b af;have b7:aX≠k:=fun e=>by subst e;rw[t2]at aL;cases aL
  exact⟨t1,by simp[aD.withRowOf,b7,t2]⟩
 ·obtain⟨cu,cI,gI⟩:=h.new m hm;refine⟨cu,?_,gI⟩;have:m≠k:=fun e=>by subst e;rw[cI]at aL;cases aL
  simp[aD.withRowOf,this,cI]
 ·simp only[aw];refine⟨⟨some ⟨bl,0,none⟩,cap,by simp[l5],by simp;omega,⟨qa,by simpa using hg⟩,.inr ⟨bl,0,us++ns,rfl,v7 _ 0 fun j u av=>?_,wF (wG ag az) (wG ag Ad)⟩⟩,fun e=>(by cases e),fun g e=>?_,fun _ _ e=>(by cases e),fun _ e=>(by cases e)⟩
  ·have eV:=(fG.1 av).1;rw[Nat.zero_add];refine⟨.inr ⟨rfl,?_⟩,xO j u av⟩;rw[jA,ps,jO]at eV;rw[Nat.add_mul];exact eV
  ·cases e;exact⟨o.n+ys.length,.slice (some ⟨bl,0,none⟩) (o.n+ys.length) cap,by simp[aD.withRowOf],by simp[l5],fun _=>rfl⟩
theorem BJ{P:bp}{w:World}{t ty e:eU}{i:TypeInfo}(au:P.underlying t=some (.slice e))(aB:P.info? e=some i)(b:aV Addr)(n cap:Nat)(aR:n<=cap)(x:aV Addr)(c:Nat):
  (pO #[t,t] ty #[.slice b n cap,.slice x 0 c]).run P w= .ok (.slice b n cap) w:=by
 cases b<;>cases x<;>simp[pO,run_underlying au,sizeOf,typeInfo,aB,Builtin.lenOf,aR,Builtin.firstCells,loadCells,loadCellsFrom,storeCells]
inductive cX where
 |v (d:Nat) (i:eY)
 |box (d:Nat) (key:aV Nat) (x:cg)
 |alloc (d:Nat) (key:aV Nat) (zero:ab)
 |store (sz:Nat) (x y:cg)
 |bsl (d:Nat) (sz el:Nat) (xs:List cg)
 |app (d:Nat) (sz el:Nat) (x y:cg)
 |bslm (d:Nat) (key:aV Nat) (sz el:Nat) (xs:List cg)
 |appm (d:Nat) (key:aV Nat) (sz el:Nat) (x y:cg)
 |mkmap (d:Nat) (key:aV Nat)
 |mput (bD:ig) (x k v:cg)
 |range (d:Nat) (key:aV Nat) (x:cg)
 |storeE (sz:Nat) (x y:cg)
 |mks (d:Nat) (key:aV Nat) (sz el:Nat) (z:ab) (x:cg)
 |apps (d el:Nat) (x y:cg)
def ho(st:aN):aV Nat->aq
 |none=>.loc st.n
 |some m=>.obj m
def nA(st:aN):aV Nat->Prop
 |none=>.loc st.n∉st.o
 |some m=>.obj m∉st.o
def lf(st:aN):aV Nat->Nat
 |none=>st.n+1
 |some _=>st.n
def lg(st:aN):aV Nat->List aq
 |none=>st.o
 |some m=>.obj m::st.o
theorem s0{st:aN}{key:aV Nat}(h:nA st key):fresh st.n st.o (ho st key):=by cases key<;>simp[ho,fresh,nA]at h⊢ <;>exact h
theorem s3{st:aN}{key:aV Nat}:∀j,fresh (lf st key) (lg st key) j->fresh st.n st.o j/\j≠ho st key:=by
 intro j av;cases key<;>cases j<;>simp[fresh,lf,lg,ho]at av⊢
 ·exact⟨⟨Ω,av.2⟩,Ω⟩
 ·exact av
 ·exact av
 ·exact⟨av.2,av.1⟩
def n5(sz:Nat):List ab->Prop
 |[]=>True
 |p::aZ=>(dP p=true/\(cells p).length=sz)/\n5 sz aZ
def oy(bD:ig)(k v:ab):List ab->aV (List ab)
 | .hdm clock borns::kvs=>if ux bD k=false then none else match rq bD k v kvs with
  |some (some sV)=>some (.hdm clock borns::sV)
  |some none=>some (.hdm (clock+1) (borns++[clock])::(kvs++[k,v]))
  |none=>none
 |_=>none
def yL(m:aq):List ab->aV (List ab)
 | .hdm clock _::_=>some [.hdi clock [] clock,.gmap m]
 |_=>none
def ko(st:aN)(sz el:Nat)(x y:ab):aV ((aV (aq×List ab))×List ab):=
 match x,y with
 | .slice cD .nil _,.slice gK _ ys=>if cD=sz/\gK=sz then some (none,ys)else none
 | .row cD k n,.slice gK _ ys=>if cD=sz/\gK=sz then
   match look k st.e with
   |some ⟨n',dQ,qx,some xs⟩=>if n'=n/\dQ=el/\qx=sz then some (some (k,xs),ys)else none
   |_=>none
  else none
 |_,_=>none
def oC:ab->Nat->List ab->ab
 | .agg cn,f,cs=>.agg (me cn f cs)
 |_,_,[q]=>q
 |_,_,_=>.junk
def oF(st:aN)(sz:Nat)(p v:ab):aV (Prop×aN):=
 match p with
 | .rptr cD k n i f=>match look k st.e with
  |some ⟨n',el,gK,some xs⟩=>if n'=n/\gK=cD then
    match xs[i]? with
    |some q=>some (dP q=true/\dP v=true/\(cells v).length=sz/\f+sz<=(cells q).length/\0<sz,{st with e:=ck k ⟨n',el,gK,some (xs.set i (oC q f (cells v)))⟩ st.e})
    |none=>none
   else none
  |_=>none
 |_=>none
def jF(s:List aC):List ab:=s.map fun c=>.int .u8 c.toNat
def xf(st:aN)(d el:Nat)(x y:ab):aV (Prop×aN):=
 match x,y with
 | .row sz k n,.str s=>match look k st.e with
  |some ⟨n',dQ,cD,some xs⟩=>if n'=n/\dQ=el/\cD=1/\sz=1 then some (xs.length+s.length<=bX,
    {st with t:=put d (.row 1 k (xs.length+s.length)) st.t,e:=ck k ⟨xs.length+s.length,el,1,some (xs++jF s)⟩ st.e})else none
  |_=>none
 | .slice sz .nil _,.str s=>if sz=1 then some ((.obj 862∉st.o)/\s≠[]/\s.length<=bX,
   {t:=put d (.row 1 (.obj 862) s.length) st.t,b:=st.b,e:=ck (.obj 862) ⟨s.length,el,1,some (jF s)⟩ st.e,n:=st.n,o:= .obj 862::st.o})else none
 |_,_=>none
def jV(st:aN):cX->aV (Prop×aN)
 | .mks d key sz el z x=>match bh st.t x with
  | .int _ n=>some (nA st key/\0<=n/\n<=bX,
    {t:=put d (.row sz (ho st key) n.toNat) st.t,b:=st.b,e:=ck (ho st key) ⟨n.toNat,el,sz,some (List.replicate n.toNat z)⟩ st.e,n:=lf st key,o:=lg st key})
  |_=>none
 | .bslm d key sz el xs=>some (nA st key/\n5 sz (xs.map (bh st.t)),
   {t:=put d (.row sz (ho st key) xs.length) st.t,b:=st.b,e:=ck (ho st key) ⟨xs.length,el,sz,some (xs.map (bh st.t))⟩ st.e,n:=lf st key,o:=lg st key})
 | .appm d key sz el x y=>match ko st sz el (bh st.t x) (bh st.t y)with
  |some (none,ys)=>some (nA st key/\ys.length<=bX/\ys≠[],
    {t:=put d (.row sz (ho st key) ys.length) st.t,b:=st.b,e:=ck (ho st key) ⟨ys.length,el,sz,some ys⟩ st.e,n:=lf st key,o:=lg st key})
  |some (some (k,xs),ys)=>some (xs.length+ys.length<=bX,{st with t:=put d (.row sz k (xs.length+ys.length)) st.t,e:=ck k ⟨xs.length+ys.length,el,sz,some (xs++ys)⟩ st.e})
  |none=>none
 | .mkmap d key=>some (nA st key,{t:=put d (.gmap (ho st key)) st.t,b:=ck (ho st key) [.hdm 0 []] st.b,e:=st.e,n:=lf st key,o:=lg st key})
 | .mput bD x k v=>match bh st.t x with
  | .gmap m=>match look m st.b with
   |some cs=>match oy bD (bh st.t k) (bh st.t v) cs with
    |some cs'=>some (True,{st with b:=ck m cs' st.b})
    |none=>none
   |none=>none
  |_=>none
 | .range d key x=>match bh st.t x with
  | .gmap m=>match look m st.b with
   |some cs=>match yL m cs with
    |some cs'=>some (nA st key,{t:=put d (.ptr (ho st key) 0) st.t,b:=ck (ho st key) cs' st.b,e:=st.e,n:=lf st key,o:=lg st key})
    |none=>none
   |none=>none
  |_=>none
 | .v d i=>match fw st i with
  |some (c,p)=>some (c,{st with t:=put d p st.t})
  |none=>none
 | .storeE sz x y=>oF st sz (bh st.t x) (bh st.t y)
 | .apps d el x y=>xf st d el (bh st.t x) (bh st.t y)
 | .box d key x=>some (nA st key/\dP (bh st.t x)=true,
   {t:=put d (.ptr (ho st key) 0) st.t,b:=ck (ho st key) (cells (bh st.t x)) st.b,e:=st.e,n:=lf st key,o:=lg st key})
 | .alloc d key z=>some (nA st key,{t:=put d (.ptr (ho st key) 0) st.t,b:=ck (ho st key) (cells z) st.b,e:=st.e,n:=lf st key,o:=lg st key})
 | .store sz x y=>match bh st.t x with
  | .ptr k off=>match look k st.b with
   |some cs=>some (fm cs=true/\dP (bh st.t y)=true/\(cells (bh st.t y)).length=sz/\off+sz<=cs.length,{st with b:=ck k (me cs off (cells (bh st.t y))) st.b})
   |none=>none
  |p=>oF st sz p (bh st.t y)
 | .bsl d sz el xs=>some (nA st none/\n5 sz (xs.map (bh st.t)),
   {st with t:=put d (.slice sz (.own (.loc st.n)) (xs.map (bh st.t))) st.t,e:=ck (.loc st.n) ⟨xs.length,el,sz,none⟩ st.e,n:=st.n+1})
 | .app d sz el x y=>match bh st.t x,bh st.t y with
  | .slice cD tag xs,.slice gK _ ys=>if cD=sz/\gK=sz then
    match tag with
    | .own k=>match look k st.e with
     |some o=>some (o.n=xs.length/\o.el=el/\o.sz=sz/\xs.length+ys.length<=bX,
       {st with t:=put d (.slice sz (.own k) (xs++ys)) st.t,e:=ck k ⟨xs.length+ys.length,el,sz,none⟩ st.e})
     |none=>none
    | .nil=>some (nA st none/\ys.length<=bX,{st with t:=put d (.slice sz (.own (.loc st.n)) ys) st.t,e:=ck (.loc st.n) ⟨ys.length,el,sz,none⟩ st.e,n:=st.n+1})
    |_=>none
   else none
  |_,_=>none
def dn(κ:aq)(n':Nat)(o':List aq)(st:aN):cX->aV (Prop×aN)
 | .mks d _ sz el z x=>match bh st.t x with
  | .int _ n=>some (0<=n/\n<=bX,
    {t:=put d (.row sz κ n.toNat) st.t,b:=st.b,e:=ck κ ⟨n.toNat,el,sz,some (List.replicate n.toNat z)⟩ st.e,n:=n',o:=o'})
  |_=>none
 | .bslm d _ sz el xs=>some (n5 sz (xs.map (bh st.t)),
   {t:=put d (.row sz κ xs.length) st.t,b:=st.b,e:=ck κ ⟨xs.length,el,sz,some (xs.map (bh st.t))⟩ st.e,n:=n',o:=o'})
 | .appm d _ sz el x y=>match ko st sz el (bh st.t x) (bh st.t y)with
  |some (none,ys)=>some (ys.length<=bX/\ys≠[],
    {t:=put d (.row sz κ ys.length) st.t,b:=st.b,e:=ck κ ⟨ys.length,el,sz,some ys⟩ st.e,n:=n',o:=o'})
  |some (some (k,xs),ys)=>some (xs.length+ys.length<=bX,{st with t:=put d (.row sz k (xs.length+ys.length)) st.t,e:=ck k ⟨xs.length+ys.length,el,sz,some (xs++ys)⟩ st.e})
  |none=>none
 | .mkmap d _=>some (True,{t:=put d (.gmap κ) st.t,b:=ck κ [.hdm 0 []] st.b,e:=st.e,n:=n',o:=o'})
 | .mput bD x k v=>match bh st.t x with
  | .gmap m=>match look m st.b with
   |some cs=>match oy bD (bh st.t k) (bh st.t v) cs with
    |some cs'=>some (True,{st with b:=ck m cs' st.b})
    |none=>none
   |none=>none
  |_=>none
 | .range d _ x=>match bh st.t x with
  | .gmap m=>match look m st.b with
   |some cs=>match yL m cs with
    |some cs'=>some (True,{t:=put d (.ptr κ 0) st.t,b:=ck κ cs' st.b,e:=st.e,n:=n',o:=o'})
    |none=>none
   |none=>none
  |_=>none
 | .v d i=>match fw st i with
  |some (c,p)=>some (c,{st with t:=put d p st.t})
  |none=>none
 | .storeE sz x y=>oF st sz (bh st.t x) (bh st.t y)
 | .apps d el x y=>xf st d el (bh st.t x) (bh st.t y)
 | .box d _ x=>some (dP (bh st.t x)=true,{t:=put d (.ptr κ 0) st.t,b:=ck κ (cells (bh st.t x)) st.b,e:=st.e,n:=n',o:=o'})
 | .alloc d _ z=>some (True,{t:=put d (.ptr κ 0) st.t,b:=ck κ (cells z) st.b,e:=st.e,n:=n',o:=o'})
 | .store sz x y=>match bh st.t x with
  | .ptr k off=>match look k st.b with
   |some cs=>some (fm cs=true/\dP (bh st.t y)=true/\(cells (bh st.t y)).length=sz/\off+sz<=cs.length,{st with b:=ck k (me cs off (cells (bh st.t y))) st.b})
   |none=>none
  |p=>oF st sz p (bh st.t y)
 | .bsl d sz el xs=>some (n5 sz (xs.map (bh st.t)),
   {st with t:=put d (.slice sz (.own κ) (xs.map (bh st.t))) st.t,e:=ck κ ⟨xs.length,el,sz,none⟩ st.e,n:=n',o:=o'})
 | .app d sz el x y=>match bh st.t x,bh st.t y with
  | .slice cD tag xs,.slice gK _ ys=>if cD=sz/\gK=sz then
    match tag with
    | .own k=>match look k st.e with
     |some o=>some (o.n=xs.length/\o.el=el/\o.sz=sz/\xs.length+ys.length<=bX,
       {st with t:=put d (.slice sz (.own k) (xs++ys)) st.t,e:=ck k ⟨xs.length+ys.length,el,sz,none⟩ st.e})
     |none=>none
    | .nil=>some (ys.length<=bX,{st with t:=put d (.slice sz (.own κ) ys) st.t,e:=ck κ ⟨ys.length,el,sz,none⟩ st.e,n:=n',o:=o'})
    |_=>none
   else none
  |_,_=>none
def s6:Nat->List cg->List (Nat×gY)->Bool
 |_,[],[]=>true
 |i,x::xs,(j,o)::os=>i==j&&c8 x o&&s6 (i+1) xs os
 |_,_,_=>false
def cX.bok(κ:aq):cX->Prop
 | .mkmap _ _| .range _ _ _=>κ≠ .obj 861
 | .alloc _ key _| .box _ key _=>κ= .obj 861->key=some 861
 |_=>True
theorem A5{st:aN}{key:aV Nat}(h:ho st key= .obj 861):key=some 861:=by cases key<;>simp[ho]at h⊢;exact h
def oD(N:Nat)(aW:List (Nat×cm))(i:cX)(o:Oper):Bool:=
 match i,o.op with
 | .mkmap d key,.makeMap _ none=>o.dst==some d&&decide (d<N)&&key !=some 861
 | .mput bD x k v,.mapUpdate t kd iH l8=>o.dst==none&&(match cW aW t with|some ⟨_,_,.map eC _,_⟩=>uy aW bD eC|_=>false)&&c8 x kd&&c8 k iH&&c8 v l8
 | .mput bD x k v,.insert t kd iH l8=>o.dst==none&&(match cW aW t with|some ⟨_,_,.map eC _,_⟩=>uy aW bD eC|_=>false)&&c8 x kd&&c8 k iH&&c8 v l8
 | .range d key x,.range t kd=>o.dst==some d&&decide (d<N)&&(match cW aW t with|some ⟨_,_,.map _ _,_⟩=>true|_=>false)&&c8 x kd&&key !=some 861
 | .v d i,op=>o.dst==some d&&decide (d<N)&&zb aW i op
 | .box d key x,.box el o'=>o.dst==some d&&decide (d<N)&&c8 x o'&&(key !=some 861||el==FQ)
 | .alloc d key z,.alloc el=>o.dst==some d&&decide (d<N)&&(match cW aW el with|some f=>w4 z f.zero|none=>false)&&(key !=some 861||el==FQ)
 | .store sz x y,.store t o' gj=>o.dst==none&&(match cW aW t with|some f=>f.size==sz|none=>false)&&c8 x o'&&c8 y gj
 | .bsl d sz el xs,.buildSlice t len parts=>o.dst==some d&&decide (d<N)&&(match cW aW t with|some ⟨_,_,.slice dQ,_⟩=>el==dQ|_=>false)&&(match cW aW el with|some f=>f.size==sz&&decide (0<sz)|none=>false)
   &&len==xs.length&&decide (len*sz<=16777216)&&s6 0 xs parts.toList
 | .app d sz el x y,.call ⟨.builtin .append,⟨[o',gj]⟩,⟨[t,t']⟩⟩=>o.dst==some d&&decide (d<N)&&t==t'&&(match cW aW t with|some ⟨_,_,.slice dQ,_⟩=>el==dQ|_=>false)
   &&(match cW aW el with|some f=>f.size==sz&&decide (0<sz)&&decide (f.bytes<=2048)|none=>false)&&c8 x o'&&c8 y gj
 | .bslm d _ sz el xs,.buildSlice t len parts=>o.dst==some d&&decide (d<N)&&(match cW aW t with|some ⟨_,_,.slice dQ,_⟩=>el==dQ|_=>false)&&(match cW aW el with|some f=>f.size==sz&&decide (0<sz)|none=>false)
   &&len==xs.length&&decide (len*sz<=16777216)&&s6 0 xs parts.toList
 | .appm d _ sz el x y,.call ⟨.builtin .append,⟨[o',gj]⟩,⟨[t,t']⟩⟩=>o.dst==some d&&decide (d<N)&&t==t'&&(match cW aW t with|some ⟨_,_,.slice dQ,_⟩=>el==dQ|_=>false)
   &&(match cW aW el with|some f=>f.size==sz&&decide (0<sz)&&decide (f.bytes<=2048)|none=>false)&&c8 x o'&&c8 y gj
 | .storeE sz x y,.store t o' gj=>o.dst==none&&(match cW aW t with|some f=>f.size==sz|none=>false)&&c8 x o'&&c8 y gj
 | .apps d el x y,.call ⟨.builtin .append,⟨[o',gj]⟩,⟨[t,t']⟩⟩=>o.dst==some d&&decide (d<N)&&(match cW aW t with|some ⟨_,_,.slice dQ,_⟩=>el==dQ|_=>false)&&(match cW aW t' with|some ⟨_,_,.str,_⟩=>true|_=>false)
   &&(match cW aW el with|some f=>f.size==1&&decide (f.bytes<=2048)|none=>false)&&c8 x o'&&c8 y gj
 | .mks d _ sz el z x,.makeSlice t o' gj=>o.dst==some d&&decide (d<N)&&(match cW aW t with|some ⟨_,_,.slice dQ,_⟩=>el==dQ|_=>false)
   &&(match cW aW el with|some f=>f.size==sz&&decide (0<sz)&&decide (f.bytes<=2048)&&w4 z f.zero|none=>false)&&c8 x o'&&c8 x gj
 |_,_=>false
theorem LN{w:World}{ν:aD}{C:dh}{st:aN}{a:Act}(hr:bH C st a w ν){sz:Nat}:
  ∀(xs:List cg) (i:Nat) (os:List (Nat×gY)) (pre:List ab) (us:Array Value) (vs:List Value),s6 i xs os=true->n5 sz (xs.map (bh st.t))->us.toList.take (i*sz)=vs->b4 w ν sz pre vs->i=pre.length->us.size=(i+xs.length)*sz->
  ∃a6:Array Value,Instr.fill (fun i=>some (i*sz,sz)) us (os.map fun(x:Nat×gY)=>(x.1,a.eval x.2))=some a6/\b4 w ν sz (pre++xs.map (bh st.t)) a6.toList/\a6.size=us.size
 |[],i,[],pre,us,vs,_,_,aL,h,aB,ao=>by refine⟨us,by simp[Instr.fill],?_,rfl⟩;have aA:=nI h;have:us.toList.take (i*sz)=us.toList:=List.take_of_length_le (by simp at ao⊢;omega);rw[this]at aL;simpa[aL]using h
 |[],_,_::_,_,_,_,dM,_,_,_,_,_=>by simp[s6]at dM
 |_::_,_,[],_,_,_,dM,_,_,_,_,_=>by simp[s6]at dM
 |x::xs,i,(j,o)::os,pre,us,vs,dM,bL,aL,h,aB,ao=>by
  simp only[s6,bA,df]at dM;obtain⟨⟨rfl,I⟩,aa⟩:=dM;simp only[gZ,n5]at bL;obtain⟨⟨DN,hlen⟩,bL⟩:=bL;have ad:=da hr I;have kv:=rB ad DN;have sC:=mQ kv;have ch:(a.eval o).cells.size=sz:=by rw[hlen]at sC;simpa using sC
  have hmul:i*sz+sz<=us.size:=by rw[ao,lN,show i+(xs.length+1)=(i+1)+xs.length from by omega,Nat.add_mul,Nat.succ_mul];omega
  have k9:=CW (w:=w) (ν:=ν) (a.eval o).cells.toList 0 (i*sz) us (by simp[ch];omega);have po:b4 w ν sz (pre++[bh st.t x]) (vs++(a.eval o).cells.toList):=by refine wF h ?_;simp only[b4];exact⟨a.eval o,[],Ψ,⟨ad,ch,wI kv⟩,rfl⟩
  have q9:vs.length=i*sz:=by rw[<-aL];simp;omega
  obtain⟨a6,g1,g2,g3⟩:=LN hr xs (i+1) os (pre++[bh st.t x]) (((a.eval o).cells.toList.zipIdx 0).foldl (fun cs (x:Value×Nat)=>cs.setIfInBounds (i*sz+x.2) x.1) us) (vs++(a.eval o).cells.toList) aa bL
   (by
    rw[k9];simp only[Nat.add_zero];rw[aL];have:(vs++(a.eval o).cells.toList).length=(i+1)*sz:=by rw[jA,q9,Nat.succ_mul];simp[ch]
    rw[<-this,List.take_append_of_le_length (cE _),kQ]) po (by simp[aB])
   (by have bN:=dq List.length k9;simp only[Array.length_toList,jA,List.length_take,lp,ch]at bN;rw[bN,ao,lN,show i+(xs.length+1)=i+1+xs.length from by omega];rw[ao,lN,show i+(xs.length+1)=i+1+xs.length from by omega]at hmul;omega)
  refine⟨a6,?_,by simpa using g2,?_⟩
  ·simp only[gZ,Instr.fill];rw[be (by simp[ch];omega),<-g1];congr 1;rw[<-Array.foldl_toList];simp
  ·rw[g3];have bN:=dq List.length k9;simp only[Array.length_toList,jA,List.length_take,lp,ch]at bN;rw[bN];omega
theorem U7{P:bp}(w:World)(t b9 ty e:eU)(i:TypeInfo)(au:P.underlying t=some (.slice e))(hu:P.underlying b9=some .string)(aB:P.info? e=some i)(zY:i.size=1)
  (g uP Ft:Nat) (cur:Array Value) (aP:w.heap[g]? =some (.cells cur e (0,0))) (s:ib) (lC:uP+s.size<=Ft) (Rn:uP+s.size<=cur.size):
  (pO #[t,b9] ty #[.slice (some ⟨g,0,none⟩) uP Ft,.string s]).run P w=
   .ok (.slice (some ⟨g,0,none⟩) (uP+s.size) Ft) (w.setRow g (cur.toList.take uP++byteCells s++cur.toList.drop (uP+s.size)).toArray):=by
 have yb:=Src.ofString (P:=P) w hu s;have fe:=run_storeCells_at P g uP e (byteCells s) 0 cur w aP (by simpa[byteCells_length]using Rn) yb.one;simp only[Nat.add_zero,byteCells_length]at fe;simp[pO,run_underlying au,run_underlying hu,sizeOf,typeInfo,aB,zY,yb.len,lC,yb.cells,Addr.add_lit,fe]
theorem LK{P:bp}(w:World)(t b9 ty e:eU)(i:TypeInfo)(z:Value)(au:P.underlying t=some (.slice e))(hu:P.underlying b9=some .string)(aB:P.info? e=some i)(eB:i.zero=some z)(zY:i.size=1)(ny:z.cells.size=1)
  (v:Value) (n:Nat) (xs:List Value) (jo:w.ownsRow 0 e 1 v n xs) (s:ib) (cap:Nat) (base:aV Addr) (aL:v= .slice base n cap) (qa:cap<n+s.size) (vD:n+s.size<=maxLen) (k2:(n+s.size)*i.bytes<=140737488355328):
  ∃v' w',(pO #[t,b9] ty #[v,.string s]).run P w= .ok v' w'/\w'.ownsRow w.heap.size e 1 v' (n+s.size) (xs++byteCells s)/\w.grownBy w' none:=by
 subst aL;have yb:=Src.ofString (P:=P) w hu s;have l5:xs.length=n:=by simpa using jo.1
 have hold:(Builtin.firstCells i.size n (.slice base n cap)).run P w.drew= .ok xs.toArray w.drew:=by
  rw[zY];rcases jo.2 with⟨ah,rfl⟩|⟨g,xo,cur,ah,Yi,aP,x2,Ac,ch,yc⟩
  ·injection ah with ah aE bg;subst ah;have:xs=[]:=pS l5;subst this;exact run_firstCells_none w.drew 1 0 0 cap
  ·have se:=ah;injection ah with ah aE bg;subst ah;refine run_firstCells_some w.drew 1 n _ n cap xs Ω fun j u av=>?_;have:=jo.cells (g:=g) rfl j u av;simpa using this
 have hr:=run_append_grow_src (P:=P) w t b9 ty e i z au aB eB base n cap xs hold (.string s) s.size (byteCells s) (by rw[zY];exact yb) qa (by simp only[maxLen]at vD;omega) (growslice_fits Ω k2);have j7:=grownCap_ge w (n+s.size) cap e;have Ac:grownCap w (n+s.size) cap e<=maxLen:=grownCap_le_maxLen w (n+s.size) cap e vD;refine⟨_,_,hr,⟨by simp[byteCells_length,l5],.inr ⟨w.heap.size,_,_,rfl,cE _,heap_alloc_new w.drew _,j7,Ac,?_,?_⟩⟩,⟨rfl,rfl,rfl,Ψ,fun k J _=>heap_alloc_old w.drew _ J⟩⟩
 ·simp only[Array.size_append,List.size_toArray,size_zeroCells,ny,jA,byteCells_length,l5];omega
 ·simp only[Array.toList_append,List.toList_toArray];rw[List.take_left' (by simp[byteCells_length,l5])]
theorem Fc(w:World)(ν:aD):∀s:List aC,b4 w ν 1 (jF s) (s.map fun c=>lM .u8 c.toNat)
 |[]=>by simp[jF,b4]
 |c::s=>by have:=Fc w ν s;simp only[jF,gZ,b4]at this⊢;exact⟨.int .u8 c.toNat,_,rfl,⟨by simp[aw],rfl,by intro x ad;simp[mj]at ad;subst ad;rfl⟩,this⟩
theorem iM{P:bp}{o:Oper}{a:Act}{w w':World}{v:Value}{K:Act->World->Prop}{Q:Exit->Act->World->Prop}(h:(execOp a.eval o).run P w= .ok (.value v) w')(J:K (a.put o.dst v) w'):o.wp P a w K Q:=by unfold Oper.wp;rw[h];exact J
theorem ze{P:bp}{o:Oper}{a:Act}{w w':World}{K:Act->World->Prop}{Q:Exit->Act->World->Prop}(h:(execOp a.eval o).run P w= .ok .skip w')(J:K (a.put o.dst undef) w'):o.wp P a w K Q:=by unfold Oper.wp;rw[h];exact J
theorem zc{P:bp}{w w':World}{x:Sem Value}{v:Value}(h:x.run P w= .ok v w'):(do pure (Next.value (<-x)):Sem Next).run P w= .ok (.value v) w':=by simp[h]
theorem LL{P:bp}{aW:List (Nat×cm)}(au:dJ P aW=true){C:dh}{st:aN}{a:Act}{w:World}{ν:aD}(hr:bH C st a w ν){t el:Nat}{f g:cm}(aH:cW aW t=some f)(J:f.kind= .slice el)(aP:cW aW el=some g)
  {xs:List cg} {os:List (Nat×gY)} (dM:s6 0 xs os=true) (cO:n5 g.size (xs.map (bh st.t))) (hlen:xs.length*g.size<=16777216):
  ∃us:Array Value,(Instr.buildSlice t xs.length (os.map fun(x:Nat×gY)=>(x.1,a.eval x.2)).toArray).run P w= .ok (.slice (some ⟨w.heap.size,0,none⟩) xs.length xs.length) (w.alloc (.cells us el))/\
   b4 w ν g.size (xs.map (bh st.t)) us.toList/\us.size=xs.length*g.size:=by
 obtain⟨d,aF,ej⟩:=gn au aH;rw[J]at ej;obtain rfl:=oc ej;obtain⟨_,ao⟩:=rK au aP w;obtain⟨z,St,Yz,YA⟩:=FL au aP w;have aR:¬xs.length*g.size>2 ^ 24:=Ω
 let init:Array Value:=if xs.length*g.size=0 then(Array.range (xs.length*g.size)).map ((#[]:Array Value)[· %(#[]:Array Value).size]!)else(Array.range (xs.length*g.size)).map (z.cells[· %z.cells.size]!)
 have Ji:init.size=xs.length*g.size:=by simp only[init];split<;>simp
 obtain⟨a6,g1,g2,g3⟩:=LN (a:=a) hr xs 0 os [] init [] dM cO Ψ (by simp[b4]) rfl (by rw[Ji];simp);refine⟨a6,?_,by simpa using g2,by rw[g3,Ji]⟩;simp only[init]at g1;by_cases bN:xs.length*g.size=0
 ·rw[if_pos bN]at g1;rw[bN]at g1;have QS:¬(0:Nat)>2 ^ 24:=by decide
  simp only[Instr.buildSlice,ee,run_underlying aF,eg,ao,if_false,eT,bN,if_true,QS,g1,newRow,run_newObj];rfl
 ·rw[be bN]at g1;simp only[Instr.buildSlice,ee,run_underlying aF,eg,ao,aR,if_false,eT,bN,St,g1,newRow,run_newObj];rfl
theorem yu{P:bp}{w:World}{ν:aD}{bD:ig}{t:eU}(aF:qH P bD t){k v:ab}{fO F6:Value}(J:aw w ν k fO)(aL:aw w ν v F6):
  ∀(borns:List Nat) (kvs:List ab) (us:List Value) (i:Nat) (r:aV (List ab)),bP w ν kvs us->kvs.length=2*borns.length->rq bD k v kvs=some r->
  match r with
  |none=>gL P w bD t fO (eK borns us) i none
  |some sV=> ∃j u a6 e,gL P w bD t fO (eK borns us) i (some (i+j,u))/\bP w ν sV a6/\sV.length=kvs.length/\(eK borns us)[j]? =some e/\e.key=fO/\Instr.sameBits 10000 e.key fO=true/\eK borns a6=(eK borns us).modify j (fun e=>{e with key:=fO,val:=F6})
 |[],[],us,i,r,h,_,hm=>by simp only[rq]at hm;cases hm;simp only[bP]at h;subst h;simpa[eK]using gL.nil P w bD t fO i
 |[],_::_,_,_,_,_,aA,_=>by simp at aA
 |b::dx,[],_,_,_,_,aA,_=>by simp at aA
 |b::dx,[_],_,_,_,_,aA,_=>by simp at aA;omega
 |b::dx,aX::v'::kvs,us,i,r,h,aA,hm=>by
  simp only[bP]at h;obtain⟨ix,FW,rfl,I,h7,oK,rfl,aa,ak⟩:=h;simp only[rq]at hm;simp only[eK];cases bj:rj bD k aX with
  |none=>simp[bj]at hm
  |some hb=>
   obtain⟨s1,s2⟩:=Kd aF J I bj;simp only[bj]at hm;cases hb with
   |true=>simp only[dv]at hm;subst hm;obtain⟨rfl,Fs⟩:=s2 rfl;refine⟨0,h7,ix::F6::oK,⟨ix,h7,b⟩,gL.hit (e:=⟨ix,h7,b⟩) s1,?_,Ψ,Ψ,rfl,Fs,by simp[eK]⟩;simp only[bP];exact⟨_,_,rfl,J,_,_,rfl,aL,ak⟩
   |false=>
    simp only at hm;have a8:=fun cv bG=>yu aF J aL dx kvs oK (i+1) cv ak (by simp at aA;omega) bG;split at hm
    ·rename_i cv bG;cases hm;obtain⟨j,u,a6,e,g1,g2,g3,g4,g5,g6,g7⟩:=a8 _ bG;refine⟨j+1,u,ix::h7::a6,e,gL.miss (e:=⟨ix,h7,b⟩) s1 (by rw[show i+(j+1)=i+1+j from by omega];exact g1),?_,by simp[g3],by simpa using g4,g5,g6,by simp[eK,g7]⟩;simp only[bP];exact⟨_,_,rfl,I,_,_,rfl,aa,g2⟩
    ·rename_i bG;cases hm;exact gL.miss (e:=⟨ix,h7,b⟩) s1 (a8 _ bG)
    ·cases hm
theorem CJ:∀(borns:List Nat) (us:List Value) (b:Nat) (k v:Value),us.length=2*borns.length->eK (borns++[b]) (us++[k,v])=eK borns us++[⟨k,v,b⟩]
 |[],us,b,k,v,h=>by have:us=[]:=pS (by simpa using h);subst this;simp[eK]
 |fh::dx,[],b,k,v,h=>by simp at h
 |fh::dx,[_],b,k,v,h=>by simp at h;omega
 |fh::dx,aX::v'::us,b,k,v,h=>by simp only[eI,eK,CJ dx us b k v (by simp at h;omega)]
theorem Fh{w:World}{ν:aD}:∀{aZ bO:List ab} {vs us:List Value},bP w ν aZ vs->bP w ν bO us->bP w ν (aZ++bO) (vs++us)
 |[],bO,vs,us,h,b6=>by simp only[bP]at h;subst h;simpa using b6
 |p::aZ,bO,vs,us,h,b6=>by simp only[bP]at h;obtain⟨u,a6,rfl,I,aa⟩:=h;simp only[eI,bP];exact⟨u,_,rfl,I,Fh aa b6⟩
theorem BE{w:World}{ν:aD}:∀{aZ:List ab} {vs:List Value},bP w ν aZ vs->vs.length=aZ.length
 |[],vs,h=>by simp only[bP]at h;subst h;rfl
 |p::aZ,vs,h=>by simp only[bP]at h;obtain⟨u,a6,rfl,_,aa⟩:=h;simp[BE aa]
theorem yZ{P:bp}{w:World}{r:Nat}{o o':Obj}(af:w.heap[r]? =some o)(aR:∀c e f,o≠ .cells c e f:=by simp):(setObj r o').run P w= .ok () {w with heap:=w.heap.setIfInBounds r o'}:=by simp only[setObj,Sem.run,af]
def cX.makes(st:aN):cX->Bool
 | .box _ _ _| .alloc _ _ _| .bsl _ _ _ _| .bslm _ _ _ _ _| .mkmap _ _| .range _ _ _| .mks _ _ _ _ _ _=>true
 | .appm _ _ _ _ x _=>match bh st.t x with
  | .slice _ .nil _=>true
  |_=>false
 | .app _ _ _ x _=>match bh st.t x with
  | .slice _ .nil _=>true
  |_=>false
 |_=>false
theorem bH.forgetRow{C:dh}{st:aN}{a:Act}{w:World}{ν:aD}(hr:bH C st a w ν){k:aq}{ow:cq}(J:look k st.e=some ow):bH C {st with e:=ck k ⟨ow.n,ow.el,ow.sz,none⟩ st.e} a w ν:=by
 have fV:∀g,(look g (ck k ⟨ow.n,ow.el,ow.sz,none⟩ st.e)).isSome->(look g st.e).isSome:=fun g aP=>by
  rw[hJ]at aP;split at aP
  ·rename_i e;subst e;simp[J]
  ·exact aP
 refine⟨⟨hr.good.alt,hr.good.box,hr.good.inj,fun g o aP=>?_,fun g dH n n' v v' bl bt a2=>hr.good.oinj g dH n n' v v' bl (fV g bt) (fV dH a2),fun g j n v bl bt=>hr.good.obx g j n v bl (fV g bt),hr.good.one,fun bl af=>hr.good.otr bl (af.imp id (fun⟨g,n,v,bt,a2⟩=>⟨g,n,v,fV g bt,a2⟩))⟩,hr.fr,hr.defers,hr.size,hr.slot,hr.new,hr.ext,hr.obk⟩;simp only at aP;rw[hJ]at aP;split at aP
 ·rename_i e;subst e;cases aP;obtain⟨v,us,bJ,cj,de,_⟩:=hr.good.own k ow J;exact⟨v,us,bJ,cj,de,fun xs ad=>by cases ad⟩
 ·exact hr.good.own g o aP
theorem Bi{w:World}{base el sz n:Nat}{v:Value}{us:List Value}(h:w.ownsRow base el sz v n us)(aR:0<n):∃b cap,v= .slice (some ⟨b,0,none⟩) n cap:=by
 rcases h.2 with⟨ah,aE⟩|⟨hb,cap,cur,f1,_⟩
 ·omega
 ·exact⟨_,_,f1⟩
theorem Lw{w:World}{ν:aD}{sz:Nat}:∀{xs:List ab} {us:List Value} {i:Nat} {q hh:ab} {dw:Value},b4 w ν sz xs us->xs[i]? =some q->aw w ν hh dw->dw.cells.size=sz->(∀c∈dw.cells.toList,c.oneCell'=true)->b4 w ν sz (xs.set i hh) (us.take (i*sz)++dw.cells.toList++us.drop (i*sz+sz))
 |[],_,_,_,_,_,_,bj,_,_,_=>by simp at bj
 |x::xs,us,0,q,hh,dw,h,bj,hr,ao,ag=>by
  simp only[b4]at h;obtain⟨u,a6,rfl,⟨I,aa,ak⟩,bb⟩:=h;have aA:u.cells.toList.length=sz:=by simpa using aa
  simp only[List.set_cons_zero,b4];refine⟨dw,a6,?_,⟨hr,ao,ag⟩,bb⟩;simp[<-aA]
 |x::xs,us,i+1,q,hh,dw,h,bj,hr,ao,ag=>by
  simp only[b4]at h;obtain⟨u,a6,rfl,⟨I,aa,ak⟩,bb⟩:=h;have aA:u.cells.toList.length=sz:=by simpa using aa
  have a8:=Lw bb (by simpa using bj) hr ao ag;simp only[List.set_cons_succ,b4];refine⟨u,_,?_,⟨I,aa,ak⟩,a8⟩;have e:(i+1)*sz+sz=u.cells.toList.length+(i*sz+sz):=by rw[aA,Nat.succ_mul];omega
  rw[Md _ _ _ _ aA,e,<-List.drop_drop];simp
theorem U6{w:World}{ν:aD}{q:ab}{v:Value}(bj:aw w ν q v)(ao:dP q=true){cs:List ab}{us:List Value}(az:bV w ν cs us){f:Nat}(aH:f+us.length<=v.cells.size)(b7:us≠[]):
  ∃v',aw w ν (oC q f cs) v'/\v'.cells.toList=v.cells.toList.take f++us++v.cells.toList.drop (f+us.length)/\v'.cells.size=v.cells.size/\∀c∈v'.cells.toList,c.oneCell'=true:=by
 have hlen:=mQ az;have jJ:=rB bj ao;by_cases bL:∃cn,q= .agg cn
 ·obtain⟨cn,rfl⟩:=bL;simp only[aw]at bj;obtain⟨vs,rfl,fl⟩:=bj;simp only[mj]at aH⊢;have iE:bV w ν (me cn f cs) (vs.toList.take f++us++vs.toList.drop (f+us.length)):=by unfold me;rw[hlen];exact uL (uL (yQ f fl) az) (wH _ fl)
  refine⟨.agg (vs.toList.take f++us++vs.toList.drop (f+us.length)).toArray,by simp only[oC,aw];exact⟨_,rfl,by simpa using iE⟩,by simp[mj],?_,fun c jj=>?_⟩
  ·simp[mj];omega
  ·exact wI iE c (by simpa[mj]using jj)
 ·have vG:∀cs,q≠ .agg cs:=fun cs e=>bL ⟨cs,e⟩;obtain⟨I,aa⟩:=Fj bj ao vG;rw[aa]at aH⊢;match us,b7,az with
  |u::a6,_,az=>
   simp at aH;obtain⟨rfl,rfl⟩:f=0/\a6=[]:=⟨Ω,List.length_eq_zero_iff.1 Ω⟩;match cs,az,hlen with
   |[c],az,_=>
    simp only[bV]at az;obtain⟨nM,dX,ah,⟨Q9,Jb⟩,_⟩:=az;cases ah;have hu:u.cells= #[u]:=by cases u<;>first|rfl|cases Jb
    have DK:oC q 0 [c]=c:=by cases q<;>first|rfl|exact absurd rfl (vG _)
    rw[DK];refine⟨u,Q9,by simp[hu],by simp[hu],fun c jj=>?_⟩;rw[hu]at jj;simp at jj;subst jj;exact Jb
theorem Vs{α:Type}(A us:List α)(a f sz N:Nat)(I:f+us.length<=sz)(aa:a+sz<=N)(ak:N<=A.length):
  ((A.take (a+f)++us++A.drop (a+f+us.length)).toArray.toList).take N=(A.take N).take a++((((A.take N).drop a).take sz).take f++us++(((A.take N).drop a).take sz).drop (f+us.length))++(A.take N).drop (a+sz):=by
 have ah:(A.take N).take a++(((A.take N).drop a).take sz).take f=A.take (a+f):=by rw[List.take_take (i:=f),Nat.min_eq_left (show f<=sz by omega),<-List.take_add,List.take_take,Nat.min_eq_left Ω]
 have aE:(((A.take N).drop a).take sz).drop (f+us.length)++(A.take N).drop (a+sz)=(A.take N).drop (a+f+us.length):=by
  have aA:f+us.length<=(((A.take N).drop a).take sz).length:=by simp;omega
  have sd:(A.take N).drop (a+sz)=((A.take N).drop a).drop sz:=by rw[List.drop_drop]
  rw[sd,<-List.drop_append_of_le_length aA,List.take_append_drop,List.drop_drop];congr 1;omega
 have bg:(A.take N).drop (a+f+us.length)=(A.drop (a+f+us.length)).take (N-(a+f+us.length)):=by rw[List.drop_take]
 have aA:(A.take (a+f)++us).length=a+f+us.length:=by simp;omega
 simp only[List.append_assoc]at*;rw[aE,bg,<-List.append_assoc (List.take a _),ah];have j5:N=(A.take (a+f)++us).length+(N-(a+f+us.length)):=by rw[aA];omega
 rw[<-List.append_assoc,<-List.append_assoc];conv=>lhs;rw[j5,List.take_length_add_append]
theorem bH.storeRow{P:bp}{C:dh}{st:aN}{a:Act}{w:World}{ν:aD}(h:bH C st a w ν){k:aq}{n el sz:Nat}{xs:List ab}(J:look k st.e=some ⟨n,el,sz,some xs⟩){i f:Nat}{u:Value}(ad:aw w ν (.rptr sz k n i f) u){q:ab}(bj:xs[i]? =some q)(ao:dP q=true)
  {cs:List ab} {us:List Value} (az:bV w ν cs us) (aH:f+us.length<=(cells q).length) (b7:us≠[]):
  ∃bl off kp,u= .pointer (some ⟨bl,off,none⟩)/\(storeCells ⟨bl,off,none⟩ us).run P w= .ok () (w.setRow bl kp)/\∃ν',bH C {st with e:=ck k ⟨n,el,sz,some (xs.set i (oC q f cs))⟩ st.e} a (w.setRow bl kp) ν':=by
 simp only[aw]at ad;obtain⟨_,aB,n',dw,I,aa,ak⟩:=ad;obtain⟨v,dX,bJ,cj,de,du⟩:=h.good.own k _ J;rw[I]at bJ;simp only[dv,hx]at bJ;obtain⟨rfl,rfl⟩:=bJ;obtain⟨bl,af,rfl⟩:=ak rfl;obtain⟨cy,kK,qq⟩:=du xs rfl;simp only at cy kK;obtain⟨v,eH,fB,kL⟩:=BA i kK bj;have sC:=mQ (rB eH ao);have R7:(cells q).length=sz:=by rw[<-sC];simpa using fB
 have Ag:f+us.length<=sz:=by rw[<-R7];exact aH
 have hmul:i*sz+sz<=n'*sz:=by have:=Nat.mul_le_mul_right sz (show i+1<=n' from aB);rwa[Nat.succ_mul]at this
 rcases cj.2 with⟨ah,aE⟩|⟨g,cap,cur,rfl,C9,Ds,x2,Ac,ch,yc⟩
 ·rw[ah]at af;simp[ln]at af
 simp only[ln,dv]at af;subst af;simp only at yc ch x2 Ds;have qa:n'*sz<=cur.size:=by rw[ch];exact Nat.mul_le_mul_right sz x2
 have fe:=run_storeCells_at P g (i*sz+f) el us 0 cur w Ds Ω (wI az);simp only[Nat.add_zero]at fe;refine⟨g,i*sz+f,_,rfl,fe,?_⟩;generalize q1:(cur.toList.take (i*sz+f)++us++cur.toList.drop (i*sz+f+us.length)).toArray=kp;obtain⟨v',gy,gz,mP,Un⟩:=U6 eH ao az (f:=f) (by rw[fB];exact Ag) b7;have hZ:=Lw kK bj gy (by rw[mP,fB]) Un;have hlen:dX.length=n'*sz:=cj.1;have RY:kp.toList.take (n'*sz)=dX.take (i*sz)++v'.cells.toList++dX.drop (i*sz+sz):=by rw[<-q1,gz,kL,<-yc];exact Vs cur.toList us (i*sz) f sz (n'*sz) Ag hmul (by simpa using qa)
 have Q8:kp.size=cap*sz:=by rw[<-q1,<-ch];simp;omega
 have Yv:(xs.set i (oC q f cs)).length=n':=by simp[cy]
 obtain⟨Uo,_,_⟩:=h.setRowM (w':=w.setRow g kp) J rfl I (bl:=g) rfl (v':= .slice (some ⟨g,0,none⟩) n' cap) rfl (xs':=xs.set i (oC q f cs)) (us:=dX.take (i*sz)++v'.cells.toList++dX.drop (i*sz+sz)) (.inl ⟨by simp[cy],rfl⟩) rfl rfl rfl (fun j av=>setRow_other w g j kp av) (setRow_size w g kp)
  ⟨by rw[nI hZ],.inr ⟨g,cap,kp,by simp[cy],Nat.zero_le _,setRow_heap w g cur kp el _ Ds,by simpa[cy]using x2,Ac,Q8,by simpa[cy]using RY⟩⟩ hZ
 exact⟨_,by simpa[cy]using Uo⟩
theorem Td(z:Array Value)(n:Nat)(h:0<z.size):(madeCells z ((n+1)*z.size)).toList=z.toList++(madeCells z (n*z.size)).toList:=by
 apply List.ext_getElem?;intro j;rw[List.getElem?_append];have he:(n+1)*z.size=n*z.size+z.size:=by rw[Nat.add_mul,Nat.one_mul]
 simp only[madeCells,Array.getElem?_toList,Array.length_toList,Array.getElem?_map];by_cases av:j<z.size
 ·rw[if_pos av,Array.getElem?_range,if_pos Ω];simp[Nat.mod_eq_of_lt av,av]
 ·rw[be av,Array.getElem?_range,Array.getElem?_range];by_cases J:j<n*z.size+z.size
  ·rw[if_pos Ω,if_pos Ω];simp only[mZ];rw[<-Nat.mod_eq_sub_mod Ω]
  ·rw[be Ω,be Ω]
theorem Ku{w:World}{ν:aD}{p:ab}{z:Value}(hr:aw w ν p z)(h:0<z.cells.size)(ag:∀c∈z.cells.toList,c.oneCell'=true):∀n,b4 w ν z.cells.size (List.replicate n p) (madeCells z.cells (n*z.cells.size)).toList
 |0=>by simp[b4,madeCells]
 |n+1=>by rw[Td _ _ h];simp only[List.replicate_succ,b4];exact⟨z,_,rfl,⟨hr,rfl,ag⟩,Ku hr h ag n⟩
theorem GD{P:bp}{aW:List (Nat×cm)}(au:dJ P aW=true){C:dh}{st st':aN}{a:Act}{w:World}{ν:aD}(hr:bH C st a w ν){d el:Nat}{x y:cg}{o:Oper}(ag:oD C.N aW (.apps d el x y) o=true)
  {c:Prop} (he:xf st d el (bh st.t x) (bh st.t y)=some (c,st')) (az:c) {K:Act->World->Prop} {Q:Exit->Act->World->Prop} (cl:∀bE w' ν',bH C st' bE w' ν'->K bE w'):o.wp P a w K Q:=by
 obtain⟨dst,op,type,pos,after,guard⟩:=o;generalize aB:cX.apps d el x y=i at ag;unfold oD at ag;dsimp only at ag;split at ag<;>first|(cases aB;done)|(cases ag;done)|skip
 rename_i o' gj t t';cases aB;simp only[bA,df,fH]at ag;obtain⟨⟨⟨⟨⟨⟨I,aa⟩,aK⟩,ao⟩,bb⟩,ct⟩,dZ⟩:=ag;subst I;split at aK
 ·rename_i dQ aH;simp only[df]at aK;subst aK;split at ao
  ·rename_i Ag;split at bb
   ·rename_i g aP;simp only[bA,df,fH]at bb;obtain⟨kA,qY⟩:=bb;have rx:=da hr ct;have hV:=da hr dZ;have il:∀v' w',(pO #[t,t'] type #[a.eval o',a.eval gj]).run P w= .ok v' w'->(execOp a.eval ⟨some d,.call ⟨.builtin .append,⟨[o',gj]⟩,⟨[t,t']⟩⟩,type,pos,after,guard⟩).run P w= .ok (.value v') w':=by intro v' w' fy;simp only[execOp,resolve,invoke,builtin,ee,eT,eg,List.map_toArray,gZ,List.map_nil];rw[fy];rfl
    obtain⟨dA,ik,z,ah,aE,bg,cB,hc,e0,oe,lZ⟩:=(qC au aP).ex;obtain⟨cn,fJ,ej⟩:=gn au aH;obtain rfl:=oc ej;obtain⟨cb,qb,Rk⟩:=gn au Ag;obtain rfl:=r9 Rk;have ny:z.cells.size=1:=by rw[lZ,kA]
    have sG:dA.size=1:=by rw[bg,kA]
    unfold xf at he;split at he
    ·rename_i sz k n s ad bk;split at he
     ·rename_i n' dQ cD xs J;split at he
      ·rename_i iC;obtain⟨rfl,rfl,rfl,rfl⟩:=iC;cases he;rw[ad]at rx;rw[bk]at hV;simp only[aw]at rx hV;obtain⟨⟨bx,oa,nO⟩,rxl,n0,nM,eH,fB,kL⟩:=rx;obtain⟨oL,sQ⟩:=hV;obtain⟨v0,dX,bJ,cj,de,du⟩:=hr.good.own k _ J;rw[eH]at bJ;simp only[dv,hx]at bJ cj;obtain⟨rfl,rfl⟩:=bJ;have kD:a.eval o'=nM:=kL rfl;obtain⟨cy,kK,qq⟩:=du xs rfl;simp only at cy kK;have eb:(⟨s.toArray⟩:ib).size=s.length:=by simp[Gj]
       have xO:byteCells ⟨s.toArray⟩=s.map fun c=>lM .u8 c.toNat:=by simp[byteCells]
       have qg:dX.length=xs.length:=by rw[cy];simpa using cj.1
       have q0:b4 w ν 1 (xs++jF s) (dX++byteCells ⟨s.toArray⟩):=by rw[xO];exact wF kK (Fc w ν s)
       have eE:(jF s).length=s.length:=by simp[jF]
       have k2:(xs.length+s.length)*dA.bytes<=140737488355328:=by
        have qW:dA.bytes<=2048:=by rw[cB];exact qY
        have ua:(xs.length+s.length)*dA.bytes<=(xs.length+s.length)*2048:=Nat.mul_le_mul_left _ qW;simp only[bX]at az;omega
       have hH:xs.length+s.length<=maxLen:=by simp only[bX]at az;simp only[maxLen];omega
       rw[oL,kD]at il;have ud:∀(base:aV Addr) (cap:Nat),nM= .slice base xs.length cap->n0<=cap->cap<xs.length+s.length->(⟨some d,.call ⟨.builtin .append,⟨[o',gj]⟩,⟨[t,t']⟩⟩,type,pos,after,guard⟩:Oper).wp P a w K Q:=by
        intro base cap hu x2 qa;obtain⟨v',w',f1,f2,f3⟩:=LK (P:=P) w t t' type dQ dA z fJ qb ah e0 sG ny nM xs.length dX (by rw[cy];exact cj) ⟨s.toArray⟩ cap base hu (by rw[eb];exact qa) (by rw[eb];exact hH) (by rw[eb];exact k2);rw[eb]at f2;obtain⟨gy,gz⟩:=hr.newRowM (k:=k) (xs:=xs++jF s) (el:=dQ) (sz:=1) (.inr ⟨_,J,by simp[eE];omega⟩) f3 (by rw[jA,eE];exact f2) q0 (by rw[jA,eE];exact az) (n':=st.n) (o':=st.o)
         (fun j av=>⟨av,fun e=>by subst e;have:=(hr.new _ av).2.1;rw[eH]at this;cases this⟩)
        refine iM (il _ _ f1) (cl _ _ (ν.withOwn k (xs++jF s).length v') ?_);have:=gy.put (d:=some d) (by simpa[ga]using aa) (gz (by rw[jA,eE];exact Bi f2 Ω));simpa[eD,eE]using this
       rcases cj.2 with⟨h6,ru⟩|⟨bl,cap,cur,h6,ru,rv,yG,yH,Bn,wy⟩
       ·rw[<-kD,nO]at h6;cases h6
       ·have h0:nM.ownBlock=some bl:=by rw[h6];rfl
        by_cases lC:xs.length+s.length<=cap
        ·have f1:=U7 (P:=P) w t t' type dQ dA fJ qb ah sG bl xs.length cap cur rv ⟨s.toArray⟩ (by rw[eb];exact lC) (by rw[eb];omega);rw[eb]at f1;generalize yi:(cur.toList.take xs.length++byteCells ⟨s.toArray⟩++cur.toList.drop (xs.length+s.length)).toArray=jx at f1;have iE:(w.setRow bl jx).heap[bl]? =some (.cells jx dQ (0,0)):=setRow_heap w bl cur jx dQ _ rv;have sJ:(byteCells ⟨s.toArray⟩).length=s.length:=by rw[byteCells_length,eb]
         have aA:(dX++byteCells ⟨s.toArray⟩).length=(xs++jF s).length*1:=by rw[jA,qg,sJ,jA,eE,Nat.mul_one]
         have bb:cur.toList.take xs.length=dX:=by rw[cy];simpa using wy
         have gg:jx.size=cap*1:=by rw[<-yi];simp only[List.size_toArray,jA,List.length_take,lp,Array.length_toList,sJ];omega
         have ot:jx.toList.take ((xs++jF s).length*1)=dX++byteCells ⟨s.toArray⟩:=by rw[<-yi,bb,<-aA];exact List.take_left
         obtain⟨gy,_,gz⟩:=hr.setRowM (w':=w.setRow bl jx) J rfl eH h0 (v':= .slice (some ⟨bl,0,none⟩) (xs.length+s.length) cap) rfl (xs':=xs++jF s) (us:=dX++byteCells ⟨s.toArray⟩)
          (by
           by_cases bN:s=[]
           ·subst bN;exact .inl ⟨by simp[jF,cy],by rw[h6];simp[cy]⟩
           ·exact .inr (by have:=nT.2 bN;simp[eE];omega)) rfl rfl rfl (fun j av=>setRow_other w bl j jx av) (setRow_size w bl jx)
          ⟨aA,.inr ⟨bl,cap,jx,by simp[eE],Nat.zero_le _,iE,by simpa[eE]using lC,yH,gg,ot⟩⟩ q0
         replace gz:=gz (by simpa[eE]using az);refine iM (v:= .slice (some ⟨bl,0,none⟩) (xs.length+s.length) cap) (w':=w.setRow bl jx) (il _ _ ?_) (cl _ _ (ν.withOwn k (xs++jF s).length (.slice (some ⟨bl,0,none⟩) (xs.length+s.length) cap)) ?_)
         ·rw[h6,<-cy];exact f1
         ·have:=gy.put (d:=some d) (by simpa[ga]using aa) gz;simpa[eD,eE]using this
        ·exact ud _ cap (by rw[h6,<-cy]) yG Ω
      ·cases he
     ·cases he
    ·rename_i sz xs s ad bk;split at he
     ·rename_i cO;obtain rfl:=cO;cases he;obtain⟨p9,pa,om⟩:=az;rw[ad]at rx;rw[bk]at hV;simp only[aw]at rx hV;have kD:=rx.2.1 trivial;obtain⟨oL,sQ⟩:=hV;have eb:(⟨s.toArray⟩:ib).size=s.length:=by simp[Gj]
      have xO:byteCells ⟨s.toArray⟩=s.map fun c=>lM .u8 c.toNat:=by simp[byteCells]
      have q0:b4 w ν 1 (jF s) (byteCells ⟨s.toArray⟩):=by rw[xO];exact Fc w ν s
      have eE:(jF s).length=s.length:=by simp[jF]
      have fN:0<s.length:=nT.2 pa;have k2:(0+s.length)*dA.bytes<=140737488355328:=by
       have qW:dA.bytes<=2048:=by rw[cB];exact qY
       have ua:(0+s.length)*dA.bytes<=(0+s.length)*2048:=Nat.mul_le_mul_left _ qW;simp only[bX]at om;omega
      have hH:0+s.length<=maxLen:=by simp only[bX]at om;simp only[maxLen];omega
      rw[oL,kD]at il;obtain⟨v',w',f1,f2,f3⟩:=LK (P:=P) w t t' type el dA z fJ qb ah e0 sG ny (.slice none 0 0) 0 [] ⟨rfl,.inl ⟨rfl,rfl⟩⟩ ⟨s.toArray⟩ 0 none rfl (by rw[eb];omega) (by rw[eb];exact hH) (by rw[eb];exact k2);rw[eb,Nat.zero_add,fx]at f2;have kz:fresh st.n st.o (.obj 862):=⟨trivial,p9⟩;obtain⟨gy,gz⟩:=hr.newRowM (k:= .obj 862) (xs:=jF s) (el:=el) (sz:=1) (.inl (hr.new _ kz)) f3 (by rw[eE];exact f2) q0 (by rw[eE];exact om) (n':=st.n) (o':= .obj 862::st.o)
       (fun j av=>⟨⟨av.1,fun h=>av.2 (List.mem_cons_of_mem _ h)⟩,fun e=>by subst e;exact av.2 Ψ⟩)
      refine iM (il _ _ f1) (cl _ _ (ν.withOwn (.obj 862) (jF s).length v') ?_);have:=gy.put (d:=some d) (by simpa[ga]using aa) (gz (by rw[eE];exact Bi f2 fN));simpa[eD,eE]using this
     ·cases he
    ·cases he
   ·cases bb
  ·cases ao
 ·cases aK
theorem hq{P:bp}{aW:List (Nat×cm)}(au:dJ P aW=true){C:dh}{st st':aN}{a:Act}{w:World}{ν:aD}(hr:bH C st a w ν){i:cX}{o:Oper}(ag:oD C.N aW i o=true)
  {κ:aq} {n':Nat} {o₁:List aq} (q4:i.makes st=true->fresh st.n st.o κ) (gd:i.makes st=true->∀j,fresh n' o₁ j->fresh st.n st.o j/\j≠κ) {c:Prop} (he:dn κ n' o₁ st i=some (c,st')) (az:c) {K:Act->World->Prop} {Q:Exit->Act->World->Prop} (cl:∀bE w' ν',bH C st' bE w' ν'->K bE w') (hB:i.bok κ:=by first|trivial|(intro h;cases h)):o.wp P a w K Q:=by
 obtain⟨dst,op,type,pos,after,guard⟩:=o;unfold oD at ag;dsimp only at ag;split at ag
 ·rename_i d key t;simp only[bA,df,fH]at ag;obtain⟨⟨rfl,aa⟩,_⟩:=ag;simp only[dn]at he;cases he;obtain⟨g1,g2⟩:=hr.newBox (hr.new _ (q4 rfl)) (gd rfl) (cs:=[.hdm 0 []]) (us:= #[]) ⟨0,fun e=>absurd e hB⟩ (by simp only[gJ];exact⟨by simp[bP],⟨rfl,Ψ,Ψ⟩⟩);refine iM (v:= .map (some w.heap.size)) (w':=w.alloc (.map #[] 0)) ?_ (cl _ _ _ (g1.put (d:=some d) (by simpa[ga]using aa) (p:= .gmap κ) ?_))
  ·simp only[execOp,Instr.makeMap,Option.map_none,ee,run_newObj,eg,eT];rfl
  ·simp[aw,aD.withBox]
 ·rename_i bD x k v t kd iH l8;simp only[bA,df]at ag;obtain⟨⟨⟨⟨rfl,I⟩,aa⟩,ak⟩,aK⟩:=ag;have rx:=da hr aa;have rD:=da hr ak;have nJ:=da hr aK;split at I
  ·rename_i sz jh eC mw z aH;obtain⟨fa,hu,ej⟩:=gn au aH;have fD:fa= .map eC mw:=by cases fa<;>simp[jH]at ej;obtain⟨rfl,rfl⟩:=ej;rfl
   subst fD;have j6:=Ed au I;simp only[dn]at he;split at he
   ·rename_i m ad;rw[ad]at rx;simp only[aw]at rx;obtain⟨bl,bS,bY⟩:=rx;split at he
    ·rename_i cs ch;split at he
     ·rename_i cs' hm;cases he;obtain⟨fC,us,el,bJ,cj,de,du,cy⟩:=hr.good.box m cs ch;rw[bS]at bJ;cases bJ;unfold oy at hm;split at hm
      ·rename_i clock borns kvs;split at hm
       ·cases hm
       rename_i fK;simp only[hp]at du;simp only[gJ]at cy;have k3:=rG (P:=P) du;have sB:=Fp (P:=P) (w:=w) j6 false rD (by simpa using fK);have bU:bl<w.heap.size:=(Array.getElem?_eq_some_iff.1 du).1;have jK:∀(o':Obj) (a6:Array Value) (cn:List ab),(Instr.mapUpdate t (a.eval kd) (a.eval iH) (a.eval l8)).run P w= .ok () {w with heap:=w.heap.setIfInBounds bl o'}->hp cn a6 el.1=o'->gJ w ν cn a6.toList->some cn=some cs'->
         (⟨none,.mapUpdate t kd iH l8,type,pos,after,guard⟩:Oper).wp P a w K Q:=by
        intro o' a6 cn fy vM hZ fJ;cases fJ;refine ze (w':={w with heap:=w.heap.setIfInBounds bl o'}) ?_ (cl _ _ _ (hr.setBox (w':={w with heap:=w.heap.setIfInBounds bl o'}) ch bS (us:=a6) (el:=el) rfl rfl rfl (fun j av=>?_) Ψ ?_ hZ).1)
        ·simp only[execOp,fy,ee,eg,eT]
        ·exact Array.getElem?_setIfInBounds_ne (Ne.symm av)
        ·rw[vM];simp[bU]
       split at hm
       ·rename_i sV uj;obtain⟨j,u,a6,e,f1,f2,f3,f4,f5,f6,f7⟩:=yu j6 rD nJ borns kvs us.toList 0 _ cy.1 cy.2.len uj;refine jK (.map (eK borns a6).toArray clock) a6.toArray (.hdm clock borns::sV) ?_ (by simp[hp]) (by simp only[gJ];exact⟨by simpa using f2,⟨by rw[f3];exact cy.2.len,cy.2.inc,cy.2.lt⟩⟩) hm;have DO:(Instr.keyThatStays (((eK borns us.toList).toArray[j]?.map (·.key)).getD (a.eval iH)) (a.eval iH)).run P w= .ok (a.eval iH) w:=by
         have:((eK borns us.toList).toArray[j]?.map (·.key)).getD (a.eval iH)=e.key:=by simp[f4]
         rw[this];simp[Instr.keyThatStays,f6]
        simp only[Nat.zero_add]at f1;simp only[Instr.mapUpdate,ee,run_underlying hu,eg,bY,k3,sB,f1.run j6,eT,DO,yZ du];rw[f7];simp
       ·rename_i uj;have f1:=yu j6 rD nJ borns kvs us.toList 0 _ cy.1 cy.2.len uj;simp only at f1;have ps:us.toList.length=2*borns.length:=by rw[BE cy.1,cy.2.len]
        refine jK (.map ((eK borns us.toList).toArray.push ⟨a.eval iH,a.eval l8,clock⟩) (clock+1)) (us.toList++[a.eval iH,a.eval l8]).toArray (.hdm (clock+1) (borns++[clock])::(kvs++[bh st.t k,bh st.t v])) ?_ (by simp only[hp,CJ borns us.toList clock _ _ ps];simp) ?_ hm
        ·simp only[Instr.mapUpdate,ee,run_underlying hu,eg,bY,k3,sB,f1.run j6,eT,yZ du]
        ·simp only[gJ];refine⟨Fh cy.1 (by simp only[bP];exact⟨_,_,rfl,rD,_,_,rfl,nJ,rfl⟩),⟨by simp[cy.2.len];omega,?_,?_⟩⟩
         ·rw[List.pairwise_append];exact⟨cy.2.inc,Ψ,fun x ad y bk=>by simp at bk;subst bk;exact cy.2.lt x ad⟩
         ·intro b af;rcases ha.1 af with af|af
          ·have:=cy.2.lt b af;omega
          ·simp at af;omega
       ·cases hm
      ·cases hm
     ·cases he
    ·cases he
   ·cases he
  ·cases I
 ·rename_i bD x k v t kd iH l8;simp only[bA,df]at ag;obtain⟨⟨⟨⟨rfl,I⟩,aa⟩,ak⟩,aK⟩:=ag;have rx:=da hr aa;have rD:=da hr ak;have nJ:=da hr aK;split at I
  ·rename_i sz jh eC mw z aH;obtain⟨fa,hu,ej⟩:=gn au aH;have fD:fa= .map eC mw:=by cases fa<;>simp[jH]at ej;obtain⟨rfl,rfl⟩:=ej;rfl
   subst fD;have j6:=Ed au I;simp only[dn]at he;split at he
   ·rename_i m ad;rw[ad]at rx;simp only[aw]at rx;obtain⟨bl,bS,bY⟩:=rx;split at he
    ·rename_i cs ch;split at he
     ·rename_i cs' hm;cases he;obtain⟨fC,us,el,bJ,cj,de,du,cy⟩:=hr.good.box m cs ch;rw[bS]at bJ;cases bJ;unfold oy at hm;split at hm
      ·rename_i clock borns kvs;split at hm
       ·cases hm
       rename_i fK;simp only[hp]at du;simp only[gJ]at cy;have k3:=rG (P:=P) du;have sB:=Fp (P:=P) (w:=w) j6 false rD (by simpa using fK);have bU:bl<w.heap.size:=(Array.getElem?_eq_some_iff.1 du).1;have jK:∀(o':Obj) (a6:Array Value) (cn:List ab),(Instr.mapUpdate t (a.eval kd) (a.eval iH) (a.eval l8)).run P w= .ok () {w with heap:=w.heap.setIfInBounds bl o'}->hp cn a6 el.1=o'->gJ w ν cn a6.toList->some cn=some cs'->
         (⟨none,.mapUpdate t kd iH l8,type,pos,after,guard⟩:Oper).wp P a w K Q:=by
        intro o' a6 cn fy vM hZ fJ;cases fJ;refine ze (w':={w with heap:=w.heap.setIfInBounds bl o'}) ?_ (cl _ _ _ (hr.setBox (w':={w with heap:=w.heap.setIfInBounds bl o'}) ch bS (us:=a6) (el:=el) rfl rfl rfl (fun j av=>?_) Ψ ?_ hZ).1)
        ·simp only[execOp,fy,ee,eg,eT]
        ·exact Array.getElem?_setIfInBounds_ne (Ne.symm av)
        ·rw[vM];simp[bU]
       split at hm
       ·rename_i sV uj;obtain⟨j,u,a6,e,f1,f2,f3,f4,f5,f6,f7⟩:=yu j6 rD nJ borns kvs us.toList 0 _ cy.1 cy.2.len uj;refine jK (.map (eK borns a6).toArray clock) a6.toArray (.hdm clock borns::sV) ?_ (by simp[hp]) (by simp only[gJ];exact⟨by simpa using f2,⟨by rw[f3];exact cy.2.len,cy.2.inc,cy.2.lt⟩⟩) hm;have DO:(Instr.keyThatStays (((eK borns us.toList).toArray[j]?.map (·.key)).getD (a.eval iH)) (a.eval iH)).run P w= .ok (a.eval iH) w:=by
         have:((eK borns us.toList).toArray[j]?.map (·.key)).getD (a.eval iH)=e.key:=by simp[f4]
         rw[this];simp[Instr.keyThatStays,f6]
        simp only[Nat.zero_add]at f1;simp only[Instr.mapUpdate,ee,run_underlying hu,eg,bY,k3,sB,f1.run j6,eT,DO,yZ du];rw[f7];simp
       ·rename_i uj;have f1:=yu j6 rD nJ borns kvs us.toList 0 _ cy.1 cy.2.len uj;simp only at f1;have ps:us.toList.length=2*borns.length:=by rw[BE cy.1,cy.2.len]
        refine jK (.map ((eK borns us.toList).toArray.push ⟨a.eval iH,a.eval l8,clock⟩) (clock+1)) (us.toList++[a.eval iH,a.eval l8]).toArray (.hdm (clock+1) (borns++[clock])::(kvs++[bh st.t k,bh st.t v])) ?_ (by simp only[hp,CJ borns us.toList clock _ _ ps];simp) ?_ hm
        ·simp only[Instr.mapUpdate,ee,run_underlying hu,eg,bY,k3,sB,f1.run j6,eT,yZ du]
        ·simp only[gJ];refine⟨Fh cy.1 (by simp only[bP];exact⟨_,_,rfl,rD,_,_,rfl,nJ,rfl⟩),⟨by simp[cy.2.len];omega,?_,?_⟩⟩
         ·rw[List.pairwise_append];exact⟨cy.2.inc,Ψ,fun x ad y bk=>by simp at bk;subst bk;exact cy.2.lt x ad⟩
         ·intro b af;rcases ha.1 af with af|af
          ·have:=cy.2.lt b af;omega
          ·simp at af;omega
       ·cases hm
      ·cases hm
     ·cases he
    ·cases he
   ·cases he
  ·cases I
 ·rename_i d key x t kd;simp only[bA,df,fH]at ag;obtain⟨⟨⟨⟨rfl,aa⟩,I⟩,ak⟩,_⟩:=ag;have rx:=da hr ak;split at I
  ·rename_i sz jh eC mw z aH;obtain⟨fa,hu,ej⟩:=gn au aH;have fD:fa= .map eC mw:=by cases fa<;>simp[jH]at ej;obtain⟨rfl,rfl⟩:=ej;rfl
   subst fD;simp only[dn]at he;split at he
   ·rename_i m ad;rw[ad]at rx;have Va:=rx;simp only[aw]at rx;obtain⟨bl,bS,bY⟩:=rx;split at he
    ·rename_i cs ch;split at he
     ·rename_i cs' hm;cases he;obtain⟨fC,us,el,bJ,cj,de,du,cy⟩:=hr.good.box m cs ch;rw[bS]at bJ;cases bJ;unfold yL at hm;split at hm
      ·rename_i clock borns kvs;cases hm;simp only[hp]at du;have k3:=rG (P:=P) du;obtain⟨g1,g2⟩:=hr.newBox (hr.new _ (q4 rfl)) (gd rfl) (cs:=[.hdi clock [] clock,.gmap m]) (us:= #[a.eval kd]) ⟨0,fun e=>absurd e hB⟩ (by simp only[gJ,bP];exact⟨_,_,rfl,Va,rfl⟩);have vM:hp [.hdi clock [] clock,.gmap m] #[a.eval kd] 0= .mapIter (some bl) clock #[] clock:=by simp[hp,bY]
       rw[vM]at g1 g2;refine iM (v:= .pointer (some ⟨w.heap.size,0,none⟩)) (w':=w.alloc (.mapIter (some bl) clock #[] clock)) ?_ (cl _ _ _ (g1.put (d:=some d) (by simpa[ga]using aa) (p:= .ptr κ 0) g2))
       ·simp only[execOp];refine zc ?_;simp only[Instr.range,ee,run_underlying hu,eg,bY,k3,eT,run_newObj];rfl
      ·cases hm
     ·cases he
    ·cases he
   ·cases he
  ·cases I
 ·rename_i d aao;simp only[bA,df,fH]at ag;obtain⟨⟨I,aa⟩,ak⟩:=ag;subst I;simp only[dn]at he;split at he
  ·rename_i fY p aL;cases he;obtain⟨v,g1,g2⟩:=VP (o:=⟨some d,op,type,pos,after,guard⟩) au hr ak aL az;refine iM g1 (cl _ _ ν ?_);exact hr.put (d:=some d) (by simpa[ga]using aa) g2
  ·cases he
 ·rename_i d key x el o';simp only[bA,df,fH]at ag;obtain⟨⟨⟨I,aa⟩,ak⟩,j9⟩:=ag;subst I;simp only[dn]at he;cases he;have ad:=da hr ak;have kv:=rB ad az;obtain⟨g1,g2⟩:=hr.newBox (hr.new _ (q4 rfl)) (gd rfl) ⟨el,fun e=>by have:=hB e;subst this;simpa using j9⟩ (by rw[lk (qu kv)];exact kv);rw[lJ (qu kv)]at g1 g2;refine iM (v:= .pointer (some ⟨w.heap.size,0,none⟩)) (w':=w.alloc (.cells (a.eval o').cells el)) ?_ (cl _ _ _ (g1.put (d:=some d) (by simpa[ga]using aa) (p:= .ptr κ 0) ?_))
  ·simp only[execOp,Instr.box,newVar,newRow,ee,run_newObj,eg,eT];rfl
  ·simpa only[aw]using g2
 ·rename_i d key z el;simp only[bA,df,fH]at ag;obtain⟨⟨⟨I,aa⟩,ak⟩,j9⟩:=ag;subst I;simp only[dn]at he;cases he;split at ak
  ·rename_i f aH;have eB:=Gg ak;obtain⟨a7,Gb,z2,z3⟩:=FL au aH w;rw[<-eB]at z2;obtain⟨_,kv⟩:=Gf w ν z2;obtain⟨g1,g2⟩:=hr.newBox (hr.new _ (q4 rfl)) (gd rfl) ⟨el,fun e=>by have:=hB e;subst this;simpa using j9⟩ (by rw[lk (qu kv)];exact kv);rw[lJ (qu kv)]at g1 g2;refine iM (v:= .pointer (some ⟨w.heap.size,0,none⟩)) (w':=w.alloc (.cells a7.cells el)) ?_ (cl _ _ _ (g1.put (d:=some d) (by simpa[ga]using aa) (p:= .ptr κ 0) ?_))
   ·simp only[execOp,Instr.alloc,newVar,newRow,ee,Gb,run_newObj,eg,eT];rfl
   ·simpa only[aw]using g2
  ·cases ak
 ·rename_i sz x y t o' gj;simp only[bA,df]at ag;obtain⟨⟨⟨I,aa⟩,ak⟩,aK⟩:=ag;subst I;split at aa
  ·rename_i f aH;simp only[df]at aa;simp only[dn]at he;split at he
   ·rename_i k off ad;split at he
    ·rename_i cs ch;cases he;obtain⟨c0,cM,c2,c3⟩:=az;have rx:=da hr ak;rw[ad]at rx;simp only[aw]at rx;obtain⟨bl,bS,bY⟩:=rx;have hV:=da hr aK;have rz:=rB hV cM;have rE:=mQ rz;obtain⟨fC,us,el,bJ,cj,de,du,cy⟩:=hr.good.box k cs ch;rw[bS]at bJ;cases bJ;rw[lJ c0]at du;rw[lk c0]at cy;have bu:=mQ cy;obtain⟨_,cO⟩:=rK au aH w;have ra:(a.eval gj).cells.size=sz:=by rw[c2]at rE;simpa using rE
     have fe:=run_storeCells_at (P:=P) bl off el.1 (a.eval gj).cells.toList 0 us w du (by simp at bu⊢;omega) (wI rz);simp only[Nat.add_zero]at fe;refine ze (w':=w.setRow bl (us.toList.take off++(a.eval gj).cells.toList++us.toList.drop (off+(a.eval gj).cells.toList.length)).toArray) ?_ (cl _ _ _ (hr.storeBox ch bS c0 ?_))
     ·simp only[execOp,Instr.storeAt,bY,Instr.sureAddr,storeVar,ee,eT,eg,cO,ra,aa,ne_eq,not_true_eq_false,if_false,fe]
     ·simp only[me];rw[rE];exact uL (uL (yQ off cy) rz) (wH _ cy)
    ·cases he
   ·rename_i ad;generalize DF:bh st.t x=px at he;unfold oF at he;split at he
    ·rename_i cD k n i tU;split at he
     ·rename_i n' el gK xs J;split at he
      ·rename_i uo;obtain⟨rfl,rfl⟩:=uo;split at he
       ·rename_i q bj;cases he;obtain⟨c0,cM,c2,c3,c4⟩:=az;have rx:=da hr ak;rw[DF]at rx;have hV:=da hr aK;have rz:=rB hV cM;have rE:=mQ rz;obtain⟨_,cO⟩:=rK au aH w;have ra:(a.eval gj).cells.size=sz:=by rw[c2]at rE;simpa using rE
        obtain⟨bl,off,kp,x7,fe,ν',k7⟩:=hr.storeRow (P:=P) J rx bj c0 rz (by simpa[ra]using c3) (fun e=>by have:=dq List.length e;simp[ra]at this;omega);refine ze (w':=w.setRow bl kp) ?_ (cl _ _ _ k7);simp only[execOp,Instr.storeAt,x7,Instr.sureAddr,storeVar,ee,eT,eg,cO,ra,aa,ne_eq,not_true_eq_false,if_false,fe]
       ·cases he
      ·cases he
     ·cases he
    ·cases he
  ·cases aa
 ·rename_i d sz el xs t len parts;simp only[bA,df,fH]at ag;obtain⟨⟨⟨⟨⟨⟨I,aa⟩,ak⟩,aK⟩,bb⟩,ct⟩,dZ⟩:=ag;subst I;subst bb;split at ak
  ·rename_i dQ aH;simp only[df]at ak;subst ak;split at aK
   ·rename_i g aP;simp only[bA,df,fH]at aK;obtain⟨rfl,fN⟩:=aK;simp only[dn]at he;cases he;obtain⟨us,g1,g2,g3⟩:=LL au hr aH rfl aP dZ az ct;have jo:(w.alloc (.cells us el)).ownsRow w.heap.size el g.size (.slice (some ⟨w.heap.size,0,none⟩) xs.length xs.length) (xs.map (bh st.t)).length us.toList:=by
     refine⟨by simp[g3],.inr ⟨w.heap.size,xs.length,us,Ψ,cE _,heap_alloc_new w _,Ψ,?_,g3,?_⟩⟩
     ·simp only[maxLen];have:xs.length<=xs.length*g.size:=Nat.le_mul_of_pos_right _ fN;omega
     ·rw[List.take_of_length_le];simp[g3]
    obtain⟨eH,fB⟩:=hr.newRow (k:=κ) (xs:=xs.map (bh st.t)) (.inl (hr.new _ (q4 rfl))) (World.grownBy_alloc w _ none) jo g2
     (by have:xs.length<=xs.length*g.size:=Nat.le_mul_of_pos_right _ fN;simp only[bX,List.length_map];omega) (gd rfl)
    simp only[List.length_map]at eH fB;refine iM (v:= .slice (some ⟨w.heap.size,0,none⟩) xs.length xs.length) (w':=w.alloc (.cells us el)) ?_ (cl _ _ _ (eH.put (d:=some d) (by simpa[ga]using aa) (p:= .slice g.size (.own κ) (xs.map (bh st.t))) fB));have aY:(parts.map fun(x:Nat×gY)=>(x.1,a.eval x.2))=(parts.toList.map fun(x:Nat×gY)=>(x.1,a.eval x.2)).toArray:=by apply Array.ext';simp
    simp only[execOp];refine zc ?_;rw[<-g1];congr 2
   ·cases aK
  ·cases ak
 ·rename_i d sz el x y o' gj t t';simp only[bA,df,fH]at ag;obtain⟨⟨⟨⟨⟨⟨I,aa⟩,ak⟩,aK⟩,bb⟩,ct⟩,dZ⟩:=ag;subst I;subst ak;split at aK
  ·rename_i dQ aH;simp only[df]at aK;subst aK;split at bb
   ·rename_i g aP;simp only[bA,df,fH]at bb;obtain⟨⟨rfl,fN⟩,qY⟩:=bb;have rx:=da hr ct;have hV:=da hr dZ;have il:∀v' w',(pO #[t,t] type #[a.eval o',a.eval gj]).run P w= .ok v' w'->(execOp a.eval ⟨some d,.call ⟨.builtin .append,⟨[o',gj]⟩,⟨[t,t]⟩⟩,type,pos,after,guard⟩).run P w= .ok (.value v') w':=by intro v' w' fy;simp only[execOp,resolve,invoke,builtin,ee,eT,eg,List.map_toArray,gZ,List.map_nil];rw[fy];rfl
    obtain⟨dA,ik,z,ah,aE,bg,cB,hc,e0,oe,lZ⟩:=(qC au aP).ex;obtain⟨cn,fJ,ej⟩:=gn au aH;obtain rfl:=oc ej;simp only[dn]at he;split at he
    ·rename_i cD tag xs gK fF ys ad bk;split at he
     ·rename_i eb;obtain⟨rfl,eb⟩:=eb;subst eb;rw[ad]at rx;rw[bk]at hV;simp only[aw]at rx hV;obtain⟨⟨ax,oa,nO,cx1,⟨HK,HL⟩,cx4⟩,rxn,rxo,rxt⟩:=rx;obtain⟨⟨ay,iT,oL,cy1,⟨HM,HN⟩,cy4⟩,_⟩:=hV;split at he
      ·rename_i k;split at he
       ·rename_i ow J;cases he;obtain⟨cM,c2,c3,c4⟩:=az;subst c2;obtain⟨n0,nM,eH,fB,kL⟩:=rxo k rfl;obtain⟨v0,dX,bJ,cj,de,_⟩:=hr.good.own k ow J;rw[eH]at bJ;simp only[dv,hx]at bJ;obtain⟨rfl,rfl⟩:=bJ;have kD:a.eval o'=nM:=kL cM.symm;by_cases fA:ys=[]
        ·subst fA;rw[oL,nO]at il;have fy:=BJ (P:=P) (w:=w) (ty:=type) fJ ah ax xs.length oa cx1 ay iT;refine iM (il _ _ (by simpa using fy)) (cl _ _ ν ?_);have fe:{st with t:=put d (.slice ow.sz (.own k) (xs++[])) st.t,e:=ck k ⟨xs.length+([]:List ab).length,ow.el,ow.sz,none⟩ st.e}=({st with e:=ck k ⟨ow.n,ow.el,ow.sz,none⟩ st.e,t:=put d (.slice ow.sz (.own k) xs) st.t}:aN):=by simp[cM]
         rw[<-c3,fe];have jq:=hr.forgetRow J;refine jq.put (d:=some d) (by simpa[ga]using aa) (p:= .slice ow.sz (.own k) xs) ?_;simp only[aw];rw[<-c3]at cx4;exact⟨⟨ax,oa,rfl,cx1,⟨HK,HL⟩,cx4⟩,fun e=>(by cases e),(fun g e=>by cases e;exact⟨_,_,eH,fB,fun e=>by rw[<-nO];exact kL e⟩),fun _ _ e=>(by cases e),fun _ e=>(by cases e)⟩
        ·have hyp:0<ys.length:=by cases ys<;>simp at fA⊢
         rcases cy4 with cy4|⟨jh,lj,fQ,rfl,uB,kq⟩
         ·exact absurd cy4 fA
         ·have jO:=nI kq;have pg:∀j u,fQ[j]? =some u->w.cell? ((⟨jh,lj,none⟩:Addr).add j)=some u:=fun j u av=>by rw[lU];exact(qk uB av).2
          have k2:(xs.length+ys.length)*dA.bytes<=140737488355328:=by
           have qW:dA.bytes<=2048:=by rw[cB];exact qY
           have ua:(xs.length+ys.length)*dA.bytes<=(xs.length+ys.length)*2048:=Nat.mul_le_mul_left _ qW;simp only[bX]at c4;omega
          have hH:xs.length+ys.length<=maxLen:=by simp only[bX]at c4;simp only[maxLen];omega
          rw[oL]at il;have qg:dX.length=ow.n*ow.sz:=cj.1;have ny:z.cells.size=dA.size:=by rw[lZ,bg]
          have ud:(∀cur,cw->cur=(0:Nat))->(∃v' w',(pO #[t,t] type #[a.eval o',.slice (some ⟨jh,lj,none⟩) ys.length iT]).run P w= .ok v' w'/\w'.ownsRow w.heap.size ow.el dA.size v' (xs.length+ys.length) (dX++fQ)/\w.grownBy w' none/\b4 w ν dA.size xs dX)->
            (⟨some d,.call ⟨.builtin .append,⟨[o',gj]⟩,⟨[t,t]⟩⟩,type,pos,after,guard⟩:Oper).wp P a w K Q:=by
           intro _ bq;obtain⟨v',w',f1,f2,f3,f4⟩:=bq;have q0:b4 w ν dA.size (xs++ys) (dX++fQ):=wF f4 (by rw[bg];exact kq);obtain⟨gy,gz⟩:=hr.newRow (k:=k) (xs:=xs++ys) (.inr ⟨ow,J,by rw[cM];simp;omega⟩) f3 (by simpa using f2) q0 (by simpa using c4) (n':=st.n) (o':=st.o)
            (fun j av=>⟨av,fun e=>by subst e;have:=(hr.new _ av).2.1;rw[eH]at this;cases this⟩)
           refine iM (il _ _ f1) (cl _ _ ((ν.withOwn k (xs++ys).length v').withRowOf k v' (xs++ys).length ((xs++ys).length*dA.size)) ?_);have:=gy.put (d:=some d) (by simpa[ga]using aa) gz;simpa[bg,eD]using this
          rcases cj.2 with⟨h6,ru⟩|⟨bl,cap,cur,h6,ru,rv,yG,yH,Bn,wy⟩
          ·
           have ou:xs=[]:=pS Ω;have DT:dX=[]:=pS (by rw[qg,ru];simp);subst ou;subst DT;refine ud (fun _ h=>h.elim) ?_;obtain⟨v',w',f1,f2,f3,_⟩:=run_append_own (P:=P) w w.heap.size t type ow.el dA z dA.size dA.bytes fJ ah e0 rfl rfl ny (by rw[bg];exact fN) (.slice none 0 0) 0 [] (World.ownsRow_nil w _ _ _)
            ⟨jh,lj,none⟩ ys.length iT fQ (by rw[jO,bg]) pg (uK kq) (by simpa using hH) (by simpa using k2) (cE _)
           refine⟨v',w',by rw[kD,h6];exact f1,by simpa using f2,by simpa[ln]using f3,by simp[b4]⟩
          ·have RI:h5 w ν.A bl 0 dX/\b4 w ν dA.size xs dX/\True:=by
            rw[kD,h6]at nO;rcases cx4 with cx4|⟨hb,ZB,FX,f1,f2,f3⟩
            ·subst cx4;have:dX=[]:=pS (by rw[qg,cM];simp);subst this;exact⟨trivial,by simp[b4],trivial⟩
            ·subst f1;injection nO with vx1 vx2 vx3;injection vx1 with vx1;injection vx1 with vx1 vx4;subst vx1;subst vx4;have heq:FX=dX:=by
              apply List.ext_getElem?;intro j;have ps:FX.length=dX.length:=by rw[nI f3,qg,cM,c3]
              by_cases av:j<FX.length
              ·have I:=(qk f2 (eh av)).2;rw[Nat.zero_add]at I;have aa:=cj.cells (g:=bl) (by rw[h6];rfl) j dX[j] (eh Ω);rw[lU,Nat.zero_add,I]at aa;rw[eh av,eh Ω];exact aa
              ·rw[List.getElem?_eq_none Ω,List.getElem?_eq_none Ω]
             subst heq;exact⟨f2,by rw[bg];exact f3,trivial⟩
           obtain⟨hG,gM,_⟩:=RI;by_cases lC:xs.length+ys.length<=cap
           ·have Ym:cur.size=cap*ow.sz:=Bn;have hmul:(xs.length+ys.length)*ow.sz<=cap*ow.sz:=Nat.mul_le_mul_right _ lC;rw[Nat.add_mul]at hmul;have f1:=run_append_room (P:=P) w t type ow.el dA fJ ah bl xs.length cap cur rv ⟨jh,lj,none⟩ ys.length iT fQ (by rw[jO,bg]) pg (uK kq) lC (by rw[jO,bg,<-c3];omega);obtain⟨gy,gz⟩:=hr.inPlace J (bl:=bl) (cap:=cap) (cur:=cur) (by rw[eH,<-h6]) rv yH Bn (xs:=xs) (ys:=ys) (us:=dX) (ns:=fQ) cM.symm wy (by rw[c3,<-bg];exact gM) (by rw[c3];exact kq) hyp (by rw[cM];exact lC) c4;refine iM (v:= .slice (some ⟨bl,0,none⟩) (ow.n+ys.length) cap) (w':=w.setRow bl (dX++fQ++cur.toList.drop (ow.n*ow.sz+fQ.length)).toArray) (il _ _ ?_)
             (cl _ _ (ν.withRowOf k (.slice (some ⟨bl,0,none⟩) (ow.n+ys.length) cap) (ow.n+ys.length) ((ow.n+ys.length)*ow.sz)) ?_)
            ·rw[kD,h6,cM,f1,<-wy,cM,c3,bg]
            ·have:=gy.put (d:=some d) (by simpa[ga]using aa) gz;simpa[cM,c3,eD]using this
           ·refine ud (fun _ h=>h.elim) ?_;obtain⟨v',w',f1,f2,f3⟩:=run_append_arg_grows (P:=P) w t type ow.el dA z dA.size dA.bytes fJ ah e0 rfl rfl ny (by rw[bg];exact fN) ⟨bl,0,none⟩ xs.length cap dX (by rw[qg,cM,c3,bg])
             (fun j u av=>by rw[lU];exact(qk hG av).2) ⟨jh,lj,none⟩ ys.length iT fQ (by rw[jO,bg]) pg Ω hH k2
            exact⟨v',w',by rw[kD,h6,cM];exact f1,f2,f3,gM⟩
       ·cases he
      ·cases he;have Ap:=rxn rfl;have ou:xs=[]:=by rw[Ap]at nO;injection nO with _ aE;exact pS aE.symm
       subst ou;have ui:(cX.app d g.size el x y).makes st=true:=by simp only[cX.makes,ad]
       have ny:z.cells.size=dA.size:=by rw[lZ,bg]
       rw[oL,Ap]at il;have jK:∀(v':Value) (w':World) (fQ:List Value),(pO #[t,t] type #[.slice none 0 0,.slice ay ys.length iT]).run P w= .ok v' w'->w'.ownsRow w.heap.size el g.size v' ys.length fQ->w.grownBy w' none->b4 w ν g.size ys fQ->
         (⟨some d,.call ⟨.builtin .append,⟨[o',gj]⟩,⟨[t,t]⟩⟩,type,pos,after,guard⟩:Oper).wp P a w K Q:=by
        intro v' w' fQ f1 f2 f3 f4;obtain⟨gy,gz⟩:=hr.newRow (k:=κ) (xs:=ys) (.inl (hr.new _ (q4 ui))) f3 f2 f4 az (gd ui);exact iM (il _ _ f1) (cl _ _ _ (gy.put (d:=some d) (by simpa[ga]using aa) gz))
       by_cases fA:ys=[]
       ·subst fA;exact jK _ w [] (BJ fJ ah none 0 0 (cE _) ay iT) (World.ownsRow_nil w _ _ _) (WC w _) (by simp[b4])
       ·rcases cy4 with cy4|⟨jh,lj,fQ,rfl,uB,kq⟩
        ·exact absurd cy4 fA
        ·have jO:=nI kq;have pg:∀j u,fQ[j]? =some u->w.cell? ((⟨jh,lj,none⟩:Addr).add j)=some u:=fun j u av=>by rw[lU];exact(qk uB av).2
         have k2:ys.length*dA.bytes<=140737488355328:=by
          have I:dA.bytes<=2048:=by rw[cB];exact qY
          have aa:ys.length*dA.bytes<=ys.length*2048:=Nat.mul_le_mul_left _ I;simp only[bX]at az;omega
         have hH:ys.length<=maxLen:=by simp only[bX]at az;simp only[maxLen];omega
         obtain⟨v',w',f1,f2,f3,_⟩:=run_append_own (P:=P) w w.heap.size t type el dA z dA.size dA.bytes fJ ah e0 rfl rfl ny (by rw[bg];exact fN) (.slice none 0 0) 0 [] (World.ownsRow_nil w _ _ _)
          ⟨jh,lj,none⟩ ys.length iT fQ (by rw[jO,bg]) pg (uK kq) (by simpa using hH) (by simpa using k2) (cE _)
         exact jK v' w' fQ f1 (by rw[<-bg];simpa using f2) (by simpa[ln]using f3) kq
      ·cases he
     ·cases he
    ·cases he
   ·cases bb
  ·cases aK
 ·rename_i d key sz el xs t len parts;simp only[bA,df,fH]at ag;obtain⟨⟨⟨⟨⟨⟨I,aa⟩,ak⟩,aK⟩,bb⟩,ct⟩,dZ⟩:=ag;subst I;subst bb;split at ak
  ·rename_i dQ aH;simp only[df]at ak;subst ak;split at aK
   ·rename_i g aP;simp only[bA,df,fH]at aK;obtain⟨rfl,fN⟩:=aK;simp only[dn]at he;cases he;obtain⟨us,g1,g2,g3⟩:=LL au hr aH rfl aP dZ az ct;have jo:(w.alloc (.cells us el)).ownsRow w.heap.size el g.size (.slice (some ⟨w.heap.size,0,none⟩) xs.length xs.length) (xs.map (bh st.t)).length us.toList:=by
     refine⟨by simp[g3],.inr ⟨w.heap.size,xs.length,us,Ψ,cE _,heap_alloc_new w _,Ψ,?_,g3,?_⟩⟩
     ·simp only[maxLen];have:xs.length<=xs.length*g.size:=Nat.le_mul_of_pos_right _ fN;omega
     ·rw[List.take_of_length_le];simp[g3]
    obtain⟨eH,fB⟩:=hr.newRowM (k:=κ) (xs:=xs.map (bh st.t)) (.inl (hr.new _ (q4 rfl))) (World.grownBy_alloc w _ none) jo g2
     (by have:xs.length<=xs.length*g.size:=Nat.le_mul_of_pos_right _ fN;simp only[bX,List.length_map];omega) (gd rfl)
    simp only[List.length_map]at eH fB;refine iM (v:= .slice (some ⟨w.heap.size,0,none⟩) xs.length xs.length) (w':=w.alloc (.cells us el)) ?_ (cl _ _ _ (eH.put (d:=some d) (by simpa[ga]using aa) (p:= .row g.size κ xs.length) (fB ⟨_,_,rfl⟩)));have aY:(parts.map fun(x:Nat×gY)=>(x.1,a.eval x.2))=(parts.toList.map fun(x:Nat×gY)=>(x.1,a.eval x.2)).toArray:=by apply Array.ext';simp
    simp only[execOp];refine zc ?_;rw[<-g1];congr 2
   ·cases aK
  ·cases ak
 ·rename_i d key sz el x y o' gj t t';simp only[bA,df,fH]at ag;obtain⟨⟨⟨⟨⟨⟨I,aa⟩,ak⟩,aK⟩,bb⟩,ct⟩,dZ⟩:=ag;subst I;subst ak;split at aK
  ·rename_i dQ aH;simp only[df]at aK;subst aK;split at bb
   ·rename_i g aP;simp only[bA,df,fH]at bb;obtain⟨⟨rfl,fN⟩,qY⟩:=bb;have rx:=da hr ct;have hV:=da hr dZ;have il:∀v' w',(pO #[t,t] type #[a.eval o',a.eval gj]).run P w= .ok v' w'->(execOp a.eval ⟨some d,.call ⟨.builtin .append,⟨[o',gj]⟩,⟨[t,t]⟩⟩,type,pos,after,guard⟩).run P w= .ok (.value v') w':=by intro v' w' fy;simp only[execOp,resolve,invoke,builtin,ee,eT,eg,List.map_toArray,gZ,List.map_nil];rw[fy];rfl
    obtain⟨dA,ik,z,ah,aE,bg,cB,hc,e0,oe,lZ⟩:=(qC au aP).ex;obtain⟨cn,fJ,ej⟩:=gn au aH;obtain rfl:=oc ej;have ny:z.cells.size=dA.size:=by rw[lZ,bg]
    simp only[dn]at he;split at he
    ·
     rename_i ys aL;cases he;unfold ko at aL;split at aL
     ·rename_i cD xs gK fF Ww ad bk;split at aL
      ·rename_i eb;obtain⟨rfl,eb⟩:=eb;subst eb;cases aL;rw[ad]at rx;rw[bk]at hV;simp only[aw]at rx hV;obtain⟨⟨ax,oa,nO,cx1,⟨HK,HL⟩,cx4⟩,rxn,rxo,rxt⟩:=rx;obtain⟨⟨ay,iT,oL,cy1,⟨HM,HN⟩,cy4⟩,_⟩:=hV;have Ap:=rxn trivial;have ui:(cX.appm d key g.size el x y).makes st=true:=by simp only[cX.makes,ad]
       rw[oL,Ap]at il;have jK:∀(v':Value) (w':World) (fQ:List Value),(pO #[t,t] type #[.slice none 0 0,.slice ay ys.length iT]).run P w= .ok v' w'->w'.ownsRow w.heap.size el g.size v' ys.length fQ->w.grownBy w' none->b4 w ν g.size ys fQ->
         (⟨some d,.call ⟨.builtin .append,⟨[o',gj]⟩,⟨[t,t]⟩⟩,type,pos,after,guard⟩:Oper).wp P a w K Q:=by
        intro v' w' fQ f1 f2 f3 f4;obtain⟨gy,gz⟩:=hr.newRowM (k:=κ) (xs:=ys) (.inl (hr.new _ (q4 ui))) f3 f2 f4 az.1 (gd ui);exact iM (il _ _ f1) (cl _ _ _ (gy.put (d:=some d) (by simpa[ga]using aa) (gz (Bi f2 (by cases ys<;>simp at az⊢)))))
       by_cases fA:ys=[]
       ·subst fA;exact jK _ w [] (BJ fJ ah none 0 0 (cE _) ay iT) (World.ownsRow_nil w _ _ _) (WC w _) (by simp[b4])
       ·rcases cy4 with cy4|⟨jh,lj,fQ,rfl,uB,kq⟩
        ·exact absurd cy4 fA
        ·have jO:=nI kq;have pg:∀j u,fQ[j]? =some u->w.cell? ((⟨jh,lj,none⟩:Addr).add j)=some u:=fun j u av=>by rw[lU];exact(qk uB av).2
         have k2:ys.length*dA.bytes<=140737488355328:=by
          have I:dA.bytes<=2048:=by rw[cB];exact qY
          have aa:ys.length*dA.bytes<=ys.length*2048:=Nat.mul_le_mul_left _ I;simp only[bX]at az;omega
         have hH:ys.length<=maxLen:=by simp only[bX]at az;simp only[maxLen];omega
         obtain⟨v',w',f1,f2,f3,_⟩:=run_append_own (P:=P) w w.heap.size t type el dA z dA.size dA.bytes fJ ah e0 rfl rfl ny (by rw[bg];exact fN) (.slice none 0 0) 0 [] (World.ownsRow_nil w _ _ _)
          ⟨jh,lj,none⟩ ys.length iT fQ (by rw[jO,bg]) pg (uK kq) (by simpa using hH) (by simpa using k2) (cE _)
         exact jK v' w' fQ f1 (by rw[<-bg];simpa using f2) (by simpa[ln]using f3) kq
      ·cases aL
     ·split at aL
      ·split at aL
       ·split at aL<;>cases aL
       ·cases aL
      ·cases aL
     ·cases aL
    ·
     rename_i k xs ys aL;cases he;unfold ko at aL;split at aL
     ·split at aL<;>cases aL
     ·rename_i cD aX n gK fF Ww ad bk;split at aL
      ·rename_i eb;obtain⟨rfl,eb⟩:=eb;subst eb;split at aL
       ·rename_i n' dQ qx xs' J;split at aL
        ·rename_i iC;obtain⟨rfl,rfl,rfl⟩:=iC;cases aL;rw[ad]at rx;rw[bk]at hV;simp only[aw]at rx hV;obtain⟨⟨bx,oa,nO⟩,rxl,n0,nM,eH,fB,kL⟩:=rx;obtain⟨⟨ay,iT,oL,cy1,⟨HM,HN⟩,cy4⟩,_⟩:=hV;obtain⟨v0,dX,bJ,cj,de,du⟩:=hr.good.own k _ J;rw[eH]at bJ;simp only[dv,hx]at bJ cj;obtain⟨rfl,rfl⟩:=bJ;have kD:a.eval o'=nM:=kL rfl;obtain⟨cy,kK,qq⟩:=du xs rfl;simp only at cy kK;have qg:dX.length=xs.length*g.size:=by rw[cy];exact cj.1
         have l5:xs.length=n0:=cy;by_cases fA:ys=[]
         ·subst fA;rw[oL,nO]at il;have kv:n0<=oa:=by
           rcases cj.2 with⟨h6,ru⟩|⟨bl,cap,cur,h6,ru,rv,yG,_⟩
           ·rw[ru];exact Nat.zero_le _
           ·rw[<-kD,nO]at h6;injection h6 with _ _ e;rw[e];exact yG
          have fy:=BJ (P:=P) (w:=w) (ty:=type) fJ ah (some ⟨bx,0,none⟩) n0 oa kv ay iT;refine iM (il _ _ (by simpa using fy)) (cl _ _ ν ?_);have fV:∀dH,look dH (ck k ⟨n0,dQ,g.size,some xs⟩ st.e)=look dH st.e:=fun dH=>by
           rw[hJ];split
           ·rename_i e;subst e;rw[J]
           ·rfl
          have jq:bH C {st with e:=ck k ⟨n0,dQ,g.size,some xs⟩ st.e} a w ν:=
           ⟨⟨hr.good.alt,hr.good.box,hr.good.inj,fun g o aP=>hr.good.own g o (by rw[<-fV g];exact aP),fun g dH n n' v v' bl bt a2=>hr.good.oinj g dH n n' v v' bl (by rw[<-fV g];exact bt) (by rw[<-fV dH];exact a2),
           fun g j n v bl bt=>hr.good.obx g j n v bl (by rw[<-fV g];exact bt),hr.good.one,fun bl af=>hr.good.otr bl (af.imp id (fun⟨g,n,v,bt,a2⟩=>⟨g,n,v,by rw[<-fV g];exact bt,a2⟩))⟩,hr.fr,hr.defers,hr.size,hr.slot,hr.new,hr.ext,hr.obk⟩
          have ak:=jq.put (d:=some d) (by simpa[ga]using aa) (p:= .row g.size k n0) (v:= .slice (some ⟨bx,0,none⟩) n0 oa) (by simp only[aw];exact⟨⟨_,_,rfl⟩,rxl,_,_,eH,cE _,fun _=>by rw[<-nO];exact kD⟩)
          simpa[l5,eD]using ak
         ·have hyp:0<ys.length:=by cases ys<;>simp at fA⊢
          rcases cy4 with cy4|⟨jh,lj,fQ,rfl,uB,kq⟩
          ·exact absurd cy4 fA
          ·have jO:=nI kq;have pg:∀j u,fQ[j]? =some u->w.cell? ((⟨jh,lj,none⟩:Addr).add j)=some u:=fun j u av=>by rw[lU];exact(qk uB av).2
           have k2:(xs.length+ys.length)*dA.bytes<=140737488355328:=by
            have qW:dA.bytes<=2048:=by rw[cB];exact qY
            have ua:(xs.length+ys.length)*dA.bytes<=(xs.length+ys.length)*2048:=Nat.mul_le_mul_left _ qW;simp only[bX]at az;omega
           have hH:xs.length+ys.length<=maxLen:=by simp only[bX]at az;simp only[maxLen];omega
           have q0:b4 w ν g.size (xs++ys) (dX++fQ):=wF kK kq;rw[oL,kD]at il;have ud:(∃v' w',(pO #[t,t] type #[nM,.slice (some ⟨jh,lj,none⟩) ys.length iT]).run P w= .ok v' w'/\w'.ownsRow w.heap.size dQ dA.size v' (xs.length+ys.length) (dX++fQ)/\w.grownBy w' none)->
             (⟨some d,.call ⟨.builtin .append,⟨[o',gj]⟩,⟨[t,t]⟩⟩,type,pos,after,guard⟩:Oper).wp P a w K Q:=by
            intro bq;obtain⟨v',w',f1,f2,f3⟩:=bq;obtain⟨gy,gz⟩:=hr.newRowM (k:=k) (xs:=xs++ys) (el:=dQ) (sz:=g.size) (.inr ⟨_,J,by simp;omega⟩) f3 (by rw[<-bg];simpa using f2) q0 (by simpa using az) (n':=st.n) (o':=st.o)
             (fun j av=>⟨av,fun e=>by subst e;have:=(hr.new _ av).2.1;rw[eH]at this;cases this⟩)
            refine iM (il _ _ f1) (cl _ _ (ν.withOwn k (xs++ys).length v') ?_);have:=gy.put (d:=some d) (by simpa[ga]using aa) (gz (by simpa using Bi f2 Ω));simpa[eD]using this
           rcases cj.2 with⟨h6,ru⟩|⟨bl,cap,cur,h6,ru,rv,yG,yH,Bn,wy⟩
           ·
            have ou:xs=[]:=pS Ω;have DT:dX=[]:=pS (by rw[qg,ou];simp);subst ou;subst DT;refine ud ?_;obtain⟨v',w',f1,f2,f3,_⟩:=run_append_own (P:=P) w w.heap.size t type dQ dA z dA.size dA.bytes fJ ah e0 rfl rfl ny (by rw[bg];exact fN) (.slice none 0 0) 0 [] (World.ownsRow_nil w _ _ _)
             ⟨jh,lj,none⟩ ys.length iT fQ (by rw[jO,bg]) pg (uK kq) (by simpa using hH) (by simpa using k2) (cE _)
            exact⟨v',w',by rw[h6];exact f1,by simpa using f2,by simpa[ln]using f3⟩
           ·have h0:nM.ownBlock=some bl:=by rw[h6];rfl
            by_cases lC:xs.length+ys.length<=cap
            ·have hmul:(xs.length+ys.length)*g.size<=cap*g.size:=Nat.mul_le_mul_right _ lC;rw[Nat.add_mul]at hmul;have f1:=run_append_room (P:=P) w t type dQ dA fJ ah bl xs.length cap cur rv ⟨jh,lj,none⟩ ys.length iT fQ (by rw[jO,bg]) pg (uK kq) lC (by rw[jO,bg];omega);generalize yi:(cur.toList.take (xs.length*dA.size)++fQ++cur.toList.drop (xs.length*dA.size+fQ.length)).toArray=jx at f1;have iE:(w.setRow bl jx).heap[bl]? =some (.cells jx dQ (0,0)):=setRow_heap w bl cur jx dQ _ rv;have aA:(dX++fQ).length=(xs++ys).length*g.size:=by rw[jA,qg,jO,jA,Nat.add_mul]
             have bb:cur.toList.take (xs.length*dA.size)=dX:=by rw[l5,bg];exact wy
             have gg:jx.size=cap*g.size:=by rw[<-yi];simp only[List.size_toArray,jA,List.length_take,lp,Array.length_toList];rw[bg];omega
             have ot:jx.toList.take ((xs++ys).length*g.size)=dX++fQ:=by rw[<-yi,bb];simp only[<-aA];rw[List.take_append_of_le_length (cE _),kQ]
             obtain⟨gy,_,gz⟩:=hr.setRowM (w':=w.setRow bl jx) J rfl eH h0 (v':= .slice (some ⟨bl,0,none⟩) (xs.length+ys.length) cap) rfl (xs':=xs++ys) (us:=dX++fQ) (.inr (by simp;omega)) rfl rfl rfl (fun j av=>setRow_other w bl j jx av) (setRow_size w bl jx)
              ⟨aA,.inr ⟨bl,cap,jx,Ψ,Nat.zero_le _,iE,by simpa using lC,yH,gg,ot⟩⟩ q0
             replace gz:=gz (by simpa using az);refine iM (v:= .slice (some ⟨bl,0,none⟩) (xs.length+ys.length) cap) (w':=w.setRow bl jx) (il _ _ ?_) (cl _ _ (ν.withOwn k (xs++ys).length (.slice (some ⟨bl,0,none⟩) (xs.length+ys.length) cap)) ?_)
             ·rw[h6,<-l5];exact f1
             ·have:=gy.put (d:=some d) (by simpa[ga]using aa) gz;simpa[eD]using this
            ·refine ud ?_;obtain⟨v',w',f1,f2,f3⟩:=run_append_arg_grows (P:=P) w t type dQ dA z dA.size dA.bytes fJ ah e0 rfl rfl ny (by rw[bg];exact fN) ⟨bl,0,none⟩ xs.length cap dX (by rw[qg,bg])
              (fun j u av=>by have:=cj.cells h0 j u av;exact this) ⟨jh,lj,none⟩ ys.length iT fQ (by rw[jO,bg]) pg Ω hH k2
             exact⟨v',w',by rw[h6,<-l5];exact f1,f2,f3⟩
        ·cases aL
       ·cases aL
      ·cases aL
     ·cases aL
    ·cases he
   ·cases bb
  ·cases aK
 ·rename_i sz x y t o' gj;simp only[bA,df]at ag;obtain⟨⟨⟨I,aa⟩,ak⟩,aK⟩:=ag;subst I;split at aa
  ·rename_i f aH;simp only[df]at aa;simp only[dn]at he;generalize DF:bh st.t x=px at he;unfold oF at he;split at he
   ·rename_i cD k n i tU;split at he
    ·rename_i n' el gK xs J;split at he
     ·rename_i uo;obtain⟨rfl,rfl⟩:=uo;split at he
      ·rename_i q bj;cases he;obtain⟨c0,cM,c2,c3,c4⟩:=az;have rx:=da hr ak;rw[DF]at rx;have hV:=da hr aK;have rz:=rB hV cM;have rE:=mQ rz;obtain⟨_,cO⟩:=rK au aH w;have ra:(a.eval gj).cells.size=sz:=by rw[c2]at rE;simpa using rE
       obtain⟨bl,off,kp,x7,fe,ν',k7⟩:=hr.storeRow (P:=P) J rx bj c0 rz (by simpa[ra]using c3) (fun e=>by have:=dq List.length e;simp[ra]at this;omega);refine ze (w':=w.setRow bl kp) ?_ (cl _ _ _ k7);simp only[execOp,Instr.storeAt,x7,Instr.sureAddr,storeVar,ee,eT,eg,cO,ra,aa,ne_eq,not_true_eq_false,if_false,fe]
      ·cases he
     ·cases he
    ·cases he
   ·cases he
  ·cases aa
 ·rename_i d el x y o' gj t t';exact GD au hr (d:=d) (el:=el) (x:=x) (y:=y) (by simpa only[oD]using ag) (by simpa only[dn]using he) az cl
 ·rename_i d key sz el z x t o' gj;simp only[bA,df,fH]at ag;obtain⟨⟨⟨⟨⟨I,aa⟩,ak⟩,aK⟩,bb⟩,ct⟩:=ag;subst I;split at ak
  ·rename_i dQ aH;simp only[df]at ak;subst ak;split at aK
   ·rename_i g aP;simp only[bA,df,fH]at aK;obtain⟨⟨⟨rfl,fN⟩,qY⟩,eB⟩:=aK;obtain rfl:=Gg eB;have rx:=da hr bb;have hV:=da hr ct;simp only[dn]at he;split at he
    ·rename_i fW n ad;cases he;obtain⟨RV,jO⟩:=az;obtain⟨m,rfl⟩:=Int.eq_ofNat_of_zero_le RV;rw[ad]at rx hV;simp only[aw]at rx hV;obtain⟨dA,ik,a7,ah,aE,bg,cB,hc,e0,oe,lZ⟩:=(qC au aP).ex;obtain⟨cn,fJ,ej⟩:=gn au aH;obtain rfl:=oc ej;have hH:m<=bX:=by simp only[bX]at jO⊢;omega
     have k2:dA.bytes*m<=281474976710656:=by have I:dA.bytes*m<=2048*m:=Nat.mul_le_mul_right _ Ω;simp only[bX]at hH;omega
     obtain⟨R8,Ra⟩:=Gf w ν oe;obtain⟨w',g1,g2,g3⟩:=run_make_full (P:=P) w w.heap.size t el dA a7 dA.size fJ ah e0 rfl fW fW m k2 (by simp only[maxLen];simp only[bX]at hH;omega) (cE _);have jo:w'.ownsRow w.heap.size el g.size (.slice (some ⟨w.heap.size,0,none⟩) m m) (List.replicate m g.zero).length (madeCells a7.cells (m*a7.cells.size)).toList:=by rw[bg,<-lZ]at g2;rw[List.length_replicate,<-lZ];exact g2
     obtain⟨eH,fB⟩:=hr.newRowM (k:=κ) (xs:=List.replicate m g.zero) (.inl (hr.new _ (q4 rfl))) g3 jo (by rw[<-lZ];exact Ku R8 Ω (wI Ra) m) (by simpa using hH) (gd rfl);simp only[List.length_replicate]at eH fB;simp only[Int.toNat_natCast]at cl;refine iM (v:= .slice (some ⟨w.heap.size,0,none⟩) m m) (w':=w') ?_ (cl _ _ _ (eH.put (d:=some d) (by simpa[ga]using aa) (p:= .row g.size κ m) (fB ⟨_,_,rfl⟩)));simp only[execOp];refine zc ?_;rw[rx,hV];exact g1
    ·cases he
   ·cases aK
  ·cases ak
 ·cases ag
theorem GL{N:Nat}{aW:List (Nat×cm)}{d:Nat}{key:aV Nat}{o:Oper}(h:oD N aW (.mkmap d key) o=true):key≠some 861:=by
 rintro rfl;obtain⟨dst,op,type,pos,after,guard⟩:=o;generalize aB:cX.mkmap d (some 861)=i at h;unfold oD at h;dsimp only at h;split at h<;>first|(cases aB;done)|(cases h;done)|skip
 cases aB;simp at h
theorem Nk{N:Nat}{aW:List (Nat×cm)}{st:aN}{d:Nat}{key:aV Nat}{x:cg}{o:Oper}(h:oD N aW (.range d key x) o=true):ho st key≠ .obj 861:=by
 intro e;obtain rfl:=A5 e;obtain⟨dst,op,type,pos,after,guard⟩:=o;generalize aB:cX.range d (some 861) x=i at h;unfold oD at h;dsimp only at h;split at h<;>first|(cases aB;done)|(cases h;done)|skip
 cases aB;simp at h
theorem Vd{P:bp}{aW:List (Nat×cm)}(au:dJ P aW=true){C:dh}{st st':aN}{a:Act}{w:World}{ν:aD}(hr:bH C st a w ν){i:cX}{o:Oper}(ag:oD C.N aW i o=true)
  {c:Prop} (he:jV st i=some (c,st')) (az:c) {K:Act->World->Prop} {Q:Exit->Act->World->Prop} (cl:∀bE w' ν',bH C st' bE w' ν'->K bE w'):o.wp P a w K Q:=by
 have h3:nA st none->fresh st.n st.o (.loc st.n):=fun h=>s0 (key:=none) h;have x4:∀j,fresh (st.n+1) st.o j->fresh st.n st.o j/\j≠ .loc st.n:=s3 (key:=none);cases i with
 |v d i=>exact hq (κ:= .loc 0) (n':=0) (o₁:=[]) au hr ag (fun h=>by simp[cX.makes]at h) (fun h=>by simp[cX.makes]at h) (by simpa only[jV,dn]using he) az cl
 |box d key x=>simp only[jV]at he;cases he;exact hq (κ:=ho st key) (n':=lf st key) (o₁:=lg st key) au hr ag (fun _=>s0 az.1) (fun _=>s3) (by simp only[dn]) az.2 cl (hB:=A5)
 |alloc d key z=>simp only[jV]at he;cases he;exact hq (κ:=ho st key) (n':=lf st key) (o₁:=lg st key) au hr ag (fun _=>s0 az) (fun _=>s3) (by simp only[dn]) trivial cl (hB:=A5)
 |mks d key sz el z x=>
  simp only[jV]at he;split at he
  ·rename_i fW n ad;cases he;exact hq (κ:=ho st key) (n':=lf st key) (o₁:=lg st key) au hr ag (fun _=>s0 az.1) (fun _=>s3) (by simp only[dn,ad]) az.2 cl
  ·cases he
 |apps d el x y=>exact GD au hr ag (by simpa only[jV]using he) az cl
 |storeE sz x y=>exact hq (κ:= .loc 0) (n':=0) (o₁:=[]) au hr ag (fun h=>by simp[cX.makes]at h) (fun h=>by simp[cX.makes]at h) (by simpa only[jV,dn]using he) az cl
 |store sz x y=>exact hq (κ:= .loc 0) (n':=0) (o₁:=[]) au hr ag (fun h=>by simp[cX.makes]at h) (fun h=>by simp[cX.makes]at h) (by simpa only[jV,dn]using he) az cl
 |bsl d sz el xs=>simp only[jV]at he;cases he;exact hq (κ:= .loc st.n) (n':=st.n+1) (o₁:=st.o) au hr ag (fun _=>h3 az.1) (fun _=>x4) (by simp only[dn]) az.2 cl
 |bslm d key sz el xs=>simp only[jV]at he;cases he;exact hq (κ:=ho st key) (n':=lf st key) (o₁:=lg st key) au hr ag (fun _=>s0 az.1) (fun _=>s3) (by simp only[dn]) az.2 cl
 |appm d key sz el x y=>
  simp only[jV]at he;split at he
  ·rename_i ys aL;cases he;exact hq (κ:=ho st key) (n':=lf st key) (o₁:=lg st key) au hr ag (fun _=>s0 az.1) (fun _=>s3) (by simp only[dn,aL]) az.2 cl
  ·rename_i k xs ys aL;cases he;refine hq (κ:= .loc 0) (n':=0) (o₁:=[]) au hr ag (fun h=>?_) (fun h=>?_) (by simp only[dn,aL]) az cl;all_goals
    exfalso
    simp only[cX.makes]at h
    split at h
    ·rename_i ad
     unfold ko at aL
     rw[ad]at aL
     split at aL
     ·split at aL<;>cases aL
     ·rename_i I _;cases I
     ·cases aL
    ·cases h
  ·cases he
 |mkmap d key=>simp only[jV]at he;cases he;exact hq (κ:=ho st key) (n':=lf st key) (o₁:=lg st key) au hr ag (fun _=>s0 az) (fun _=>s3) (by simp only[dn]) trivial cl (hB:=fun e=>GL ag (A5 e))
 |mput bD x k v=>exact hq (κ:= .loc 0) (n':=0) (o₁:=[]) au hr ag (fun h=>by simp[cX.makes]at h) (fun h=>by simp[cX.makes]at h) (by simpa only[jV,dn]using he) az cl
 |range d key x=>
  simp only[jV]at he;split at he
  ·rename_i m ad;split at he
   ·rename_i cs ch;split at he
    ·rename_i cs' hm;cases he;exact hq (κ:=ho st key) (n':=lf st key) (o₁:=lg st key) au hr ag (fun _=>s0 az) (fun _=>s3) (by simp only[dn,ad,ch,hm]) trivial cl (hB:=Nk ag)
    ·cases he
   ·cases he
  ·cases he
 |app d sz el x y=>
  simp only[jV]at he;split at he
  ·rename_i cD tag xs gK fF ys ad bk;split at he
   ·rename_i eb;split at he
    ·rename_i k;split at he
     ·rename_i ow J;cases he;refine hq (κ:= .loc 0) (n':=0) (o₁:=[]) au hr ag (fun h=>by simp[cX.makes,ad]at h) (fun h=>by simp[cX.makes,ad]at h) ?_ az cl;simp only[dn,ad,bk,eb,and_self,if_true,J]
     ·cases he
    ·cases he;refine hq (κ:= .loc st.n) (n':=st.n+1) (o₁:=st.o) au hr ag (fun _=>h3 az.1) (fun _=>x4) ?_ az.2 cl;simp only[dn,ad,bk,eb,and_self,if_true]
    ·cases he
   ·cases he
  ·cases he
structure cZ where
 b:List (aq×List ab)
 e:List (aq×cq)
def eZ(ν:aD)(s:cZ)(bl:Nat):Prop:=(∃k,(look k s.b).isSome/\ν.bx k=some bl)\/(∃g n v,(look g s.e).isSome/\ν.ow g=some (n,v)/\v.ownBlock=some bl)
def oZ(ν:aD)(s:cZ):Prop:= ∀k,(look k s.b=none->ν.bx k=none)/\(look k s.e=none->ν.ow k=none)/\∀j b,¬ν.tr k j b
def dG(s:cZ):List aq:=s.b.map (·.1)++s.e.map (·.1)
def gw(s:cZ):Prop:=(∀m,look (.loc m) s.b=none)/\(∀m,look (.loc m) s.e=none)
def rZ(P:bp)(f:FuncId)(vs:Array Value)(w:World)(R:Ending->World->Prop):Prop:=((∃fn,P.funcs[f]? =some fn/\fn.body.isSome=true/\(fn.name== "runtime.NumGoroutine")=false)/\Calls P f vs w R)\/ ∃v w',(callFunc f vs).run P w= .ok (.value v) w'/\R (.returned v) w'
def cS(P:bp)(f:FuncId)(args:List ab)(s:cZ)(Q:ab->cZ->Prop):Prop:=
 ∀(w:World) (ν:aD) (vs:Array Value) (gl:lQ w ν),Good (eZ ν s) w ν s.b s.e->oZ ν s->bP w ν args vs.toList->
  rZ P f vs w fun e w'=> ∃v r aj ν',e= .returned v/\Q r aj/\aw w' ν' r v/\Good (fun bl=>eZ ν s bl\/w.heap.size<=bl) w' ν' aj.b aj.e/\oZ ν' aj/\gw aj/\mo ⟨w,ν,eZ ν s,0,dG s,gl,[]⟩ w' ν'
def vr(κ:aV Nat)(ν:aD)(s:cZ):Prop:= ∀k,(look k s.b=none->ν.bx k=none)/\(look k s.e=none->ν.ow k=none)/\∀j b,ν.tr k j b->∃m,κ=some m/\k= .loc m
theorem oZ.k{ν:aD}{s:cZ}(h:oZ ν s):vr none ν s:=fun k=>⟨(h k).1,(h k).2.1,fun j b af=>absurd af ((h k).2.2 j b)⟩
def FnK(P:bp)(f:FuncId)(κ:Nat)(args:List ab)(s:cZ)(Q:ab->cZ->Prop):Prop:=
 ∀(w:World) (ν:aD) (vs:Array Value) (gl:lQ w ν),Good (eZ ν s) w ν s.b s.e->oZ ν s->bP w ν args vs.toList->
  rZ P f vs w fun e w'=> ∃v r aj ν',e= .returned v/\Q r aj/\aw w' ν' r v/\Good (fun bl=>eZ ν s bl\/w.heap.size<=bl) w' ν' aj.b aj.e/\vr (some κ) ν' aj/\gw aj/\mo ⟨w,ν,eZ ν s,0,dG s,gl,[]⟩ w' ν'
def b5(P:bp)(f:FuncId)(args:List ab)(r:ab):Prop:=cS P f args ⟨[],[]⟩ fun cv aj=>cv=r/\aj=⟨[],[]⟩
theorem sX{α:Type}{k:aq}{x:α}:∀{l:List (aq×α)},look k l=some x->(k,x)∈l
 |[],h=>by simp[look]at h
 |(i,y)::r,h=>by
  simp only[look]at h;split at h
  ·rename_i e;subst e;cases h;simp
  ·exact List.mem_cons_of_mem _ (sX h)
theorem rr{s:cZ}{k:aq}(h:(look k s.b).isSome\/(look k s.e).isSome):k∈dG s:=by
 unfold dG;rcases h with h|h<;>obtain⟨x,ad⟩:=ei.1 h<;>have:=sX ad
 ·exact kk _ (lO.2 ⟨_,this,rfl⟩)
 ·exact iz _ (lO.2 ⟨_,this,rfl⟩)
section
open Classical
noncomputable def aD.cut(ν:aD)(S:aq->Prop):aD:={A:=ν.A,bx:=fun k=>if S k then ν.bx k else none,ow:=fun k=>if S k then ν.ow k else none,tr:=fun k j b=>S k/\ν.tr k j b}
theorem aD.cut_bx{ν:aD}{S:aq->Prop}{k:aq}(h:S k):(ν.cut S).bx k=ν.bx k:=by simp[aD.cut,h]
theorem aD.cut_ow{ν:aD}{S:aq->Prop}{k:aq}(h:S k):(ν.cut S).ow k=ν.ow k:=by simp[aD.cut,h]
theorem aD.cut_no{ν:aD}{S:aq->Prop}{k:aq}(h:¬S k):(ν.cut S).bx k=none/\(ν.cut S).ow k=none/\∀j b,¬(ν.cut S).tr k j b:=by simp[aD.cut,h]
theorem aD.cut_some{ν:aD}{S:aq->Prop}{k:aq}{b:Nat}(h:(ν.cut S).bx k=some b):S k/\ν.bx k=some b:=by
 by_cases ao:S k
 ·exact⟨ao,by rw[aD.cut_bx ao]at h;exact h⟩
 ·rw[(aD.cut_no ao).1]at h;cases h
theorem aD.cut_someO{ν:aD}{S:aq->Prop}{k:aq}{b:Nat×Value}(h:(ν.cut S).ow k=some b):S k/\ν.ow k=some b:=by
 by_cases ao:S k
 ·exact⟨ao,by rw[aD.cut_ow ao]at h;exact h⟩
 ·rw[(aD.cut_no ao).2.1]at h;cases h
theorem lQ.cut{w:World}{ν:aD}(h:lQ w ν)(S:aq->Prop):lQ w (ν.cut S):=h
theorem kU.cut(S:aq->Prop)(w:World)(ν:aD):kU S w ν w (ν.cut S):=⟨fun _ _ h=>⟨h,rfl⟩,fun k b J h=>by rw[aD.cut_bx J];exact h,fun g n u aP h=>⟨n,u,by rw[aD.cut_ow aP];exact h,.inl ⟨rfl,rfl⟩⟩,fun _ _ _=>rfl,fun _ _ _ J h=>⟨J,h⟩⟩
end
def mT(S:aq->Prop)(fh b:List (aq×List ab)):Prop:= ∀k cs,look k fh=some cs->look k b=some cs/\S k/\kinL S cs
def nL(S:aq->Prop)(fS e:List (aq×cq)):Prop:= ∀k o,look k fS=some o->look k e=some o/\S k/\ef S o
theorem Good.cut{pr K4:Nat->Prop}{w:World}{ν:aD}{b fh:List (aq×List ab)}{e fS:List (aq×cq)}(h:Good pr w ν b e){S:aq->Prop}(af:mT S fh b)(he:nL S fS e)
  (JD:∀bl,pr bl->(∃k,(look k fh).isSome/\(ν.cut S).bx k=some bl)\/(∃g n v,(look g fS).isSome/\(ν.cut S).ow g=some (n,v)/\v.ownBlock=some bl)->K4 bl):Good K4 w (ν.cut S) fh fS:=by
 have qX:∀k,(look k fh).isSome->(look k b).isSome/\S k:=fun k J=>by obtain⟨cs,ch⟩:=ei.1 J;have:=af k cs ch;exact⟨by simp[this.1],this.2.1⟩
 have Ae:∀k,(look k fS).isSome->(look k e).isSome/\S k:=fun k J=>by obtain⟨cs,ch⟩:=ei.1 J;have:=he k cs ch;exact⟨by simp[this.1],this.2.1⟩
 refine⟨h.alt,fun k cs J=>?_,fun k aX bl I aa ak aK=>?_,fun g o aP=>?_,fun g dH n n' v v' bl I aa ak aK bb ct=>?_,fun g k n v bl I aa ak aK bb=>?_,fun k=>?_,fun bl au k j av=>?_⟩
 ·obtain⟨g1,g2,g3⟩:=af k cs J;obtain⟨bl,us,el,f1,f2,f3,f4,f5⟩:=h.box k cs g1;have hD:(ν.cut S).bx k=some bl:=by rw[aD.cut_bx g2];exact f1
  exact⟨bl,us,el,hD,JD bl f2 (.inl ⟨k,by simp[J],hD⟩),f3,f4,Fb (kU.cut S w ν) g3 f5⟩
 ·obtain⟨bt,a2⟩:=qX k I;obtain⟨bS,bY⟩:=qX aX aa;exact h.inj k aX bl bt bS (aD.cut_some ak).2 (aD.cut_some aK).2
 ·obtain⟨g1,g2,g3⟩:=he g o aP;obtain⟨v,us,f1,f2,f3,f4⟩:=h.own g o g1;have lB:(ν.cut S).ow g=some (o.n,v):=by rw[aD.cut_ow g2];exact f1
  exact⟨v,us,lB,f2,fun bl eE=>⟨JD bl (f3 bl eE).1 (.inr ⟨g,o.n,v,by simp[aP],lB,eE⟩),(f3 bl eE).2⟩,
   fun xs ad=>⟨(f4 xs ad).1,BB (kU.cut S w ν) _ _ _ (g3 xs ad) (f4 xs ad).2.1,(f4 xs ad).2.2⟩⟩
 ·obtain⟨bt,a2⟩:=Ae g I;obtain⟨bS,bY⟩:=Ae dH aa;exact h.oinj g dH n n' v v' bl bt bS (aD.cut_someO ak).2 (aD.cut_someO aK).2 bb ct
 ·obtain⟨bt,a2⟩:=Ae g I;obtain⟨bS,bY⟩:=qX k aa;exact h.obx g k n v bl bt bS (aD.cut_someO ak).2 aK (aD.cut_some bb).2
 ·by_cases ao:S k
  ·rw[aD.cut_bx ao,aD.cut_ow ao];exact h.one k
  ·exact .inl (aD.cut_no ao).1
 ·refine h.otr bl ?_ k j av.2;rcases au with⟨aX,bt,a2⟩|⟨g,n,v,bt,a2,a3⟩
  ·exact .inl ⟨aX,(qX aX bt).1,(aD.cut_some a2).2⟩
  ·exact .inr ⟨g,n,v,(Ae g bt).1,(aD.cut_someO a2).2,a3⟩
structure hQ (ob:List aq) (st st':aN):Prop where
 t:∀x∈st'.t,get x.1 st.t=x.2/\kin (fun k=> ¬fresh st'.n st'.o k) x.2
 b:mT (fun k=> ¬fresh st'.n st'.o k) st'.b st.b
 e:nL (fun k=> ¬fresh st'.n st'.o k) st'.e st.e
 o:∀m∈ob,m∈st'.o
theorem C1:∀(i:Nat) (l:List (Nat×ab)),get i l= .junk\/(i,get i l)∈l
 |_,[]=>.inl rfl
 |i,(j,p)::r=>by
  by_cases h:j=i
  ·subst h;right;simp[get]
  ·rcases C1 i r with I|I
   ·left;simp[get,h,I]
   ·right;simp[get,h];right;exact I
theorem bH.weaker{C:dh}{st st':aN}{a:Act}{w:World}{ν:aD}(h:bH C st a w ν)(hw:hQ C.ob st st'):bH C st' a w (ν.cut fun k=> ¬fresh st'.n st'.o k):=by
 refine⟨h.good.cut hw.b hw.e (fun bl aY _=>aY),⟨h.fr.os,h.fr.tape,h.fr.output,h.fr.size,h.fr.block,h.fr.keep,h.fr.fresh,fun n b af=>?_,h.fr.obn,fun m n u hm=>?_,h.fr.obr,fun k j aX dj b I aa=>h.fr.trd k j aX dj b I.2 aa.2,fun k j b af=>h.fr.trb k j b af.2,fun k j b af=>?_,h.fr.sh,fun j n u b ah aE=>h.fr.nrow j n u b (aD.cut_someO ah).2 aE⟩,h.defers,h.size,fun i=>?_,fun k J=>aD.cut_no (fun aR=>aR J),fun x ad=>⟨oB (kU.cut _ w ν) _ _ (l6 (fun k J aH=>aH.2 (hw.o k J)) _ (h.ext x ad).2) (h.ext x ad).1,(h.ext x ad).2⟩,fun m hm aH=>aH.2 (hw.o m hm)⟩
 ·rw[aD.cut_bx (fun bq=>bq.2 (hw.o _ (h.fr.obn n b af)))];exact h.fr.obj n b af
 ·rw[aD.cut_ow (fun bq=>bq.2 (hw.o _ (h.fr.obr m n u hm)))];exact h.fr.row m n u hm
 ·rw[aD.cut_bx af.1,aD.cut_ow af.1];exact h.fr.trn k j b af.2
 ·rcases C1 i st'.t with av|hm
  ·rw[av];simp[aw]
  ·obtain⟨I,aa⟩:=hw.t _ hm;simp only at I;have:=h.slot i;rw[I]at this;exact oB (kU.cut _ w ν) _ _ aa this
mutual
def bC:ab->ab
 | .slice sz _ xs=>.slice sz .no (bz xs)
 | .agg cs=>.agg (bz cs)
 | .tuple vs=>.tuple (bz vs)
 | .eptr x=>.eptr (bC x)
 | .iface t x=>.iface t (bC x)
 | .func f cG=>.func f (bz cG)
 |p=>p
def bz:List ab->List ab
 |[]=>[]
 |x::xs=>bC x::bz xs
end
theorem kf:∀xs,(bz xs).length=xs.length
 |[]=>rfl
 |x::xs=>by simp[bz,kf xs]
mutual
theorem zW{t:Bool}{w:World}{A:Nat->Nat->Prop}:∀(p:ab) (F:Nat->Prop) (v:Value),bQ t w A F p v->bQ t w A F (bC p) v
 | .int _ _,_,_,h=>by simpa only[bC]using h
 | .bool _,_,_,h=>by simpa only[bC]using h
 | .str _,_,_,h=>by simpa only[bC]using h
 | .slice sz tag xs,F,v,h=>by
  simp only[bQ,bC]at h⊢;obtain⟨a,cap,I,aa,ak,aK⟩:=h;refine⟨a,cap,by rw[kf];exact I,by rw[kf];exact aa,by rw[kf];exact ak,?_⟩;rcases aK with rfl|⟨b,off,us,G,ah,aE,bg,cB,hc,e0⟩
  ·exact .inl rfl
  ·exact .inr ⟨b,off,us,G,ah,aE,bg,cB,hc,Iy sz xs G us e0⟩
 | .agg cs,F,v,h=>by simp only[bQ,bC]at h⊢;obtain⟨us,I,aa⟩:=h;exact⟨us,I,Iz cs F _ aa⟩
 | .junk,_,_,h=>by simp[bQ]at h
 | .ptr _ _,_,_,h=>by simp[bQ]at h
 | .eptr _,_,_,h=>by simp[bQ]at h
 | .iface _ _,_,_,h=>by simp[bQ]at h
 | .nilp,_,_,h=>by simp[bQ]at h
 | .tuple _,_,_,h=>by simp[bQ]at h
 | .func _ _,_,_,h=>by simp[bQ]at h
 | .gmap _,_,_,h=>by simp[bQ]at h
 | .row _ _ _,_,_,h=>by simp[bQ]at h
 | .rptr _ _ _ _ _,_,_,h=>by simp[bQ]at h
 | .hdm _ _,_,_,h=>by simp[bQ]at h
 | .hdi _ _ _,_,_,h=>by simp[bQ]at h
 | .cst _,_,_,h=>by simp[bQ]at h
theorem Iz{t:Bool}{w:World}{A:Nat->Nat->Prop}:∀(cs:List ab) (F:Nat->Prop) (us:List Value),h1 t w A F cs us->h1 t w A F (bz cs) us
 |[],_,_,h=>by simpa only[bz]using h
 |c::cs,F,us,h=>by simp only[h1,bz]at h⊢;obtain⟨u,a6,e2,e3,I,aa,⟨bb,ct⟩,dZ⟩:=h;exact⟨u,a6,e2,e3,I,aa,⟨zW c e2 u bb,ct⟩,Iz cs e3 a6 dZ⟩
theorem Iy{t:Bool}{w:World}{A:Nat->Nat->Prop}(sz:Nat):∀(cs:List ab) (F:Nat->Prop) (us:List Value),hA t w A F sz cs us->hA t w A F sz (bz cs) us
 |[],_,_,h=>by simpa only[bz]using h
 |c::cs,F,us,h=>by simp only[hA,bz]at h⊢;obtain⟨u,a6,e2,e3,I,aa,⟨bb,ct⟩,dZ⟩:=h;exact⟨u,a6,e2,e3,I,aa,⟨zW c e2 u bb,ct⟩,Iy sz cs e3 a6 dZ⟩
end
theorem xE{t:Bool}{w:World}{A:Nat->Nat->Prop}{F:Nat->Prop}{sz:Nat}{tag:jZ}(fF:jZ){xs:List ab}(v:Value)(h:bQ t w A F (.slice sz tag xs) v):bQ t w A F (.slice sz fF (bz xs)) v:=by have:=zW _ F v h;simp only[bC,bQ]at this⊢;exact this
mutual
theorem tc{w:World}{ν:aD}:∀(p:ab) (v:Value),aw w ν p v->aw w ν (bC p) v
 | .junk,_,h=>by simpa only[bC]using h
 | .int k n,_,h=>by simpa only[bC]using h
 | .bool b,_,h=>by simpa only[bC]using h
 | .str s,_,h=>by simpa only[bC]using h
 | .slice sz tag xs,v,h=>by
  simp only[aw,bC]at h⊢;obtain⟨⟨a,cap,I,aa,ak,aK⟩,bb,ct⟩:=h;refine⟨⟨a,cap,by rw[kf];exact I,by rw[kf];exact aa,by rw[kf];exact ak,?_⟩,fun e=>(by cases e),fun g e=>(by cases e),fun _ _ e=>(by cases e),fun _ e=>(by cases e)⟩;rcases aK with rfl|⟨b,off,us,aK,ct,dZ⟩
  ·exact .inl rfl
  ·exact .inr ⟨b,off,us,aK,ct,Lx sz xs us dZ⟩
 | .agg cs,v,h=>by simp only[aw,bC]at h⊢;obtain⟨us,I,aa⟩:=h;exact⟨us,I,LB cs _ aa⟩
 | .ptr key off,v,h=>by simpa only[bC]using h
 | .iface t x,v,h=>by simp only[aw,bC]at h⊢;obtain⟨u,I,aa⟩:=h;exact⟨u,I,tc x u aa⟩
 | .eptr x,v,h=>by simp only[aw,bC]at h⊢;obtain⟨b,off,u,I,aa,ak⟩:=h;exact⟨b,off,u,I,tc x u aa,ak⟩
 | .nilp,_,h=>by simpa only[bC]using h
 | .tuple vs,v,h=>by simp only[aw,bC]at h⊢;obtain⟨us,I,aa⟩:=h;exact⟨us,I,BF vs _ aa⟩
 | .func f cG,v,h=>by simp only[aw,bC]at h⊢;obtain⟨us,I,aa⟩:=h;exact⟨us,I,BF cG _ aa⟩
 | .gmap key,v,h=>by simpa only[bC]using h
 | .row _ _ _,v,h=>by simpa only[bC]using h
 | .rptr _ _ _ _ _,v,h=>by simpa only[bC]using h
 | .cst _,v,h=>by simpa only[bC]using h
theorem LB{w:World}{ν:aD}:∀(cs:List ab) (us:List Value),bV w ν cs us->bV w ν (bz cs) us
 |[],_,h=>by simpa only[bz]using h
 |c::cs,us,h=>by simp only[bV,bz]at h⊢;obtain⟨u,a6,I,aa,ak⟩:=h;exact⟨u,a6,I,⟨tc c u aa.1,aa.2⟩,LB cs a6 ak⟩
theorem BF{w:World}{ν:aD}:∀(cs:List ab) (us:List Value),bP w ν cs us->bP w ν (bz cs) us
 |[],_,h=>by simpa only[bz]using h
 |c::cs,us,h=>by simp only[bP,bz]at h⊢;obtain⟨u,a6,I,aa,ak⟩:=h;exact⟨u,a6,I,tc c u aa,BF cs a6 ak⟩
theorem Lx{w:World}{ν:aD}(sz:Nat):∀(xs:List ab) (us:List Value),b4 w ν sz xs us->b4 w ν sz (bz xs) us
 |[],_,h=>by simpa only[bz]using h
 |x::xs,us,h=>by simp only[b4,bz]at h⊢;obtain⟨u,a6,I,⟨aa,ak,aK⟩,bb⟩:=h;exact⟨u,a6,I,⟨tc x u aa,ak,aK⟩,Lx sz xs a6 bb⟩
end
def aG(s:cZ)(k:aq):Prop:=(look k s.b).isSome=true\/(look k s.e).isSome=true
def bs{α β:Type}(s:List (aq×β)):List (aq×α)->List (aq×α)
 |[]=>[]
 |(k,x)::r=>match look k s with
  |some _=>bs s r
  |none=>(k,x)::bs s r
theorem pz{α β:Type}(s:List (aq×β))(k:aq):∀l:List (aq×α),look k (bs s l)=if(look k s).isSome then none else look k l
 |[]=>by simp[bs,look]
 |(i,x)::r=>by
  simp only[bs];by_cases e:i=k
  ·subst e;cases h:look i s with
   |some y=>simp[pz s i r,h]
   |none=>simp[look]
  ·cases h:look i s with
   |some y=>simp[pz s k r,look,e]
   |none=>simp[look,e,pz s k r]
theorem kH{α:Type}(k:aq):∀l fE:List (aq×α),look k (l++fE)=match look k l with|some x=>some x|none=>look k fE
 |[],fE=>by simp[look]
 |(i,x)::r,fE=>by
  by_cases e:i=k
  ·simp[look,e]
  ·simp[look,e,kH k r fE]
def after(st:aN)(s aj:cZ)(d:aV Nat)(r:ab):aN:={t:=eD d r st.t,b:=bs s.b st.b++aj.b,e:=bs s.e st.e++aj.e,n:=st.n,o:=st.o++dG aj}
section
open Classical
noncomputable def aD.join(ν ν':aD)(s aj:cZ):aD:={A:=ν'.A,bx:=fun k=>if(look k s.b).isSome\/(look k aj.b).isSome then ν'.bx k else ν.bx k,ow:=fun k=>if(look k s.e).isSome\/(look k aj.e).isSome then ν'.ow k else ν.ow k,tr:=fun k j b=>ν.tr k j b\/ν'.tr k j b}
end
theorem bH.callK{C:dh}{st:aN}{a:Act}{w w':World}{ν ν':aD}(h:bH C st a w ν){s aj:cZ}(af:mT (aG s) s.b st.b)(he:nL (aG s) s.e st.e)(iF:gw s)
  (aP:Good (fun bl=>eZ (ν.cut (aG s)) s bl\/w.heap.size<=bl) w' ν' aj.b aj.e) {κ:aV Nat} (ad:vr κ ν' aj) (AE:∀m,κ=some m->ν.bx (.loc m)=none/\ν.ow (.loc m)=none/\∀j b,¬ν.tr (.loc m) j b) {n':Nat} {o':List aq} (gd:∀k,fresh n' o' k->fresh st.n (st.o++dG aj) k/\∀m,κ=some m->k≠ .loc m) (pj:gw aj) (aH:mo ⟨w,ν.cut (aG s),eZ (ν.cut (aG s)) s,0,dG s,h.fr.gl.cut _,[]⟩ w' ν')
  (DA:∀m,(look (.obj m) aj.b).isSome->(look (.obj m) s.b).isSome\/ .obj m∉st.o) (b7:∀m,(look (.obj m) aj.e).isSome->(look (.obj m) s.e).isSome\/ .obj m∉st.o) (d:aV Nat) (aF:ga C.N d=true) {r:ab} {v:Value} (hr:aw w' ν' r v):
  bH C {after st s aj d r with n:=n',o:=o'} (a.put d v) w' (ν.join ν' s aj):=by
 have sP:∀k,(look k s.b).isSome->(look k st.b).isSome:=fun k J=>by obtain⟨cs,ch⟩:=ei.1 J;simp[(af k cs ch).1]
 have gT:∀k,(look k s.e).isSome->(look k st.e).isSome:=fun k J=>by obtain⟨cs,ch⟩:=ei.1 J;simp[(he k cs ch).1]
 have RZ:∀k,(look k aj.b).isSome->¬(look k s.b).isSome->ν.bx k=none:=fun k J aR=>by
  cases k with
  |loc m=>rw[pj.1 m]at J;cases J
  |obj m=>exact(h.new (.obj m) ⟨trivial,(DA m J).resolve_left aR⟩).1
 have R0:∀k,(look k aj.e).isSome->¬(look k s.e).isSome->ν.ow k=none:=fun k J aR=>by
  cases k with
  |loc m=>rw[pj.2 m]at J;cases J
  |obj m=>exact(h.new (.obj m) ⟨trivial,(b7 m J).resolve_left aR⟩).2.1
 have SM:∀k,(look k s.b).isSome->(ν.join ν' s aj).bx k=ν'.bx k:=fun k J=>by simp[aD.join,J]
 have JZ:∀k,(look k aj.b).isSome->(ν.join ν' s aj).bx k=ν'.bx k:=fun k J=>by simp[aD.join,J]
 have J0:∀k,ν.bx k≠none->¬(look k s.b).isSome->(ν.join ν' s aj).bx k=ν.bx k:=fun k I aa=>by have ak:¬(look k aj.b).isSome:=fun ak=>I (RZ k ak aa);simp[aD.join,aa,ak]
 have SN:∀k,(look k s.e).isSome->(ν.join ν' s aj).ow k=ν'.ow k:=fun k J=>by simp[aD.join,J]
 have D8:∀k,(look k aj.e).isSome->(ν.join ν' s aj).ow k=ν'.ow k:=fun k J=>by simp[aD.join,J]
 have D9:∀k,ν.ow k≠none->¬(look k s.e).isSome->(ν.join ν' s aj).ow k=ν.ow k:=fun k I aa=>by have ak:¬(look k aj.e).isSome:=fun ak=>I (R0 k ak aa);simp[aD.join,aa,ak]
 have MK:∀k b,ν'.bx k=some b->(look k aj.b).isSome:=fun k b J=>by
  cases aA:look k aj.b with
  |some _=>rfl
  |none=>rw[(ad k).1 aA]at J;cases J
 have ML:∀k b,ν'.ow k=some b->(look k aj.e).isSome:=fun k b J=>by
  cases aA:look k aj.e with
  |some _=>rfl
  |none=>rw[(ad k).2.1 aA]at J;cases J
 have ag:km w ν w' (ν.join ν' s aj):=by
  refine⟨fun b o aT=>aH.keep b o aT,fun k b _ J=>?_,fun g n u _ aP=>?_,fun b o aT=>aH.sh b o aT,fun _ _ _ _ h=>.inl h⟩
  ·by_cases ao:(look k s.b).isSome
   ·rw[SM k ao];cases k with
    |loc m=>rw[iF.1 m]at ao;cases ao
    |obj m=>exact aH.obj m b (by rw[aD.cut_bx (.inl ao)];exact J)
   ·rw[J0 k (by rw[J];simp) ao];exact J
  ·by_cases ao:(look g s.e).isSome
   ·rw[SN g ao];cases g with
    |loc m=>rw[iF.2 m]at ao;cases ao
    |obj m=>exact aH.row m n u (by rw[aD.cut_ow (.inr ao)];exact aP)
   ·rw[D9 g (by rw[aP];simp) ao];exact⟨n,u,aP,.inl ⟨rfl,rfl⟩⟩
 have fM:km w' ν' w' (ν.join ν' s aj):=⟨fun b o aT=>⟨aT,rfl⟩,fun k b _ J=>by rw[JZ k (MK k b J)];exact J,fun g n u _ J=>⟨n,u,by rw[D8 g (ML g _ J)];exact J,.inl ⟨rfl,rfl⟩⟩,fun _ _ _=>rfl,fun _ _ _ _ h=>.inr h⟩
 have ly:∀bl,eZ (ν.cut (aG s)) s bl->C.pr bl/\bl<w.heap.size:=by
  intro bl eE;rcases eE with⟨k,I,aa⟩|⟨g,n,u,I,aa,ak⟩
  ·have aK:=(aD.cut_some aa).2;obtain⟨cs,ch⟩:=ei.1 (sP k I);obtain⟨fC,us,el,g1,g2,_⟩:=h.good.box k cs ch;rw[aK]at g1;cases g1;exact⟨g2,h.good.boxLt ch aK⟩
  ·have aK:=(aD.cut_someO aa).2;obtain⟨o,Aq⟩:=ei.1 (gT g I);obtain⟨v',us,g1,g2,g3,_⟩:=h.good.own g o Aq;rw[aK]at g1;cases g1;exact⟨(g3 bl ak).1,h.good.ownLt Aq aK ak⟩
 have JE:∀bl,eZ (ν.cut (aG s)) s bl\/w.heap.size<=bl->C.pr bl:=fun bl eE=>by
  rcases eE with eE|eE
  ·exact(ly bl eE).1
  ·exact .inr (Nat.le_trans h.fr.size eE)
 have Sa:∀k cs bl,look k st.b=some cs->¬(look k s.b).isSome->ν.bx k=some bl->¬eZ (ν.cut (aG s)) s bl:=by
  intro k cs bl I aa ak aK;rcases aK with⟨aX,bt,a2⟩|⟨g,n,u,bt,a2,a3⟩
  ·have:=h.good.inj k aX bl (by simp[I]) (sP aX bt) ak (aD.cut_some a2).2;subst this;exact aa bt
  ·exact h.good.obx g k n u bl (gT g bt) (by simp[I]) (aD.cut_someO a2).2 a3 ak
 have Sb:∀g o n u bl,look g st.e=some o->¬(look g s.e).isSome->ν.ow g=some (n,u)->u.ownBlock=some bl->¬eZ (ν.cut (aG s)) s bl:=by
  intro g o n u bl I aa ak aK bb;rcases bb with⟨aX,bt,a2⟩|⟨dH,n',dw,bt,a2,a3⟩
  ·exact h.good.obx g aX n u bl (by simp[I]) (sP aX bt) ak aK (aD.cut_some a2).2
  ·have:=h.good.oinj g dH n n' u dw bl (by simp[I]) (gT dH bt) ak (aD.cut_someO a2).2 aK a3;subst this;exact aa bt
 have Hx:∀k cs,look k (bs s.b st.b++aj.b)=some cs->(¬(look k s.b).isSome/\look k st.b=some cs)\/look k aj.b=some cs:=by
  intro k cs J;rw[kH,pz]at J;by_cases ao:(look k s.b).isSome
  ·simp only[ao,if_true]at J;exact .inr J
  ·simp only[ao]at J;cases aA:look k st.b with
   |some x=>simp[aA]at J;subst J;exact .inl ⟨ao,rfl⟩
   |none=>simp[aA]at J;exact .inr J
 have Hy:∀k cs,look k (bs s.e st.e++aj.e)=some cs->(¬(look k s.e).isSome/\look k st.e=some cs)\/look k aj.e=some cs:=by
  intro k cs J;rw[kH,pz]at J;by_cases ao:(look k s.e).isSome
  ·simp only[ao,if_true]at J;exact .inr J
  ·simp only[ao]at J;cases aA:look k st.e with
   |some x=>simp[aA]at J;subst J;exact .inl ⟨ao,rfl⟩
   |none=>simp[aA]at J;exact .inr J
 have uT:∀bl,eZ (ν.cut (aG s)) s bl\/w.heap.size<=bl->∀fC,fC<w.heap.size->¬eZ (ν.cut (aG s)) s fC->bl≠fC:=by
  intro bl I fC aa ak e;subst e;rcases I with I|I
  ·exact ak I
  ·omega
 have Ec:∀bl,bl<w.heap.size->¬eZ (ν.cut (aG s)) s bl->w'.heap[bl]? =w.heap[bl]?:=fun bl I aa=>aH.block bl I aa;have isB:∀k bl,(look k (bs s.b st.b++aj.b)).isSome->(ν.join ν' s aj).bx k=some bl->(¬(look k s.b).isSome/\(look k st.b).isSome/\ν.bx k=some bl)\/((look k aj.b).isSome/\ν'.bx k=some bl):=by
  intro k bl J hD;obtain⟨cs,ch⟩:=ei.1 J;rcases Hx k cs ch with⟨I,aa⟩|I
  ·obtain⟨fC,us,el,g1,_⟩:=h.good.box k cs aa;rw[J0 k (by rw[g1];simp) I]at hD;exact .inl ⟨I,by simp[aa],hD⟩
  ·rw[JZ k (by simp[I])]at hD;exact .inr ⟨by simp[I],hD⟩
 have AI:∀k x,(look k (bs s.e st.e++aj.e)).isSome->(ν.join ν' s aj).ow k=some x->(¬(look k s.e).isSome/\(look k st.e).isSome/\ν.ow k=some x)\/((look k aj.e).isSome/\ν'.ow k=some x):=by
  intro k x J hD;obtain⟨cs,ch⟩:=ei.1 J;rcases Hy k cs ch with⟨I,aa⟩|I
  ·obtain⟨v',us,g1,_⟩:=h.good.own k cs aa;rw[D9 k (by rw[g1];simp) I]at hD;exact .inl ⟨I,by simp[aa],hD⟩
  ·rw[D8 k (by simp[I])]at hD;exact .inr ⟨by simp[I],hD⟩
 have xh:∀k bl,¬(look k s.b).isSome->(look k st.b).isSome->ν.bx k=some bl->bl<w.heap.size/\¬eZ (ν.cut (aG s)) s bl:=by intro k bl I aa ak;obtain⟨cs,ch⟩:=ei.1 aa;exact⟨h.good.boxLt ch ak,Sa k cs bl ch I ak⟩
 have uO:∀k n u bl,¬(look k s.e).isSome->(look k st.e).isSome->ν.ow k=some (n,u)->u.ownBlock=some bl->bl<w.heap.size/\¬eZ (ν.cut (aG s)) s bl:=by intro k n u bl I aa ak aK;obtain⟨cs,ch⟩:=ei.1 aa;exact⟨h.good.ownLt ch ak aK,Sb k cs n u bl ch I ak aK⟩
 have zp:∀k bl,(look k aj.b).isSome->ν'.bx k=some bl->eZ (ν.cut (aG s)) s bl\/w.heap.size<=bl:=by intro k bl I aa;obtain⟨cs,ch⟩:=ei.1 I;obtain⟨fC,us,el,g1,g2,_⟩:=aP.box k cs ch;rw[aa]at g1;cases g1;exact g2
 have BH:∀k n u bl,(look k aj.e).isSome->ν'.ow k=some (n,u)->u.ownBlock=some bl->eZ (ν.cut (aG s)) s bl\/w.heap.size<=bl:=by intro k n u bl I aa ak;obtain⟨cs,ch⟩:=ei.1 I;obtain⟨v',us,g1,g2,g3,_⟩:=aP.own k cs ch;rw[aa]at g1;cases g1;exact(g3 bl ak).1
 have aT:∀bl o,ν'.A bl o->bl<w.heap.size->¬eZ (ν.cut (aG s)) s bl->ν.A bl o:=by
  intro bl o I aa ak;rcases aH.fresh bl o I with aK|aK|aK
  ·exact aK
  ·exact absurd aK ak
  ·simp only at aK;omega
 have k7:bH C {t:=st.t,b:=bs s.b st.b++aj.b,e:=bs s.e st.e++aj.e,n:=n',o:=o'} a w' (ν.join ν' s aj):=by
  refine h.over ag rfl ⟨aP.alt,fun k cs J=>?_,fun k aX bl I aa ak aK=>?_,fun g o ea=>?_,fun g dH n n' u dw bl I aa ak aK bb ct=>?_,fun g k n u bl I aa ak aK bb=>?_,fun k=>?_,fun bl au k j eF=>?_⟩
   ⟨aH.os.trans h.fr.os,aH.tape.trans h.fr.tape,aH.output.trans h.fr.output,Nat.le_trans h.fr.size aH.size,fun k J hm=>?_,fun b o o6=>?_,fun b o o6=>?_,fun n b aR=>ag.bx _ _ trivial (h.fr.obj n b aR),h.fr.obn,
    fun m n u hm=>yV (h.fr.row m n u hm) (fun n u=>ag.ow _ n u trivial),h.fr.obr,fun k j aX dj b I aa=>?_,fun k j b af=>?_,fun k j b af=>?_,fun b o aT=>(ag.sh b o (h.fr.keep b o aT).1).trans (h.fr.sh b o aT),fun j n u b ah aE=>h.fr.nrow j n u b (by simpa[aD.join,iF.2 j,pj.2 j]using ah) aE⟩ (fun k J=>?_) (fun m hm=>oh (cE _) (fun _ h=>kk _ h) (gd m hm).1)
  ·rcases Hx k cs J with⟨I,aa⟩|I
   ·obtain⟨bl,us,el,g1,g2,g3,g4,g5⟩:=h.good.box k cs aa;obtain⟨bS,bY⟩:=xh k bl I (by simp[aa]) g1;exact⟨bl,us,el,ag.bx _ _ trivial g1,g2,fun o o6=>g3 o (aT bl o o6 bS bY),by rw[Ec bl bS bY];exact g4,nH ag g5⟩
   ·obtain⟨bl,us,el,g1,g2,g3,g4,g5⟩:=aP.box k cs I;exact⟨bl,us,el,fM.bx _ _ trivial g1,JE bl g2,g3,g4,nH fM g5⟩
  ·rcases isB k bl I ak with⟨bt,a2,a3⟩|⟨bt,a2⟩<;>rcases isB aX bl aa aK with⟨bS,bY,fk⟩|⟨bS,bY⟩
   ·exact h.good.inj k aX bl a2 bY a3 fk
   ·obtain⟨cM,c2⟩:=xh k bl bt a2 a3;exact absurd rfl (uT bl (zp aX bl bS bY) bl cM c2)
   ·obtain⟨cM,c2⟩:=xh aX bl bS bY fk;exact absurd rfl (uT bl (zp k bl bt a2) bl cM c2)
   ·exact aP.inj k aX bl bt bS a2 bY
  ·rcases Hy g o ea with⟨I,aa⟩|I
   ·obtain⟨u,us,g1,g2,g3,g4⟩:=h.good.own g o aa;refine⟨u,us,by rw[D9 g (by rw[g1];simp) I];exact g1,⟨g2.1,?_⟩,fun bl eE=>?_,pJ ag (fun bl eE j o6=>?_) g4⟩
    ·rcases g2.2 with aE|⟨hb,cap,cur,f1,f2,f3,f4⟩
     ·exact .inl aE
     ·obtain⟨bS,bY⟩:=uO g _ u hb I (by simp[aa]) g1 (by rw[f1];rfl);exact .inr ⟨hb,cap,cur,f1,f2,by rw[Ec hb bS bY];exact f3,f4⟩
    ·obtain⟨bS,bY⟩:=uO g _ u bl I (by simp[aa]) g1 eE;exact⟨(g3 bl eE).1,fun j o6=>(g3 bl eE).2 j (aT bl j o6 bS bY)⟩
    ·obtain⟨bS,bY⟩:=uO g _ u bl I (by simp[aa]) g1 eE;exact aT bl j o6 bS bY
   ·obtain⟨u,us,g1,g2,g3,g4⟩:=aP.own g o I;exact⟨u,us,by rw[D8 g (by simp[I])];exact g1,g2,fun bl eE=>⟨JE bl (g3 bl eE).1,(g3 bl eE).2⟩,pJ fM (fun _ _ _ h=>h) g4⟩
  ·rcases AI g _ I ak with⟨bt,a2,a3⟩|⟨bt,a2⟩<;>rcases AI dH _ aa aK with⟨bS,bY,fk⟩|⟨bS,bY⟩
   ·exact h.good.oinj g dH n n' u dw bl a2 bY a3 fk bb ct
   ·obtain⟨cM,c2⟩:=uO g n u bl bt a2 a3 bb;exact absurd rfl (uT bl (BH dH n' dw bl bS bY ct) bl cM c2)
   ·obtain⟨cM,c2⟩:=uO dH n' dw bl bS bY fk ct;exact absurd rfl (uT bl (BH g n u bl bt a2 bb) bl cM c2)
   ·exact aP.oinj g dH n n' u dw bl bt bS a2 bY bb ct
  ·rcases AI g _ I ak with⟨bt,a2,a3⟩|⟨bt,a2⟩<;>rcases isB k bl aa bb with⟨bS,bY,fk⟩|⟨bS,bY⟩
   ·exact h.good.obx g k n u bl a2 bY a3 aK fk
   ·obtain⟨cM,c2⟩:=uO g n u bl bt a2 a3 aK;exact absurd rfl (uT bl (zp k bl bS bY) bl cM c2)
   ·obtain⟨cM,c2⟩:=xh k bl bS bY fk;exact absurd rfl (uT bl (BH g n u bl bt a2 aK) bl cM c2)
   ·exact aP.obx g k n u bl bt bS a2 aK bY
  ·
   cases hD:(ν.join ν' s aj).bx k with
   |none=>exact .inl rfl
   |some bl=>
    right;cases lB:(ν.join ν' s aj).ow k with
    |none=>rfl
    |some x=>
     exfalso;have ah:(ν.bx k=some bl/\¬(look k s.b).isSome/\¬(look k aj.b).isSome)\/ν'.bx k=some bl:=by
      by_cases ao:(look k s.b).isSome\/(look k aj.b).isSome
      ·right;simpa[aD.join,ao]using hD
      ·left;simp only[not_or]at ao;exact⟨by simpa[aD.join,ao.1,ao.2]using hD,ao.1,ao.2⟩
     have aE:(ν.ow k=some x/\¬(look k s.e).isSome/\¬(look k aj.e).isSome)\/ν'.ow k=some x:=by
      by_cases ao:(look k s.e).isSome\/(look k aj.e).isSome
      ·right;simpa[aD.join,ao]using lB
      ·left;simp only[not_or]at ao;exact⟨by simpa[aD.join,ao.1,ao.2]using lB,ao.1,ao.2⟩
     rcases ah with⟨bt,a2,a3⟩|bt<;>rcases aE with⟨bS,bY,fk⟩|bS
     ·rcases h.good.one k with bq|bq
      ·rw[bq]at bt;cases bt
      ·rw[bq]at bS;cases bS
     ·have Dv:=ML k x bS;have eb:(look k s.e).isSome:=by
       cases k with
       |loc m=>rw[pj.2 m]at Dv;cases Dv
       |obj m=>
        rcases b7 m Dv with bq|bq
        ·exact bq
        ·rw[(h.new (.obj m) ⟨trivial,bq⟩).1]at bt;cases bt
      obtain⟨o,Aq⟩:=ei.1 (gT k eb);obtain⟨v',us,g1,_⟩:=h.good.own k o Aq;rcases h.good.one k with bq|bq
      ·rw[bq]at bt;cases bt
      ·rw[bq]at g1;cases g1
     ·have Du:=MK k bl bt;have eb:(look k s.b).isSome:=by
       cases k with
       |loc m=>rw[pj.1 m]at Du;cases Du
       |obj m=>
        rcases DA m Du with bq|bq
        ·exact bq
        ·rw[(h.new (.obj m) ⟨trivial,bq⟩).2.1]at bS;cases bS
      obtain⟨cs,ch⟩:=ei.1 (sP k eb);obtain⟨fC,us,el,g1,_⟩:=h.good.box k cs ch;rcases h.good.one k with bq|bq
      ·rw[bq]at g1;cases g1
      ·rw[bq]at bS;cases bS
     ·rcases aP.one k with bq|bq
      ·rw[bq]at bt;cases bt
      ·rw[bq]at bS;cases bS
  ·have Jo:∀k j,ν'.tr k j bl->w.heap.size<=bl:=fun k j bq=>by
    rcases(aH.trb k j bl bq).1 with a2|a2
    ·obtain⟨m,_,hm⟩:=(ad k).2.2 j bl bq;rw[hm]at a2;cases a2
    ·exact a2
   have hold:eZ (ν.cut (aG s)) s bl->¬ν.tr k j bl:=by
    rintro(⟨aX,bt,a2⟩|⟨g,n,u,bt,a2,a3⟩) bq
    ·exact h.good.otr bl (.inl ⟨aX,sP aX bt,(aD.cut_some a2).2⟩) k j bq
    ·exact h.good.otr bl (.inr ⟨g,n,u,gT g bt,(aD.cut_someO a2).2,a3⟩) k j bq
   have iE:eZ (ν.cut (aG s)) s bl\/w.heap.size<=bl->¬ν.tr k j bl:=by
    rintro(I|I) bq
    ·exact hold I bq
    ·have:=(h.fr.trb k j bl bq).2;omega
   rcases au with⟨aX,bt,a2⟩|⟨g,n,u,bt,a2,a3⟩
   ·rcases isB aX bl bt a2 with⟨bS,bY,fk⟩|⟨bS,bY⟩
    ·rcases eF with eF|eF
     ·exact h.good.otr bl (.inl ⟨aX,bY,fk⟩) k j eF
     ·have:=(xh aX bl bS bY fk).1;have:=Jo k j eF;omega
    ·rcases eF with eF|eF
     ·exact iE (zp aX bl bS bY) eF
     ·exact aP.otr bl (.inl ⟨aX,bS,bY⟩) k j eF
   ·rcases AI g _ bt a2 with⟨bS,bY,fk⟩|⟨bS,bY⟩
    ·rcases eF with eF|eF
     ·exact h.good.otr bl (.inr ⟨g,n,u,bY,fk,a3⟩) k j eF
     ·have:=(uO g n u bl bS bY fk a3).1;have:=Jo k j eF;omega
    ·rcases eF with eF|eF
     ·exact iE (BH g n u bl bS bY a3) eF
     ·exact aP.otr bl (.inr ⟨g,n,u,bS,bY,a3⟩) k j eF
  ·have bU:k<w.heap.size:=Nat.lt_of_lt_of_le J h.fr.size;rw[Ec k bU fun eE=>by
    rcases(ly k eE).1 with I|I
    ·exact hm I
    ·omega]
   exact h.fr.block k J hm
  ·obtain⟨cu,cI⟩:=h.fr.keep b o o6;obtain⟨gI,ju⟩:=aH.keep b o cu;exact⟨gI,ju.trans cI⟩
  ·rcases aH.fresh b o o6 with aK|aK|aK
   ·exact h.fr.fresh b o aK
   ·exact .inr (ly b aK).1
   ·exact .inr (.inr (Nat.le_trans h.fr.size aK))
  ·rcases I with I|I<;>rcases aa with aa|aa
   ·exact h.fr.trd k j aX dj b I aa
   ·have bt:=(h.fr.trb k j b I).2;have a2:=(aH.trb aX dj b aa).1;rcases a2 with a2|a2
    ·obtain⟨m,_,hm⟩:=(ad aX).2.2 dj b aa;rw[hm]at a2;cases a2
    ·simp only at a2;omega
   ·have bt:=(h.fr.trb aX dj b aa).2;have a2:=(aH.trb k j b I).1;rcases a2 with a2|a2
    ·obtain⟨m,_,hm⟩:=(ad k).2.2 j b I;rw[hm]at a2;cases a2
    ·simp only at a2;omega
   ·exact aH.trd k j aX dj b I aa
  ·rcases af with af|af
   ·exact⟨(h.fr.trb k j b af).1,Nat.lt_of_lt_of_le (h.fr.trb k j b af).2 aH.size⟩
   ·refine⟨.inr ?_,(aH.trb k j b af).2⟩;rcases(aH.trb k j b af).1 with a2|a2
    ·obtain⟨m,_,hm⟩:=(ad k).2.2 j b af;rw[hm]at a2;cases a2
    ·exact Nat.le_trans h.fr.size a2
  ·have key:ν.bx k=none/\ν.ow k=none/\¬(look k aj.b).isSome/\¬(look k aj.e).isSome:=by
    rcases af with af|af
    ·obtain⟨t1,t2⟩:=h.fr.trn k j b af;refine⟨t1,t2,fun bq=>?_,fun bq=>?_⟩
     ·cases k with
      |loc m=>rw[pj.1 m]at bq;cases bq
      |obj m=>
       rcases DA m bq with bb|bb
       ·obtain⟨cs,ch⟩:=ei.1 (sP _ bb);obtain⟨fC,us,el,g1,_⟩:=h.good.box _ cs ch;rw[t1]at g1;cases g1
       ·exact(h.new (.obj m) ⟨trivial,bb⟩).2.2 j b af
     ·cases k with
      |loc m=>rw[pj.2 m]at bq;cases bq
      |obj m=>
       rcases b7 m bq with bb|bb
       ·obtain⟨cs,ch⟩:=ei.1 (gT _ bb);obtain⟨fC,us,g1,_⟩:=h.good.own _ cs ch;rw[t2]at g1;cases g1
       ·exact(h.new (.obj m) ⟨trivial,bb⟩).2.2 j b af
    ·obtain⟨m,hm,rfl⟩:=(ad k).2.2 j b af;obtain⟨t1,t2,_⟩:=AE m hm;exact⟨t1,t2,by simp[pj.1 m],by simp[pj.2 m]⟩
   obtain⟨t1,t2,t3,t4⟩:=key;have t5:¬(look k s.b).isSome:=fun bq=>by obtain⟨cs,ch⟩:=ei.1 (sP _ bq);obtain⟨fC,us,el,g1,_⟩:=h.good.box _ cs ch;rw[t1]at g1;cases g1
   have t6:¬(look k s.e).isSome:=fun bq=>by obtain⟨cs,ch⟩:=ei.1 (gT _ bq);obtain⟨fC,us,g1,_⟩:=h.good.own _ cs ch;rw[t2]at g1;cases g1
   exact⟨by simp[aD.join,t3,t5,t1],by simp[aD.join,t4,t6,t2]⟩
  ·
   simp only at J;obtain⟨J,RE⟩:=gd k J;have Ju:(∀j b,¬ν.tr k j b)->∀j b,¬(ν.join ν' s aj).tr k j b:=fun I j b af=>by
    rcases af with af|af
    ·exact I j b af
    ·obtain⟨m,hm,e⟩:=(ad k).2.2 j b af;exact RE m hm e
   cases k with
   |loc m=>obtain⟨ft,eM,hK⟩:=h.new (.loc m) (oh (cE _) (fun _ h=>kk _ h) J);exact⟨by simp[aD.join,iF.1 m,pj.1 m,ft],by simp[aD.join,iF.2 m,pj.2 m,eM],Ju hK⟩
   |obj m=>
    simp only[fresh,ha,not_or,true_and]at J;obtain⟨ft,eM,hK⟩:=h.new (.obj m) ⟨trivial,J.1⟩;have bJ:¬(look (.obj m) aj.b).isSome:=fun bq=>J.2 (rr (.inl bq));have cj:¬(look (.obj m) aj.e).isSome:=fun bq=>J.2 (rr (.inr bq));have de:¬(look (.obj m) s.b).isSome:=fun bq=>by obtain⟨cs,ch⟩:=ei.1 (sP _ bq);obtain⟨fC,us,el,g1,_⟩:=h.good.box _ cs ch;rw[ft]at g1;cases g1
    have du:¬(look (.obj m) s.e).isSome:=fun bq=>by obtain⟨cs,ch⟩:=ei.1 (gT _ bq);obtain⟨v',us,g1,_⟩:=h.good.own _ cs ch;rw[eM]at g1;cases g1
    exact⟨by simp[aD.join,bJ,de,ft],by simp[aD.join,cj,du,eM],Ju hK⟩
 exact k7.put aF (rC fM hr)
end
end Go.Pv
