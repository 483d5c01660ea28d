/- A call, by its contract. -/
import Derived.Deep.AppendSrc
import Derived.Laws.OwnMore
import Derived.Test.YtlnndmgfngfeiaaDoorZg1
set_option linter.all false
set_option maxHeartbeats 4000000
set_option maxRecDepth 4000
open Bool renaming and_eq_true->bD,false_eq_true->ib
open ByteArray renaming size->FE
open Go renaming Operand->gY,Program->bm,TypeId->eO
open Go.Builtin renaming append_->pF
open Go.Result renaming andThen_ok->ea
open Go.Sem renaming run_bind->dW,run_pure->eN
open Go.Value renaming cells->mO,ownBlock->la
open Go.World.grownBy renaming refl->U2
open List renaming append_assoc->pI,cons_append->eP,eq_nil_of_length_eq_zero->pK,getElem?_append_left->nI,getElem?_eq_getElem->eo,getElem?_eq_some_iff->gp,length_append->jT,length_cons->mc,length_drop->lb,length_pos_iff->pL,map_cons->ig,mem_append->hp,mem_append_left->kf,mem_append_right->iw,mem_map->lE,nil_append->fA,take_length->ld
open Nat renaming le_refl->cx
open Option renaming isSome_iff_exists->eb,isSome_none->qo,map_some->mP
open Option.some renaming injEq->dp
open Prod.mk renaming injEq->hQ
open _root_ renaming ByteArray->ic,False->cv,Option->aR,UInt8->az,beq_iff_eq->da,congrArg->eV,decide_eq_true_eq->fQ,if_neg->bh
namespace Go.Pv
section
open Go Go.RowKit
theorem bK.inPlace{C:db}{st:aM}{a:Act}{w:World}{ν:aC}(h:bK C st a w ν){k:aq}{o:cp}(J:look k st.e=some o){bl cap:Nat}{cur:Array Value}(aY:ν.ow k=some (o.n,.slice (some ⟨bl,0,none⟩) o.n cap))
  (qI:w.heap[bl]? =some (.cells cur o.el (0,0))) (p1:cap<=maxLen) (cE:cur.size=cap*o.sz) {xs ys:List ab} {us ns:List Value} (nl:xs.length=o.n) (oa:cur.toList.take (o.n*o.sz)=us) (aA:cd w ν o.sz xs us) (zx:cd w ν o.sz ys ns)
  (hC:0<ys.length) (ls:o.n+ys.length<=cap) (hf:xs.length+ys.length<=b0):
  bK C {st with e:=cu k ⟨o.n+ys.length,o.el,o.sz,none⟩ st.e} a (w.setRow bl (us++ns++cur.toList.drop (o.n*o.sz+ns.length)).toArray)
   (ν.withRowOf k (.slice (some ⟨bl,0,none⟩) (o.n+ys.length) cap) (o.n+ys.length) ((o.n+ys.length)*o.sz))/\
  aw (w.setRow bl (us++ns++cur.toList.drop (o.n*o.sz+ns.length)).toArray) (ν.withRowOf k (.slice (some ⟨bl,0,none⟩) (o.n+ys.length) cap) (o.n+ys.length) ((o.n+ys.length)*o.sz))
   (.slice o.sz (.own k) (xs++ys)) (.slice (some ⟨bl,0,none⟩) (o.n+ys.length) cap):=by
 have jN:=nz zx;have pf:=nz aA;rw[nl]at pf;have hmul:(o.n+ys.length)*o.sz<=cap*o.sz:=Nat.mul_le_mul_right _ ls;rw[Nat.add_mul]at hmul;obtain⟨v0,dP,bL,ck,dd,_⟩:=h.good.own k o J;rw[aY]at bL;cases bL;obtain⟨du,cy⟩:=dd bl rfl;generalize sx:w.setRow bl (us++ns++cur.toList.drop (o.n*o.sz+ns.length)).toArray=w';have kW:∀j,j≠bl->w'.heap[j]? =w.heap[j]?:=fun j av=>by rw[<-sx];exact setRow_other w bl j _ av
 have iD:w'.heap[bl]? =some (.cells (us++ns++cur.toList.drop (o.n*o.sz+ns.length)).toArray o.el (0,0)):=by rw[<-sx];exact setRow_heap w bl cur _ o.el _ qI
 have C9:w'.heap.size=w.heap.size:=by rw[<-sx];exact setRow_size w bl _
 have lU:∀j,j<o.n*o.sz->w'.cell? ⟨bl,j,none⟩=w.cell? ⟨bl,j,none⟩:=by intro j av;simp only[World.cell?,iD,qI,qo,ib,if_false];rw[List.getElem?_toArray,pI,nI Ω,<-oa,List.getElem?_take,if_pos av];simp
 have ag:kh w ν w' (ν.withRowOf k (.slice (some ⟨bl,0,none⟩) (o.n+ys.length) cap) (o.n+ys.length) ((o.n+ys.length)*o.sz)):=by
  refine⟨fun b j aN=>⟨.inl aN,?_⟩,fun j b _ av=>av,fun g n u _ hj=>?_,fun b j aN=>?_,fun _ _ _ _ h=>h⟩;rotate_left 2
  ·by_cases e:b=bl
   ·subst e;simp only[shape,iD,qI,List.size_toArray,jT,lb,Array.length_toList];congr 2;omega
   ·exact wg (kW b e)
  ·by_cases e:b=bl
   ·subst e;exact lU j (cy j aN)
   ·exact World.cell?_of_block (kW b e)
  ·by_cases e:g=k
   ·subst e;rw[aY]at hj;cases hj;exact⟨o.n+ys.length,.slice (some ⟨bl,0,none⟩) (o.n+ys.length) cap,by simp[aC.withRowOf],.inr Ω⟩
   ·exact⟨n,u,by simp[aC.withRowOf,e,hj],.inl ⟨rfl,rfl⟩⟩
 have j2:∀g,(look g (cu k ⟨o.n+ys.length,o.el,o.sz,none⟩ st.e)).isSome->g=k\/(g≠k/\(look g st.e).isSome/\(ν.withRowOf k (.slice (some ⟨bl,0,none⟩) (o.n+ys.length) cap) (o.n+ys.length) ((o.n+ys.length)*o.sz)).ow g=ν.ow g):=by
  intro g gb;by_cases e:g=k
  ·exact .inl e
  ·rw[hD,bh (Ne.symm e)]at gb;exact .inr ⟨e,gb,by simp[aC.withRowOf,e]⟩
 have WK:bl<w.heap.size:=(Array.getElem?_eq_some_iff.1 qI).1;have xh:∀j u,(us++ns)[j]? =some u->w'.cell? ⟨bl,j,none⟩=some u:=by intro j u av;have eR:=(gp.1 av).1;simp only[World.cell?,iD,qo,ib,if_false];rw[List.getElem?_toArray,nI eR];exact av
 refine⟨h.over ag rfl ⟨fun b j aN=>?_,fun j cn av=>?_,h.good.inj,fun g o' dS=>?_,fun g dF n n' u dn b I aa ak aJ ba cq=>?_,fun g j n u b I aa ak aJ ba=>?_,fun j=>?_,fun b af=>h.good.otr b ?_⟩
  ⟨by rw[<-sx];exact h.fr.os,by rw[<-sx];exact h.fr.tape,by rw[<-sx];exact h.fr.output,by rw[C9];exact h.fr.size,fun j av hm=>?_,fun b j aN=>?_,fun b j aN=>?_,h.fr.obj,h.fr.obn,fun m n u hm=>ym (h.fr.row m n u hm) (fun n u=>ag.ow _ n u trivial),h.fr.obr,h.fr.trd,fun k j b af=>⟨(h.fr.trb k j b af).1,by rw[C9];exact(h.fr.trb k j b af).2⟩,fun aW j b af=>?_,fun b o aN=>(ag.sh b o (h.fr.keep b o aN).1).trans (h.fr.sh b o aN),fun j n u b ai aE=>(by
   by_cases e:aq.loc j=k
   ·subst e;simp only[aC.withRowOf,if_true,dp,hQ]at ai;rw[<-ai.2]at aE;have bb:b=bl:=by simpa[la]using aE.symm
    subst bb;exact h.fr.nrow j _ _ b aY rfl
   ·simp only[aC.withRowOf,bh e]at ai;exact h.fr.nrow j n u b ai aE)⟩ (fun m hm=>?_),?_⟩
 ·rw[C9];rcases aN with aN|⟨aN,_⟩
  ·exact h.good.alt b j aN
  ·simp only[la,dp]at aN;omega
 ·obtain⟨b,a1,dL,g1,g2,g3,g4,g5⟩:=h.good.box j cn av;have b5:b≠bl:=fun e=>h.good.obx k j o.n _ bl (by simp[J]) (by simp[av]) aY rfl (by rw[<-e];exact g1);refine⟨b,a1,dL,g1,g2,fun i aN=>?_,by rw[kW b b5];exact g4,ny ag g5⟩;rcases aN with aN|⟨aN,_⟩
  ·exact g3 i aN
  ·simp only[la,dp]at aN;exact b5 aN.symm
 ·simp only at dS;rw[hD]at dS;by_cases e:k=g
  ·rw[if_pos e]at dS;cases dS;subst e;refine⟨.slice (some ⟨bl,0,none⟩) (o.n+ys.length) cap,us++ns,by simp[aC.withRowOf],⟨by rw[jT,pf,jN,Nat.add_mul],.inr ⟨bl,cap,_,rfl,Nat.zero_le _,iD,ls,p1,?_,?_⟩⟩,fun b af=>⟨?_,fun j aN=>?_⟩,fun ys bs=>by cases bs⟩
   ·simp only[List.size_toArray,jT,lb,Array.length_toList];omega
   ·have aB:(us++ns).length=(o.n+ys.length)*o.sz:=by rw[jT,pf,jN,Nat.add_mul]
    simp only[<-aB];rw[List.take_append_of_le_length (cx _),ld]
   ·simp only[la,dp]at af;subst af;exact du
   ·simp only[la,dp]at af;subst af;rcases aN with aN|⟨_,aN⟩
    ·have:=cy j aN;simp only;rw[Nat.add_mul];omega
    ·exact aN
  ·rw[bh e]at dS;obtain⟨v0,dP,ai,aE,bb,b9⟩:=h.good.own g o' dS;have b5:∀b,v0.ownBlock=some b->b≠bl:=fun b af B3=>e (h.good.oinj k g o.n o'.n _ v0 bl (by simp[J]) (by simp[dS]) aY ai rfl (by rw[<-B3];exact af));have r4:∀b,v0.ownBlock=some b->∀j,(ν.withRowOf k (.slice (some ⟨bl,0,none⟩) (o.n+ys.length) cap) (o.n+ys.length) ((o.n+ys.length)*o.sz)).A b j->ν.A b j:=fun b af j aN=>by
    rcases aN with aN|⟨aN,_⟩
    ·exact aN
    ·simp only[la,dp]at aN;exact absurd aN.symm (b5 b af)
   refine⟨v0,dP,by simp[aC.withRowOf,Ne.symm e,ai],⟨aE.1,?_⟩,fun b af=>⟨(bb b af).1,fun j aN=>(bb b af).2 j (r4 b af j aN)⟩,pA ag r4 b9⟩;rcases aE.2 with aE|⟨ha,wT,kl,f1,f2,f3,f4⟩
   ·exact .inl aE
   ·exact .inr ⟨ha,wT,kl,f1,f2,by rw[kW ha (b5 ha (by rw[f1];rfl))];exact f3,f4⟩
 ·rcases j2 g I with rfl|⟨e9,eA,hE⟩<;>rcases j2 dF aa with rfl|⟨m1,m2,m3⟩
  ·rfl
  ·exfalso;simp only[aC.withRowOf,if_true,dp,hQ]at ak;rw[m3]at aJ;rw[<-ak.2]at ba;simp only[la,dp]at ba;subst ba;exact m1 (h.good.oinj dF g n' o.n dn _ bl m2 (by simp[J]) aJ aY cq rfl)
  ·exfalso;simp only[aC.withRowOf,if_true,dp,hQ]at aJ;rw[hE]at ak;rw[<-aJ.2]at cq;simp only[la,dp]at cq;subst cq;exact e9 (h.good.oinj g dF n o.n u _ bl eA (by simp[J]) ak aY ba rfl)
  ·rw[hE]at ak;rw[m3]at aJ;exact h.good.oinj g dF n n' u dn b eA m2 ak aJ ba cq
 ·rcases j2 g I with rfl|⟨e9,eA,hE⟩
  ·simp only[aC.withRowOf,if_true,dp,hQ]at ak;rw[<-ak.2]at aJ;simp only[la,dp]at aJ;subst aJ;exact h.good.obx g j o.n _ bl (by simp[J]) aa aY rfl ba
  ·rw[hE]at ak;exact h.good.obx g j n u b eA aa ak aJ ba
 ·by_cases e:j=k
  ·subst e;rcases h.good.one j with I|I
   ·exact .inl I
   ·rw[I]at aY;cases aY
  ·rcases h.good.one j with I|I
   ·exact .inl I
   ·exact .inr (by simp[aC.withRowOf,e,I])
 ·rcases af with af|⟨g,n,u,bt,a2,a3⟩
  ·exact .inl af
  ·rcases j2 g bt with rfl|⟨e9,eA,hE⟩
   ·simp only[aC.withRowOf,if_true,dp,hQ]at a2;rw[<-a2.2]at a3;exact .inr ⟨g,_,_,by simp[J],aY,a3⟩
   ·exact .inr ⟨g,n,u,eA,by rw[<-hE];exact a2,a3⟩
 ·rw[kW j fun e=>by subst e;exact du.elim hm (fun g2=>Ω)];exact h.fr.block j av hm
 ·obtain⟨ct,cN⟩:=h.fr.keep b j aN;exact⟨.inl ct,(ag.A b j ct).2.trans cN⟩
 ·rcases aN with aN|⟨aN,_⟩
  ·exact h.fr.fresh b j aN
  ·simp only[la,dp]at aN;subst aN;exact .inr du
 ·obtain⟨t1,t2⟩:=h.fr.trn aW j b af;have b5:aW≠k:=fun e=>by subst e;rw[t2]at aY;cases aY
  exact⟨t1,by simp[aC.withRowOf,b5,t2]⟩
 ·obtain⟨ct,cN,gF⟩:=h.new m hm;refine⟨ct,?_,gF⟩;have:m≠k:=fun e=>by subst e;rw[cN]at aY;cases aY
  simp[aC.withRowOf,this,cN]
 ·simp only[aw];refine⟨⟨some ⟨bl,0,none⟩,cap,by simp[nl],by simp;omega,⟨p1,by simpa using hf⟩,.inr ⟨bl,0,us++ns,rfl,vx _ 0 fun j u av=>?_,vX (vY ag aA) (vY ag zx)⟩⟩,fun e=>(by cases e),fun g e=>?_,fun _ _ e=>(by cases e),fun _ e=>(by cases e)⟩
  ·have eR:=(gp.1 av).1;rw[Nat.zero_add];refine⟨.inr ⟨rfl,?_⟩,xh j u av⟩;rw[jT,pf,jN]at eR;rw[Nat.add_mul];exact eR
  ·cases e;exact⟨o.n+ys.length,.slice (some ⟨bl,0,none⟩) (o.n+ys.length) cap,by simp[aC.withRowOf],by simp[nl],fun _=>rfl⟩
theorem A7{P:bm}{w:World}{t ty e:eO}{i:TypeInfo}(au:P.underlying t=some (.slice e))(aD:P.info? e=some i)(b:aR Addr)(n cap:Nat)(aU:n<=cap)(x:aR Addr)(c:Nat):
  (pF #[t,t] ty #[.slice b n cap,.slice x 0 c]).run P w= .ok (.slice b n cap) w:=by
 cases b<;>cases x<;>simp[pF,run_underlying au,sizeOf,typeInfo,aD,Builtin.lenOf,aU,Builtin.firstCells,loadCells,loadCellsFrom,storeCells]
inductive cW where
 |v (d:Nat) (i:eW)
 |box (d:Nat) (key:aR Nat) (x:cl)
 |alloc (d:Nat) (key:aR Nat) (zero:ab)
 |store (sz:Nat) (x y:cl)
 |bsl (d:Nat) (sz el:Nat) (xs:List cl)
 |app (d:Nat) (sz el:Nat) (x y:cl)
 |bslm (d:Nat) (key:aR Nat) (sz el:Nat) (xs:List cl)
 |appm (d:Nat) (key:aR Nat) (sz el:Nat) (x y:cl)
 |mkmap (d:Nat) (key:aR Nat)
 |mput (bH:ih) (x k v:cl)
 |range (d:Nat) (key:aR Nat) (x:cl)
 |storeE (sz:Nat) (x y:cl)
 |mks (d:Nat) (key:aR Nat) (sz el:Nat) (z:ab) (x:cl)
 |apps (d el:Nat) (x y:cl)
def hk(st:aM):aR Nat->aq
 |none=>.loc st.n
 |some m=>.obj m
def nn(st:aM):aR Nat->Prop
 |none=>.loc st.n∉st.o
 |some m=>.obj m∉st.o
def k3(st:aM):aR Nat->Nat
 |none=>st.n+1
 |some _=>st.n
def k4(st:aM):aR Nat->List aq
 |none=>st.o
 |some m=>.obj m::st.o
theorem sF{st:aM}{key:aR Nat}(h:nn st key):fresh st.n st.o (hk st key):=by cases key<;>simp[hk,fresh,nn]at h⊢ <;>exact h
theorem sG{st:aM}{key:aR Nat}:∀j,fresh (k3 st key) (k4 st key) j->fresh st.n st.o j/\j≠hk st key:=by
 intro j av;cases key<;>cases j<;>simp[fresh,k3,k4,hk]at av⊢
 ·exact⟨⟨Ω,av.2⟩,Ω⟩
 ·exact av
 ·exact av
 ·exact⟨av.2,av.1⟩
def nT(sz:Nat):List ab->Prop
 |[]=>True
 |p::aX=>(dK p=true/\(cells p).length=sz)/\nT sz aX
def po(bH:ih)(k v:ab):List ab->aR (List ab)
 | .hdm clock borns::kvs=>if tU bH k=false then none else match q1 bH k v kvs with
  |some (some sB)=>some (.hdm clock borns::sB)
  |some none=>some (.hdm (clock+1) (borns++[clock])::(kvs++[k,v]))
  |none=>none
 |_=>none
def AS(m:aq):List ab->aR (List ab)
 | .hdm clock _::_=>some [.hdi clock [] clock,.gmap m]
 |_=>none
def kk(st:aM)(sz el:Nat)(x y:ab):aR ((aR (aq×List ab))×List ab):=
 match x,y with
 | .slice cB .nil _,.slice gJ _ ys=>if cB=sz/\gJ=sz then some (none,ys)else none
 | .row cB k n,.slice gJ _ ys=>if cB=sz/\gJ=sz then
   match look k st.e with
   |some ⟨n',dL,qg,some xs⟩=>if n'=n/\dL=el/\qg=sz then some (some (k,xs),ys)else none
   |_=>none
  else none
 |_,_=>none
def oq:ab->Nat->List ab->ab
 | .agg cn,f,cs=>.agg (l6 cn f cs)
 |_,_,[q]=>q
 |_,_,_=>.junk
def ov(st:aM)(sz:Nat)(p v:ab):aR (Prop×aM):=
 match p with
 | .rptr cB k n i f=>match look k st.e with
  |some ⟨n',el,gJ,some xs⟩=>if n'=n/\gJ=cB then
    match xs[i]? with
    |some q=>some (dK q=true/\dK v=true/\(cells v).length=sz/\f+sz<=(cells q).length/\0<sz,{st with e:=cu k ⟨n',el,gJ,some (xs.set i (oq q f (cells v)))⟩ st.e})
    |none=>none
   else none
  |_=>none
 |_=>none
def jF(s:List az):List ab:=s.map fun c=>.int .u8 c.toNat
def wN(st:aM)(d el:Nat)(x y:ab):aR (Prop×aM):=
 match x,y with
 | .row sz k n,.str s=>match look k st.e with
  |some ⟨n',dL,cB,some xs⟩=>if n'=n/\dL=el/\cB=1/\sz=1 then some (xs.length+s.length<=b0,
    {st with t:=put d (.row 1 k (xs.length+s.length)) st.t,e:=cu k ⟨xs.length+s.length,el,1,some (xs++jF s)⟩ st.e})else none
  |_=>none
 | .slice sz .nil _,.str s=>if sz=1 then some ((.obj 862∉st.o)/\s≠[]/\s.length<=b0,
   {t:=put d (.row 1 (.obj 862) s.length) st.t,b:=st.b,e:=cu (.obj 862) ⟨s.length,el,1,some (jF s)⟩ st.e,n:=st.n,o:= .obj 862::st.o})else none
 |_,_=>none
def jQ(st:aM):cW->aR (Prop×aM)
 | .mks d key sz el z x=>match bg st.t x with
  | .int _ n=>some (nn st key/\0<=n/\n<=b0,
    {t:=put d (.row sz (hk st key) n.toNat) st.t,b:=st.b,e:=cu (hk st key) ⟨n.toNat,el,sz,some (List.replicate n.toNat z)⟩ st.e,n:=k3 st key,o:=k4 st key})
  |_=>none
 | .bslm d key sz el xs=>some (nn st key/\nT sz (xs.map (bg st.t)),
   {t:=put d (.row sz (hk st key) xs.length) st.t,b:=st.b,e:=cu (hk st key) ⟨xs.length,el,sz,some (xs.map (bg st.t))⟩ st.e,n:=k3 st key,o:=k4 st key})
 | .appm d key sz el x y=>match kk st sz el (bg st.t x) (bg st.t y)with
  |some (none,ys)=>some (nn st key/\ys.length<=b0/\ys≠[],
    {t:=put d (.row sz (hk st key) ys.length) st.t,b:=st.b,e:=cu (hk st key) ⟨ys.length,el,sz,some ys⟩ st.e,n:=k3 st key,o:=k4 st key})
  |some (some (k,xs),ys)=>some (xs.length+ys.length<=b0,{st with t:=put d (.row sz k (xs.length+ys.length)) st.t,e:=cu k ⟨xs.length+ys.length,el,sz,some (xs++ys)⟩ st.e})
  |none=>none
 | .mkmap d key=>some (nn st key,{t:=put d (.gmap (hk st key)) st.t,b:=cu (hk st key) [.hdm 0 []] st.b,e:=st.e,n:=k3 st key,o:=k4 st key})
 | .mput bH x k v=>match bg st.t x with
  | .gmap m=>match look m st.b with
   |some cs=>match po bH (bg st.t k) (bg st.t v) cs with
    |some cs'=>some (True,{st with b:=cu m cs' st.b})
    |none=>none
   |none=>none
  |_=>none
 | .range d key x=>match bg st.t x with
  | .gmap m=>match look m st.b with
   |some cs=>match AS m cs with
    |some cs'=>some (nn st key,{t:=put d (.ptr (hk st key) 0) st.t,b:=cu (hk st key) cs' st.b,e:=st.e,n:=k3 st key,o:=k4 st key})
    |none=>none
   |none=>none
  |_=>none
 | .v d i=>match fs st i with
  |some (c,p)=>some (c,{st with t:=put d p st.t})
  |none=>none
 | .storeE sz x y=>ov st sz (bg st.t x) (bg st.t y)
 | .apps d el x y=>wN st d el (bg st.t x) (bg st.t y)
 | .box d key x=>some (nn st key/\dK (bg st.t x)=true,
   {t:=put d (.ptr (hk st key) 0) st.t,b:=cu (hk st key) (cells (bg st.t x)) st.b,e:=st.e,n:=k3 st key,o:=k4 st key})
 | .alloc d key z=>some (nn st key,{t:=put d (.ptr (hk st key) 0) st.t,b:=cu (hk st key) (cells z) st.b,e:=st.e,n:=k3 st key,o:=k4 st key})
 | .store sz x y=>match bg st.t x with
  | .ptr k off=>match look k st.b with
   |some cs=>some (fp cs=true/\dK (bg st.t y)=true/\(cells (bg st.t y)).length=sz/\off+sz<=cs.length,{st with b:=cu k (l6 cs off (cells (bg st.t y))) st.b})
   |none=>none
  |p=>ov st sz p (bg st.t y)
 | .bsl d sz el xs=>some (nn st none/\nT sz (xs.map (bg st.t)),
   {st with t:=put d (.slice sz (.own (.loc st.n)) (xs.map (bg st.t))) st.t,e:=cu (.loc st.n) ⟨xs.length,el,sz,none⟩ st.e,n:=st.n+1})
 | .app d sz el x y=>match bg st.t x,bg st.t y with
  | .slice cB tag xs,.slice gJ _ ys=>if cB=sz/\gJ=sz then
    match tag with
    | .own k=>match look k st.e with
     |some o=>some (o.n=xs.length/\o.el=el/\o.sz=sz/\xs.length+ys.length<=b0,
       {st with t:=put d (.slice sz (.own k) (xs++ys)) st.t,e:=cu k ⟨xs.length+ys.length,el,sz,none⟩ st.e})
     |none=>none
    | .nil=>some (nn st none/\ys.length<=b0,{st with t:=put d (.slice sz (.own (.loc st.n)) ys) st.t,e:=cu (.loc st.n) ⟨ys.length,el,sz,none⟩ st.e,n:=st.n+1})
    |_=>none
   else none
  |_,_=>none
def de(κ:aq)(n':Nat)(o':List aq)(st:aM):cW->aR (Prop×aM)
 | .mks d _ sz el z x=>match bg st.t x with
  | .int _ n=>some (0<=n/\n<=b0,
    {t:=put d (.row sz κ n.toNat) st.t,b:=st.b,e:=cu κ ⟨n.toNat,el,sz,some (List.replicate n.toNat z)⟩ st.e,n:=n',o:=o'})
  |_=>none
 | .bslm d _ sz el xs=>some (nT sz (xs.map (bg st.t)),
   {t:=put d (.row sz κ xs.length) st.t,b:=st.b,e:=cu κ ⟨xs.length,el,sz,some (xs.map (bg st.t))⟩ st.e,n:=n',o:=o'})
 | .appm d _ sz el x y=>match kk st sz el (bg st.t x) (bg st.t y)with
  |some (none,ys)=>some (ys.length<=b0/\ys≠[],
    {t:=put d (.row sz κ ys.length) st.t,b:=st.b,e:=cu κ ⟨ys.length,el,sz,some ys⟩ st.e,n:=n',o:=o'})
  |some (some (k,xs),ys)=>some (xs.length+ys.length<=b0,{st with t:=put d (.row sz k (xs.length+ys.length)) st.t,e:=cu k ⟨xs.length+ys.length,el,sz,some (xs++ys)⟩ st.e})
  |none=>none
 | .mkmap d _=>some (True,{t:=put d (.gmap κ) st.t,b:=cu κ [.hdm 0 []] st.b,e:=st.e,n:=n',o:=o'})
 | .mput bH x k v=>match bg st.t x with
  | .gmap m=>match look m st.b with
   |some cs=>match po bH (bg st.t k) (bg st.t v) cs with
    |some cs'=>some (True,{st with b:=cu m cs' st.b})
    |none=>none
   |none=>none
  |_=>none
 | .range d _ x=>match bg st.t x with
  | .gmap m=>match look m st.b with
   |some cs=>match AS m cs with
    |some cs'=>some (True,{t:=put d (.ptr κ 0) st.t,b:=cu κ cs' st.b,e:=st.e,n:=n',o:=o'})
    |none=>none
   |none=>none
  |_=>none
 | .v d i=>match fs st i with
  |some (c,p)=>some (c,{st with t:=put d p st.t})
  |none=>none
 | .storeE sz x y=>ov st sz (bg st.t x) (bg st.t y)
 | .apps d el x y=>wN st d el (bg st.t x) (bg st.t y)
 | .box d _ x=>some (dK (bg st.t x)=true,{t:=put d (.ptr κ 0) st.t,b:=cu κ (cells (bg st.t x)) st.b,e:=st.e,n:=n',o:=o'})
 | .alloc d _ z=>some (True,{t:=put d (.ptr κ 0) st.t,b:=cu κ (cells z) st.b,e:=st.e,n:=n',o:=o'})
 | .store sz x y=>match bg st.t x with
  | .ptr k off=>match look k st.b with
   |some cs=>some (fp cs=true/\dK (bg st.t y)=true/\(cells (bg st.t y)).length=sz/\off+sz<=cs.length,{st with b:=cu k (l6 cs off (cells (bg st.t y))) st.b})
   |none=>none
  |p=>ov st sz p (bg st.t y)
 | .bsl d sz el xs=>some (nT sz (xs.map (bg st.t)),
   {st with t:=put d (.slice sz (.own κ) (xs.map (bg st.t))) st.t,e:=cu κ ⟨xs.length,el,sz,none⟩ st.e,n:=n',o:=o'})
 | .app d sz el x y=>match bg st.t x,bg st.t y with
  | .slice cB tag xs,.slice gJ _ ys=>if cB=sz/\gJ=sz then
    match tag with
    | .own k=>match look k st.e with
     |some o=>some (o.n=xs.length/\o.el=el/\o.sz=sz/\xs.length+ys.length<=b0,
       {st with t:=put d (.slice sz (.own k) (xs++ys)) st.t,e:=cu k ⟨xs.length+ys.length,el,sz,none⟩ st.e})
     |none=>none
    | .nil=>some (ys.length<=b0,{st with t:=put d (.slice sz (.own κ) ys) st.t,e:=cu κ ⟨ys.length,el,sz,none⟩ st.e,n:=n',o:=o'})
    |_=>none
   else none
  |_,_=>none
def sJ:Nat->List cl->List (Nat×gY)->Bool
 |_,[],[]=>true
 |i,x::xs,(j,o)::os=>i==j&&cZ x o&&sJ (i+1) xs os
 |_,_,_=>false
def cW.bok(κ:aq):cW->Prop
 | .mkmap _ _| .range _ _ _=>κ≠ .obj 861
 | .alloc _ key _| .box _ key _=>κ= .obj 861->key=some 861
 |_=>True
theorem As{st:aM}{key:aR Nat}(h:hk st key= .obj 861):key=some 861:=by cases key<;>simp[hk]at h⊢;exact h
def ot(N:Nat)(aQ:List (Nat×cm))(i:cW)(o:Oper):Bool:=
 match i,o.op with
 | .mkmap d key,.makeMap _ none=>o.dst==some d&&decide (d<N)&&key !=some 861
 | .mput bH x k v,.mapUpdate t j7 iG l1=>o.dst==none&&(match cV aQ t with|some ⟨_,_,.map ez _,_⟩=>tV aQ bH ez|_=>false)&&cZ x j7&&cZ k iG&&cZ v l1
 | .mput bH x k v,.insert t j7 iG l1=>o.dst==none&&(match cV aQ t with|some ⟨_,_,.map ez _,_⟩=>tV aQ bH ez|_=>false)&&cZ x j7&&cZ k iG&&cZ v l1
 | .range d key x,.range t j7=>o.dst==some d&&decide (d<N)&&(match cV aQ t with|some ⟨_,_,.map _ _,_⟩=>true|_=>false)&&cZ x j7&&key !=some 861
 | .v d i,op=>o.dst==some d&&decide (d<N)&&yE aQ i op
 | .box d key x,.box el o'=>o.dst==some d&&decide (d<N)&&cZ x o'&&(key !=some 861||el==E8)
 | .alloc d key z,.alloc el=>o.dst==some d&&decide (d<N)&&(match cV aQ el with|some f=>wE z f.zero|none=>false)&&(key !=some 861||el==E8)
 | .store sz x y,.store t o' gk=>o.dst==none&&(match cV aQ t with|some f=>f.size==sz|none=>false)&&cZ x o'&&cZ y gk
 | .bsl d sz el xs,.buildSlice t len parts=>o.dst==some d&&decide (d<N)&&(match cV aQ t with|some ⟨_,_,.slice dL,_⟩=>el==dL|_=>false)&&(match cV aQ el with|some f=>f.size==sz&&decide (0<sz)|none=>false)
   &&len==xs.length&&decide (len*sz<=16777216)&&sJ 0 xs parts.toList
 | .app d sz el x y,.call ⟨.builtin .append,⟨[o',gk]⟩,⟨[t,t']⟩⟩=>o.dst==some d&&decide (d<N)&&t==t'&&(match cV aQ t with|some ⟨_,_,.slice dL,_⟩=>el==dL|_=>false)
   &&(match cV aQ el with|some f=>f.size==sz&&decide (0<sz)&&decide (f.bytes<=2048)|none=>false)&&cZ x o'&&cZ y gk
 | .bslm d _ sz el xs,.buildSlice t len parts=>o.dst==some d&&decide (d<N)&&(match cV aQ t with|some ⟨_,_,.slice dL,_⟩=>el==dL|_=>false)&&(match cV aQ el with|some f=>f.size==sz&&decide (0<sz)|none=>false)
   &&len==xs.length&&decide (len*sz<=16777216)&&sJ 0 xs parts.toList
 | .appm d _ sz el x y,.call ⟨.builtin .append,⟨[o',gk]⟩,⟨[t,t']⟩⟩=>o.dst==some d&&decide (d<N)&&t==t'&&(match cV aQ t with|some ⟨_,_,.slice dL,_⟩=>el==dL|_=>false)
   &&(match cV aQ el with|some f=>f.size==sz&&decide (0<sz)&&decide (f.bytes<=2048)|none=>false)&&cZ x o'&&cZ y gk
 | .storeE sz x y,.store t o' gk=>o.dst==none&&(match cV aQ t with|some f=>f.size==sz|none=>false)&&cZ x o'&&cZ y gk
 | .apps d el x y,.call ⟨.builtin .append,⟨[o',gk]⟩,⟨[t,t']⟩⟩=>o.dst==some d&&decide (d<N)&&(match cV aQ t with|some ⟨_,_,.slice dL,_⟩=>el==dL|_=>false)&&(match cV aQ t' with|some ⟨_,_,.str,_⟩=>true|_=>false)
   &&(match cV aQ el with|some f=>f.size==1&&decide (f.bytes<=2048)|none=>false)&&cZ x o'&&cZ y gk
 | .mks d _ sz el z x,.makeSlice t o' gk=>o.dst==some d&&decide (d<N)&&(match cV aQ t with|some ⟨_,_,.slice dL,_⟩=>el==dL|_=>false)
   &&(match cV aQ el with|some f=>f.size==sz&&decide (0<sz)&&decide (f.bytes<=2048)&&wE z f.zero|none=>false)&&cZ x o'&&cZ x gk
 |_,_=>false
theorem KZ{w:World}{ν:aC}{C:db}{st:aM}{a:Act}(hr:bK C st a w ν){sz:Nat}:
  ∀(xs:List cl) (i:Nat) (os:List (Nat×gY)) (pre:List ab) (us:Array Value) (vs:List Value),sJ i xs os=true->nT sz (xs.map (bg st.t))->us.toList.take (i*sz)=vs->cd w ν sz pre vs->i=pre.length->us.size=(i+xs.length)*sz->
  ∃a1:Array Value,Instr.fill (fun i=>some (i*sz,sz)) us (os.map fun(x:Nat×gY)=>(x.1,a.eval x.2))=some a1/\cd w ν sz (pre++xs.map (bg st.t)) a1.toList/\a1.size=us.size
 |[],i,[],pre,us,vs,_,_,aY,h,aD,ao=>by refine⟨us,by simp[Instr.fill],?_,rfl⟩;have aB:=nz h;have:us.toList.take (i*sz)=us.toList:=List.take_of_length_le (by simp at ao⊢;omega);rw[this]at aY;simpa[aY]using h
 |[],_,_::_,_,_,_,dI,_,_,_,_,_=>by simp[sJ]at dI
 |_::_,_,[],_,_,_,dI,_,_,_,_,_=>by simp[sJ]at dI
 |x::xs,i,(j,o)::os,pre,us,vs,dI,b1,aY,h,aD,ao=>by
  simp only[sJ,bD,da]at dI;obtain⟨⟨rfl,I⟩,aa⟩:=dI;simp only[ig,nT]at b1;obtain⟨⟨Da,hlen⟩,b1⟩:=b1;have ad:=c1 hr I;have lV:=ra ad Da;have r9:=mI lV;have cj:(a.eval o).cells.size=sz:=by rw[hlen]at r9;simpa using r9
  have hmul:i*sz+sz<=us.size:=by rw[ao,mc,show i+(xs.length+1)=(i+1)+xs.length from by omega,Nat.add_mul,Nat.succ_mul];omega
  have kZ:=Cl (w:=w) (ν:=ν) (a.eval o).cells.toList 0 (i*sz) us (by simp[cj];omega);have pd:cd w ν sz (pre++[bg st.t x]) (vs++(a.eval o).cells.toList):=by refine vX h ?_;simp only[cd];exact⟨a.eval o,[],Ψ,⟨ad,cj,v7 lV⟩,rfl⟩
  have qR:vs.length=i*sz:=by rw[<-aY];simp;omega
  obtain⟨a1,g1,g2,g3⟩:=KZ hr xs (i+1) os (pre++[bg st.t x]) (((a.eval o).cells.toList.zipIdx 0).foldl (fun cs (x:Value×Nat)=>cs.setIfInBounds (i*sz+x.2) x.1) us) (vs++(a.eval o).cells.toList) aa b1
   (by
    rw[kZ];simp only[Nat.add_zero];rw[aY];have:(vs++(a.eval o).cells.toList).length=(i+1)*sz:=by rw[jT,qR,Nat.succ_mul];simp[cj]
    rw[<-this,List.take_append_of_le_length (cx _),ld]) pd (by simp[aD])
   (by have bR:=eV List.length kZ;simp only[Array.length_toList,jT,List.length_take,lb,cj]at bR;rw[bR,ao,mc,show i+(xs.length+1)=i+1+xs.length from by omega];rw[ao,mc,show i+(xs.length+1)=i+1+xs.length from by omega]at hmul;omega)
  refine⟨a1,?_,by simpa using g2,?_⟩
  ·simp only[ig,Instr.fill];rw[bh (by simp[cj];omega),<-g1];congr 1;rw[<-Array.foldl_toList];simp
  ·rw[g3];have bR:=eV List.length kZ;simp only[Array.length_toList,jT,List.length_take,lb,cj]at bR;rw[bR];omega
theorem TF{P:bm}(w:World)(t b2 ty e:eO)(i:TypeInfo)(au:P.underlying t=some (.slice e))(hu:P.underlying b2=some .string)(aD:P.info? e=some i)(zp:i.size=1)
  (g uk EK:Nat) (cur:Array Value) (aL:w.heap[g]? =some (.cells cur e (0,0))) (s:ic) (ls:uk+s.size<=EK) (Qh:uk+s.size<=cur.size):
  (pF #[t,b2] ty #[.slice (some ⟨g,0,none⟩) uk EK,.string s]).run P w=
   .ok (.slice (some ⟨g,0,none⟩) (uk+s.size) EK) (w.setRow g (cur.toList.take uk++byteCells s++cur.toList.drop (uk+s.size)).toArray):=by
 have xG:=Src.ofString (P:=P) w hu s;have fE:=run_storeCells_at P g uk e (byteCells s) 0 cur w aL (by simpa[byteCells_length]using Qh) xG.one;simp only[Nat.add_zero,byteCells_length]at fE;simp[pF,run_underlying au,run_underlying hu,sizeOf,typeInfo,aD,zp,xG.len,ls,xG.cells,Addr.add_lit,fE]
theorem KW{P:bm}(w:World)(t b2 ty e:eO)(i:TypeInfo)(z:Value)(au:P.underlying t=some (.slice e))(hu:P.underlying b2=some .string)(aD:P.info? e=some i)(eZ:i.zero=some z)(zp:i.size=1)(nm:z.cells.size=1)
  (v:Value) (n:Nat) (xs:List Value) (ku:w.ownsRow 0 e 1 v n xs) (s:ic) (cap:Nat) (base:aR Addr) (aY:v= .slice base n cap) (p1:cap<n+s.size) (u6:n+s.size<=maxLen) (kR:(n+s.size)*i.bytes<=140737488355328):
  ∃v' w',(pF #[t,b2] ty #[v,.string s]).run P w= .ok v' w'/\w'.ownsRow w.heap.size e 1 v' (n+s.size) (xs++byteCells s)/\w.grownBy w' none:=by
 subst aY;have xG:=Src.ofString (P:=P) w hu s;have nl:xs.length=n:=by simpa using ku.1
 have hold:(Builtin.firstCells i.size n (.slice base n cap)).run P w.drew= .ok xs.toArray w.drew:=by
  rw[zp];rcases ku.2 with⟨ai,rfl⟩|⟨g,wT,cur,ai,WJ,aL,xx,zw,cj,xH⟩
  ·injection ai with ai aE bb;subst ai;have:xs=[]:=pK nl;subst this;exact run_firstCells_none w.drew 1 0 0 cap
  ·have kM:=ai;injection ai with ai aE bb;subst ai;refine run_firstCells_some w.drew 1 n _ n cap xs Ω fun j u av=>?_;have:=ku.cells (g:=g) rfl j u av;simpa using this
 have hr:=run_append_grow_src (P:=P) w t b2 ty e i z au aD eZ base n cap xs hold (.string s) s.size (byteCells s) (by rw[zp];exact xG) p1 (by simp only[maxLen]at u6;omega) (growslice_fits Ω kR);have j1:=grownCap_ge w (n+s.size) cap e;have zw:grownCap w (n+s.size) cap e<=maxLen:=grownCap_le_maxLen w (n+s.size) cap e u6;refine⟨_,_,hr,⟨by simp[byteCells_length,nl],.inr ⟨w.heap.size,_,_,rfl,cx _,heap_alloc_new w.drew _,j1,zw,?_,?_⟩⟩,⟨rfl,rfl,rfl,Ψ,fun k J _=>heap_alloc_old w.drew _ J⟩⟩
 ·simp only[Array.size_append,List.size_toArray,size_zeroCells,nm,jT,byteCells_length,nl];omega
 ·simp only[Array.toList_append,List.toList_toArray];rw[List.take_left' (by simp[byteCells_length,nl])]
theorem Ew(w:World)(ν:aC):∀s:List az,cd w ν 1 (jF s) (s.map fun c=>Value.int .u8 c.toNat)
 |[]=>by simp[jF,cd]
 |c::s=>by have:=Ew w ν s;simp only[jF,ig,cd]at this⊢;exact⟨.int .u8 c.toNat,_,rfl,⟨by simp[aw],rfl,by intro x ad;simp[mO]at ad;subst ad;rfl⟩,this⟩
theorem iK{P:bm}{o:Oper}{a:Act}{w w':World}{v:Value}{K:Act->World->Prop}{Q:Exit->Act->World->Prop}(h:(execOp a.eval o).run P w= .ok (.value v) w')(J:K (a.put o.dst v) w'):o.wp P a w K Q:=by unfold Oper.wp;rw[h];exact J
theorem yG{P:bm}{o:Oper}{a:Act}{w w':World}{K:Act->World->Prop}{Q:Exit->Act->World->Prop}(h:(execOp a.eval o).run P w= .ok .skip w')(J:K (a.put o.dst undef) w'):o.wp P a w K Q:=by unfold Oper.wp;rw[h];exact J
theorem yF{P:bm}{w w':World}{x:Sem Value}{v:Value}(h:x.run P w= .ok v w'):(do pure (Next.value (<-x)):Sem Next).run P w= .ok (.value v) w':=by simp[h]
theorem KX{P:bm}{aQ:List (Nat×cm)}(au:dE P aQ=true){C:db}{st:aM}{a:Act}{w:World}{ν:aC}(hr:bK C st a w ν){t el:Nat}{f g:cm}(aH:cV aQ t=some f)(J:f.kind= .slice el)(aL:cV aQ el=some g)
  {xs:List cl} {os:List (Nat×gY)} (dI:sJ 0 xs os=true) (cE:nT g.size (xs.map (bg st.t))) (hlen:xs.length*g.size<=16777216):
  ∃us:Array Value,(Instr.buildSlice t xs.length (os.map fun(x:Nat×gY)=>(x.1,a.eval x.2)).toArray).run P w= .ok (.slice (some ⟨w.heap.size,0,none⟩) xs.length xs.length) (w.alloc (.cells us el))/\
   cd w ν g.size (xs.map (bg st.t)) us.toList/\us.size=xs.length*g.size:=by
 obtain⟨d,aG,ei⟩:=gn au aH;rw[J]at ei;obtain rfl:=nY ei;obtain⟨_,ao⟩:=rn au aL w;obtain⟨z,Rn,WZ,W0⟩:=E4 au aL w;have aU:¬xs.length*g.size>2 ^ 24:=Ω
 let init:Array Value:=if xs.length*g.size=0 then(Array.range (xs.length*g.size)).map ((#[]:Array Value)[· %(#[]:Array Value).size]!)else(Array.range (xs.length*g.size)).map (z.cells[· %z.cells.size]!)
 have It:init.size=xs.length*g.size:=by simp only[init];split<;>simp
 obtain⟨a1,g1,g2,g3⟩:=KZ (a:=a) hr xs 0 os [] init [] dI cE Ψ (by simp[cd]) rfl (by rw[It];simp);refine⟨a1,?_,by simpa using g2,by rw[g3,It]⟩;simp only[init]at g1;by_cases bR:xs.length*g.size=0
 ·rw[if_pos bR]at g1;rw[bR]at g1;have PN:¬(0:Nat)>2 ^ 24:=by decide
  simp only[Instr.buildSlice,dW,run_underlying aG,ea,ao,if_false,eN,bR,if_true,PN,g1,newRow,run_newObj];rfl
 ·rw[bh bR]at g1;simp only[Instr.buildSlice,dW,run_underlying aG,ea,ao,aU,if_false,eN,bR,Rn,g1,newRow,run_newObj];rfl
theorem xZ{P:bm}{w:World}{ν:aC}{bH:ih}{t:eO}(aG:qp P bH t){k v:ab}{fN Fo:Value}(J:aw w ν k fN)(aY:aw w ν v Fo):
  ∀(borns:List Nat) (kvs:List ab) (us:List Value) (i:Nat) (r:aR (List ab)),bT w ν kvs us->kvs.length=2*borns.length->q1 bH k v kvs=some r->
  match r with
  |none=>gM P w bH t fN (eG borns us) i none
  |some sB=> ∃j u a1 e,gM P w bH t fN (eG borns us) i (some (i+j,u))/\bT w ν sB a1/\sB.length=kvs.length/\(eG borns us)[j]? =some e/\e.key=fN/\Instr.sameBits 10000 e.key fN=true/\eG borns a1=(eG borns us).modify j (fun e=>{e with key:=fN,val:=Fo})
 |[],[],us,i,r,h,_,hm=>by simp only[q1]at hm;cases hm;simp only[bT]at h;subst h;simpa[eG]using gM.nil P w bH t fN i
 |[],_::_,_,_,_,_,aB,_=>by simp at aB
 |b::dq,[],_,_,_,_,aB,_=>by simp at aB
 |b::dq,[_],_,_,_,_,aB,_=>by simp at aB;omega
 |b::dq,aW::v'::kvs,us,i,r,h,aB,hm=>by
  simp only[bT]at h;obtain⟨hY,Fg,rfl,I,hP,oB,rfl,aa,ak⟩:=h;simp only[q1]at hm;simp only[eG];cases bj:qW bH k aW with
  |none=>simp[bj]at hm
  |some ha=>
   obtain⟨s1,s2⟩:=Jp aG J I bj;simp only[bj]at hm;cases ha with
   |true=>simp only[dp]at hm;subst hm;obtain⟨rfl,EJ⟩:=s2 rfl;refine⟨0,hP,hY::Fo::oB,⟨hY,hP,b⟩,gM.hit (e:=⟨hY,hP,b⟩) s1,?_,Ψ,Ψ,rfl,EJ,by simp[eG]⟩;simp only[bT];exact⟨_,_,rfl,J,_,_,rfl,aY,ak⟩
   |false=>
    simp only at hm;have a8:=fun cr bJ=>xZ aG J aY dq kvs oB (i+1) cr ak (by simp at aB;omega) bJ;split at hm
    ·rename_i cr bJ;cases hm;obtain⟨j,u,a1,e,g1,g2,g3,g4,g5,g6,g7⟩:=a8 _ bJ;refine⟨j+1,u,hY::hP::a1,e,gM.miss (e:=⟨hY,hP,b⟩) s1 (by rw[show i+(j+1)=i+1+j from by omega];exact g1),?_,by simp[g3],by simpa using g4,g5,g6,by simp[eG,g7]⟩;simp only[bT];exact⟨_,_,rfl,I,_,_,rfl,aa,g2⟩
    ·rename_i bJ;cases hm;exact gM.miss (e:=⟨hY,hP,b⟩) s1 (a8 _ bJ)
    ·cases hm
theorem B6:∀(borns:List Nat) (us:List Value) (b:Nat) (k v:Value),us.length=2*borns.length->eG (borns++[b]) (us++[k,v])=eG borns us++[⟨k,v,b⟩]
 |[],us,b,k,v,h=>by have:us=[]:=pK (by simpa using h);subst this;simp[eG]
 |fa::dq,[],b,k,v,h=>by simp at h
 |fa::dq,[_],b,k,v,h=>by simp at h;omega
 |fa::dq,aW::v'::us,b,k,v,h=>by simp only[eP,eG,B6 dq us b k v (by simp at h;omega)]
theorem EB{w:World}{ν:aC}:∀{aX bY:List ab} {vs us:List Value},bT w ν aX vs->bT w ν bY us->bT w ν (aX++bY) (vs++us)
 |[],bY,vs,us,h,cD=>by simp only[bT]at h;subst h;simpa using cD
 |p::aX,bY,vs,us,h,cD=>by simp only[bT]at h;obtain⟨u,a1,rfl,I,aa⟩:=h;simp only[eP,bT];exact⟨u,_,rfl,I,EB aa cD⟩
theorem A1{w:World}{ν:aC}:∀{aX:List ab} {vs:List Value},bT w ν aX vs->vs.length=aX.length
 |[],vs,h=>by simp only[bT]at h;subst h;rfl
 |p::aX,vs,h=>by simp only[bT]at h;obtain⟨u,a1,rfl,_,aa⟩:=h;simp[A1 aa]
theorem yq{P:bm}{w:World}{r:Nat}{o o':Obj}(af:w.heap[r]? =some o)(aU:∀c e f,o≠ .cells c e f:=by simp):(setObj r o').run P w= .ok () {w with heap:=w.heap.setIfInBounds r o'}:=by simp only[setObj,Sem.run,af]
def cW.makes(st:aM):cW->Bool
 | .box _ _ _| .alloc _ _ _| .bsl _ _ _ _| .bslm _ _ _ _ _| .mkmap _ _| .range _ _ _| .mks _ _ _ _ _ _=>true
 | .appm _ _ _ _ x _=>match bg st.t x with
  | .slice _ .nil _=>true
  |_=>false
 | .app _ _ _ x _=>match bg st.t x with
  | .slice _ .nil _=>true
  |_=>false
 |_=>false
theorem bK.forgetRow{C:db}{st:aM}{a:Act}{w:World}{ν:aC}(hr:bK C st a w ν){k:aq}{ow:cp}(J:look k st.e=some ow):bK C {st with e:=cu k ⟨ow.n,ow.el,ow.sz,none⟩ st.e} a w ν:=by
 have fT:∀g,(look g (cu k ⟨ow.n,ow.el,ow.sz,none⟩ st.e)).isSome->(look g st.e).isSome:=fun g aL=>by
  rw[hD]at aL;split at aL
  ·rename_i e;subst e;simp[J]
  ·exact aL
 refine⟨⟨hr.good.alt,hr.good.box,hr.good.inj,fun g o aL=>?_,fun g dF n n' v v' bl bt a2=>hr.good.oinj g dF n n' v v' bl (fT g bt) (fT dF a2),fun g j n v bl bt=>hr.good.obx g j n v bl (fT g bt),hr.good.one,fun bl af=>hr.good.otr bl (af.imp id (fun⟨g,n,v,bt,a2⟩=>⟨g,n,v,fT g bt,a2⟩))⟩,hr.fr,hr.defers,hr.size,hr.slot,hr.new,hr.ext,hr.obk⟩;simp only at aL;rw[hD]at aL;split at aL
 ·rename_i e;subst e;cases aL;obtain⟨v,us,bL,ck,dd,_⟩:=hr.good.own k ow J;exact⟨v,us,bL,ck,dd,fun xs ad=>by cases ad⟩
 ·exact hr.good.own g o aL
theorem AF{w:World}{base el sz n:Nat}{v:Value}{us:List Value}(h:w.ownsRow base el sz v n us)(aU:0<n):∃b cap,v= .slice (some ⟨b,0,none⟩) n cap:=by
 rcases h.2 with⟨ai,aE⟩|⟨ha,cap,cur,f1,_⟩
 ·omega
 ·exact⟨_,_,f1⟩
theorem KK{w:World}{ν:aC}{sz:Nat}:∀{xs:List ab} {us:List Value} {i:Nat} {q jb:ab} {dn:Value},cd w ν sz xs us->xs[i]? =some q->aw w ν jb dn->dn.cells.size=sz->(∀c∈dn.cells.toList,c.oneCell'=true)->cd w ν sz (xs.set i jb) (us.take (i*sz)++dn.cells.toList++us.drop (i*sz+sz))
 |[],_,_,_,_,_,_,bj,_,_,_=>by simp at bj
 |x::xs,us,0,q,jb,dn,h,bj,hr,ao,ag=>by
  simp only[cd]at h;obtain⟨u,a1,rfl,⟨I,aa,ak⟩,ba⟩:=h;have aB:u.cells.toList.length=sz:=by simpa using aa
  simp only[List.set_cons_zero,cd];refine⟨dn,a1,?_,⟨hr,ao,ag⟩,ba⟩;simp[<-aB]
 |x::xs,us,i+1,q,jb,dn,h,bj,hr,ao,ag=>by
  simp only[cd]at h;obtain⟨u,a1,rfl,⟨I,aa,ak⟩,ba⟩:=h;have aB:u.cells.toList.length=sz:=by simpa using aa
  have a8:=KK ba (by simpa using bj) hr ao ag;simp only[List.set_cons_succ,cd];refine⟨u,_,?_,⟨I,aa,ak⟩,a8⟩;have e:(i+1)*sz+sz=u.cells.toList.length+(i*sz+sz):=by rw[aB,Nat.succ_mul];omega
  rw[Ll _ _ _ _ aB,e,<-List.drop_drop];simp
theorem TD{w:World}{ν:aC}{q:ab}{v:Value}(bj:aw w ν q v)(ao:dK q=true){cs:List ab}{us:List Value}(aA:bV w ν cs us){f:Nat}(aH:f+us.length<=v.cells.size)(b5:us≠[]):
  ∃v',aw w ν (oq q f cs) v'/\v'.cells.toList=v.cells.toList.take f++us++v.cells.toList.drop (f+us.length)/\v'.cells.size=v.cells.size/\∀c∈v'.cells.toList,c.oneCell'=true:=by
 have hlen:=mI aA;have mr:=ra bj ao;by_cases b1:∃cn,q= .agg cn
 ·obtain⟨cn,rfl⟩:=b1;simp only[aw]at bj;obtain⟨vs,rfl,fv⟩:=bj;simp only[mO]at aH⊢;have iD:bV w ν (l6 cn f cs) (vs.toList.take f++us++vs.toList.drop (f+us.length)):=by unfold l6;rw[hlen];exact ug (ug (yh f fv) aA) (vZ _ fv)
  refine⟨.agg (vs.toList.take f++us++vs.toList.drop (f+us.length)).toArray,by simp only[oq,aw];exact⟨_,rfl,by simpa using iD⟩,by simp[mO],?_,fun c lS=>?_⟩
  ·simp[mO];omega
  ·exact v7 iD c (by simpa[mO]using lS)
 ·have u9:∀cs,q≠ .agg cs:=fun cs e=>b1 ⟨cs,e⟩;obtain⟨I,aa⟩:=ED bj ao u9;rw[aa]at aH⊢;match us,b5,aA with
  |u::a1,_,aA=>
   simp at aH;obtain⟨rfl,rfl⟩:f=0/\a1=[]:=⟨Ω,List.length_eq_zero_iff.1 Ω⟩;match cs,aA,hlen with
   |[c],aA,_=>
    simp only[bV]at aA;obtain⟨nD,dP,ai,⟨P4,Ik⟩,_⟩:=aA;cases ai;have hu:u.cells= #[u]:=by cases u<;>first|rfl|cases Ik
    have C6:oq q 0 [c]=c:=by cases q<;>first|rfl|exact absurd rfl (u9 _)
    rw[C6];refine⟨u,P4,by simp[hu],by simp[hu],fun c lS=>?_⟩;rw[hu]at lS;simp at lS;subst lS;exact Ik
theorem TX{α:Type}(A us:List α)(a f sz N:Nat)(I:f+us.length<=sz)(aa:a+sz<=N)(ak:N<=A.length):
  ((A.take (a+f)++us++A.drop (a+f+us.length)).toArray.toList).take N=(A.take N).take a++((((A.take N).drop a).take sz).take f++us++(((A.take N).drop a).take sz).drop (f+us.length))++(A.take N).drop (a+sz):=by
 have ai:(A.take N).take a++(((A.take N).drop a).take sz).take f=A.take (a+f):=by rw[List.take_take (i:=f),Nat.min_eq_left (show f<=sz by omega),<-List.take_add,List.take_take,Nat.min_eq_left Ω]
 have aE:(((A.take N).drop a).take sz).drop (f+us.length)++(A.take N).drop (a+sz)=(A.take N).drop (a+f+us.length):=by
  have aB:f+us.length<=(((A.take N).drop a).take sz).length:=by simp;omega
  have rT:(A.take N).drop (a+sz)=((A.take N).drop a).drop sz:=by rw[List.drop_drop]
  rw[rT,<-List.drop_append_of_le_length aB,List.take_append_drop,List.drop_drop];congr 1;omega
 have bb:(A.take N).drop (a+f+us.length)=(A.drop (a+f+us.length)).take (N-(a+f+us.length)):=by rw[List.drop_take]
 have aB:(A.take (a+f)++us).length=a+f+us.length:=by simp;omega
 simp only[pI]at*;rw[aE,bb,<-pI (List.take a _),ai];have jZ:N=(A.take (a+f)++us).length+(N-(a+f+us.length)):=by rw[aB];omega
 rw[<-pI,<-pI];conv=>lhs;rw[jZ,List.take_length_add_append]
theorem bK.storeRow{P:bm}{C:db}{st:aM}{a:Act}{w:World}{ν:aC}(h:bK C st a w ν){k:aq}{n el sz:Nat}{xs:List ab}(J:look k st.e=some ⟨n,el,sz,some xs⟩){i f:Nat}{u:Value}(ad:aw w ν (.rptr sz k n i f) u){q:ab}(bj:xs[i]? =some q)(ao:dK q=true)
  {cs:List ab} {us:List Value} (aA:bV w ν cs us) (aH:f+us.length<=(cells q).length) (b5:us≠[]):
  ∃bl off kl,u= .pointer (some ⟨bl,off,none⟩)/\(storeCells ⟨bl,off,none⟩ us).run P w= .ok () (w.setRow bl kl)/\∃ν',bK C {st with e:=cu k ⟨n,el,sz,some (xs.set i (oq q f cs))⟩ st.e} a (w.setRow bl kl) ν':=by
 simp only[aw]at ad;obtain⟨_,aD,n',dn,I,aa,ak⟩:=ad;obtain⟨v,dP,bL,ck,dd,du⟩:=h.good.own k _ J;rw[I]at bL;simp only[dp,hQ]at bL;obtain⟨rfl,rfl⟩:=bL;obtain⟨bl,af,rfl⟩:=ak rfl;obtain⟨cy,lB,q7⟩:=du xs rfl;simp only at cy lB;obtain⟨v,eF,fy,kD⟩:=AX i lB bj;have r9:=mI (ra eF ao);have Q0:(cells q).length=sz:=by rw[<-r9];simpa using fy
 have zA:f+us.length<=sz:=by rw[<-Q0];exact aH
 have hmul:i*sz+sz<=n'*sz:=by have:=Nat.mul_le_mul_right sz (show i+1<=n' from aD);rwa[Nat.succ_mul]at this
 rcases ck.2 with⟨ai,aE⟩|⟨g,cap,cur,rfl,PV,CO,xx,zw,cj,xH⟩
 ·rw[ai]at af;simp[la]at af
 simp only[la,dp]at af;subst af;simp only at xH cj xx CO;have p1:n'*sz<=cur.size:=by rw[cj];exact Nat.mul_le_mul_right sz xx
 have fE:=run_storeCells_at P g (i*sz+f) el us 0 cur w CO Ω (v7 aA);simp only[Nat.add_zero]at fE;refine⟨g,i*sz+f,_,rfl,fE,?_⟩;generalize qI:(cur.toList.take (i*sz+f)++us++cur.toList.drop (i*sz+f+us.length)).toArray=kl;obtain⟨v',gP,gH,om,SS⟩:=TD eF ao aA (f:=f) (by rw[fy];exact zA) b5;have hV:=KK lB bj gP (by rw[om,fy]) SS;have hlen:dP.length=n'*sz:=ck.1;have QR:kl.toList.take (n'*sz)=dP.take (i*sz)++v'.cells.toList++dP.drop (i*sz+sz):=by rw[<-qI,gH,kD,<-xH];exact TX cur.toList us (i*sz) f sz (n'*sz) zA hmul (by simpa using p1)
 have P3:kl.size=cap*sz:=by rw[<-qI,<-cj];simp;omega
 have WV:(xs.set i (oq q f cs)).length=n':=by simp[cy]
 obtain⟨SU,_,_⟩:=h.setRowM (w':=w.setRow g kl) J rfl I (bl:=g) rfl (v':= .slice (some ⟨g,0,none⟩) n' cap) rfl (xs':=xs.set i (oq q f cs)) (us:=dP.take (i*sz)++v'.cells.toList++dP.drop (i*sz+sz)) (.inl ⟨by simp[cy],rfl⟩) rfl rfl rfl (fun j av=>setRow_other w g j kl av) (setRow_size w g kl)
  ⟨by rw[nz hV],.inr ⟨g,cap,kl,by simp[cy],Nat.zero_le _,setRow_heap w g cur kl el _ CO,by simpa[cy]using xx,zw,P3,by simpa[cy]using QR⟩⟩ hV
 exact⟨_,by simpa[cy]using SU⟩
theorem RY(z:Array Value)(n:Nat)(h:0<z.size):(madeCells z ((n+1)*z.size)).toList=z.toList++(madeCells z (n*z.size)).toList:=by
 apply List.ext_getElem?;intro j;rw[List.getElem?_append];have he:(n+1)*z.size=n*z.size+z.size:=by rw[Nat.add_mul,Nat.one_mul]
 simp only[madeCells,Array.getElem?_toList,Array.length_toList,Array.getElem?_map];by_cases av:j<z.size
 ·rw[if_pos av,Array.getElem?_range,if_pos Ω];simp[Nat.mod_eq_of_lt av,av]
 ·rw[bh av,Array.getElem?_range,Array.getElem?_range];by_cases J:j<n*z.size+z.size
  ·rw[if_pos Ω,if_pos Ω];simp only[mP];rw[<-Nat.mod_eq_sub_mod Ω]
  ·rw[bh Ω,bh Ω]
theorem JG{w:World}{ν:aC}{p:ab}{z:Value}(hr:aw w ν p z)(h:0<z.cells.size)(ag:∀c∈z.cells.toList,c.oneCell'=true):∀n,cd w ν z.cells.size (List.replicate n p) (madeCells z.cells (n*z.cells.size)).toList
 |0=>by simp[cd,madeCells]
 |n+1=>by rw[RY _ _ h];simp only[List.replicate_succ,cd];exact⟨z,_,rfl,⟨hr,rfl,ag⟩,JG hr h ag n⟩
theorem FX{P:bm}{aQ:List (Nat×cm)}(au:dE P aQ=true){C:db}{st st':aM}{a:Act}{w:World}{ν:aC}(hr:bK C st a w ν){d el:Nat}{x y:cl}{o:Oper}(ag:ot C.N aQ (.apps d el x y) o=true)
  {c:Prop} (he:wN st d el (bg st.t x) (bg st.t y)=some (c,st')) (aA:c) {K:Act->World->Prop} {Q:Exit->Act->World->Prop} (cb:∀bG w' ν',bK C st' bG w' ν'->K bG w'):o.wp P a w K Q:=by
 obtain⟨dst,op,type,pos,after,guard⟩:=o;generalize aD:cW.apps d el x y=i at ag;unfold ot at ag;dsimp only at ag;split at ag<;>first|(cases aD;done)|(cases ag;done)|skip
 rename_i o' gk t t';cases aD;simp only[bD,da,fQ]at ag;obtain⟨⟨⟨⟨⟨⟨I,aa⟩,aJ⟩,ao⟩,ba⟩,cq⟩,dR⟩:=ag;subst I;split at aJ
 ·rename_i dL aH;simp only[da]at aJ;subst aJ;split at ao
  ·rename_i zA;split at ba
   ·rename_i g aL;simp only[bD,da,fQ]at ba;obtain⟨ln,qF⟩:=ba;have rx:=c1 hr cq;have hO:=c1 hr dR;have il:∀v' w',(pF #[t,t'] type #[a.eval o',a.eval gk]).run P w= .ok v' w'->(execOp a.eval ⟨some d,.call ⟨.builtin .append,⟨[o',gk]⟩,⟨[t,t']⟩⟩,type,pos,after,guard⟩).run P w= .ok (.value v') w':=by intro v' w' fu;simp only[execOp,resolve,invoke,builtin,dW,eN,ea,List.map_toArray,ig,List.map_nil];rw[fu];rfl
    obtain⟨dx,ik,z,ai,aE,bb,b9,ft,dz,n2,lO⟩:=(ql au aL).ex;obtain⟨cn,fJ,ei⟩:=gn au aH;obtain rfl:=nY ei;obtain⟨bN,kS,Qe⟩:=gn au zA;obtain rfl:=rQ Qe;have nm:z.cells.size=1:=by rw[lO,ln]
    have se:dx.size=1:=by rw[bb,ln]
    unfold wN at he;split at he
    ·rename_i sz k n s ad bs;split at he
     ·rename_i n' dL cB xs J;split at he
      ·rename_i iA;obtain⟨rfl,rfl,rfl,rfl⟩:=iA;cases he;rw[ad]at rx;rw[bs]at hO;simp only[aw]at rx hO;obtain⟨⟨bx,nX,nF⟩,rxl,n0,nD,eF,fy,kD⟩:=rx;obtain⟨oC,Q3⟩:=hO;obtain⟨v0,dP,bL,ck,dd,du⟩:=hr.good.own k _ J;rw[eF]at bL;simp only[dp,hQ]at bL ck;obtain⟨rfl,rfl⟩:=bL;have kv:a.eval o'=nD:=kD rfl;obtain⟨cy,lB,q7⟩:=du xs rfl;simp only at cy lB;have dT:(⟨s.toArray⟩:ic).size=s.length:=by simp[FE]
       have xh:byteCells ⟨s.toArray⟩=s.map fun c=>Value.int .u8 c.toNat:=by simp[byteCells]
       have p4:dP.length=xs.length:=by rw[cy];simpa using ck.1
       have qH:cd w ν 1 (xs++jF s) (dP++byteCells ⟨s.toArray⟩):=by rw[xh];exact vX lB (Ew w ν s)
       have eJ:(jF s).length=s.length:=by simp[jF]
       have kR:(xs.length+s.length)*dx.bytes<=140737488355328:=by
        have qD:dx.bytes<=2048:=by rw[b9];exact qF
        have lR:(xs.length+s.length)*dx.bytes<=(xs.length+s.length)*2048:=Nat.mul_le_mul_left _ qD;simp only[b0]at aA;omega
       have hz:xs.length+s.length<=maxLen:=by simp only[b0]at aA;simp only[maxLen];omega
       rw[oC,kv]at il;have tG:∀(base:aR Addr) (cap:Nat),nD= .slice base xs.length cap->n0<=cap->cap<xs.length+s.length->(⟨some d,.call ⟨.builtin .append,⟨[o',gk]⟩,⟨[t,t']⟩⟩,type,pos,after,guard⟩:Oper).wp P a w K Q:=by
        intro base cap hu xx p1;obtain⟨v',w',f1,f2,f3⟩:=KW (P:=P) w t t' type dL dx z fJ kS ai dz se nm nD xs.length dP (by rw[cy];exact ck) ⟨s.toArray⟩ cap base hu (by rw[dT];exact p1) (by rw[dT];exact hz) (by rw[dT];exact kR);rw[dT]at f2;obtain⟨gP,gH⟩:=hr.newRowM (k:=k) (xs:=xs++jF s) (el:=dL) (sz:=1) (.inr ⟨_,J,by simp[eJ];omega⟩) f3 (by rw[jT,eJ];exact f2) qH (by rw[jT,eJ];exact aA) (n':=st.n) (o':=st.o)
         (fun j av=>⟨av,fun e=>by subst e;have:=(hr.new _ av).2.1;rw[eF]at this;cases this⟩)
        refine iK (il _ _ f1) (cb _ _ (ν.withOwn k (xs++jF s).length v') ?_);have:=gP.put (d:=some d) (by simpa[fZ]using aa) (gH (by rw[jT,eJ];exact AF f2 Ω));simpa[eB,eJ]using this
       rcases ck.2 with⟨h8,q4⟩|⟨bl,cap,cur,h8,q4,q5,ya,yb,AK,vQ⟩
       ·rw[<-kv,nF]at h8;cases h8
       ·have hW:nD.ownBlock=some bl:=by rw[h8];rfl
        by_cases ls:xs.length+s.length<=cap
        ·have f1:=TF (P:=P) w t t' type dL dx fJ kS ai se bl xs.length cap cur q5 ⟨s.toArray⟩ (by rw[dT];exact ls) (by rw[dT];omega);rw[dT]at f1;generalize xN:(cur.toList.take xs.length++byteCells ⟨s.toArray⟩++cur.toList.drop (xs.length+s.length)).toArray=jx at f1;have iD:(w.setRow bl jx).heap[bl]? =some (.cells jx dL (0,0)):=setRow_heap w bl cur jx dL _ q5;have sg:(byteCells ⟨s.toArray⟩).length=s.length:=by rw[byteCells_length,dT]
         have aB:(dP++byteCells ⟨s.toArray⟩).length=(xs++jF s).length*1:=by rw[jT,p4,sg,jT,eJ,Nat.mul_one]
         have ba:cur.toList.take xs.length=dP:=by rw[cy];simpa using vQ
         have gh:jx.size=cap*1:=by rw[<-xN];simp only[List.size_toArray,jT,List.length_take,lb,Array.length_toList,sg];omega
         have n9:jx.toList.take ((xs++jF s).length*1)=dP++byteCells ⟨s.toArray⟩:=by rw[<-xN,ba,<-aB];exact List.take_left
         obtain⟨gP,_,gH⟩:=hr.setRowM (w':=w.setRow bl jx) J rfl eF hW (v':= .slice (some ⟨bl,0,none⟩) (xs.length+s.length) cap) rfl (xs':=xs++jF s) (us:=dP++byteCells ⟨s.toArray⟩)
          (by
           by_cases bR:s=[]
           ·subst bR;exact .inl ⟨by simp[jF,cy],by rw[h8];simp[cy]⟩
           ·exact .inr (by have:=pL.2 bR;simp[eJ];omega)) rfl rfl rfl (fun j av=>setRow_other w bl j jx av) (setRow_size w bl jx)
          ⟨aB,.inr ⟨bl,cap,jx,by simp[eJ],Nat.zero_le _,iD,by simpa[eJ]using ls,yb,gh,n9⟩⟩ qH
         replace gH:=gH (by simpa[eJ]using aA);refine iK (v:= .slice (some ⟨bl,0,none⟩) (xs.length+s.length) cap) (w':=w.setRow bl jx) (il _ _ ?_) (cb _ _ (ν.withOwn k (xs++jF s).length (.slice (some ⟨bl,0,none⟩) (xs.length+s.length) cap)) ?_)
         ·rw[h8,<-cy];exact f1
         ·have:=gP.put (d:=some d) (by simpa[fZ]using aa) gH;simpa[eB,eJ]using this
        ·exact tG _ cap (by rw[h8,<-cy]) ya Ω
      ·cases he
     ·cases he
    ·rename_i sz xs s ad bs;split at he
     ·rename_i cE;obtain rfl:=cE;cases he;obtain⟨lT,mu,n5⟩:=aA;rw[ad]at rx;rw[bs]at hO;simp only[aw]at rx hO;have kv:=rx.2.1 trivial;obtain⟨oC,Q3⟩:=hO;have dT:(⟨s.toArray⟩:ic).size=s.length:=by simp[FE]
      have xh:byteCells ⟨s.toArray⟩=s.map fun c=>Value.int .u8 c.toNat:=by simp[byteCells]
      have qH:cd w ν 1 (jF s) (byteCells ⟨s.toArray⟩):=by rw[xh];exact Ew w ν s
      have eJ:(jF s).length=s.length:=by simp[jF]
      have hC:0<s.length:=pL.2 mu;have kR:(0+s.length)*dx.bytes<=140737488355328:=by
       have qD:dx.bytes<=2048:=by rw[b9];exact qF
       have lR:(0+s.length)*dx.bytes<=(0+s.length)*2048:=Nat.mul_le_mul_left _ qD;simp only[b0]at n5;omega
      have hz:0+s.length<=maxLen:=by simp only[b0]at n5;simp only[maxLen];omega
      rw[oC,kv]at il;obtain⟨v',w',f1,f2,f3⟩:=KW (P:=P) w t t' type el dx z fJ kS ai dz se nm (.slice none 0 0) 0 [] ⟨rfl,.inl ⟨rfl,rfl⟩⟩ ⟨s.toArray⟩ 0 none rfl (by rw[dT];omega) (by rw[dT];exact hz) (by rw[dT];exact kR);rw[dT,Nat.zero_add,fA]at f2;have ks:fresh st.n st.o (.obj 862):=⟨trivial,lT⟩;obtain⟨gP,gH⟩:=hr.newRowM (k:= .obj 862) (xs:=jF s) (el:=el) (sz:=1) (.inl (hr.new _ ks)) f3 (by rw[eJ];exact f2) qH (by rw[eJ];exact n5) (n':=st.n) (o':= .obj 862::st.o)
       (fun j av=>⟨⟨av.1,fun h=>av.2 (List.mem_cons_of_mem _ h)⟩,fun e=>by subst e;exact av.2 Ψ⟩)
      refine iK (il _ _ f1) (cb _ _ (ν.withOwn (.obj 862) (jF s).length v') ?_);have:=gP.put (d:=some d) (by simpa[fZ]using aa) (gH (by rw[eJ];exact AF f2 hC));simpa[eB,eJ]using this
     ·cases he
    ·cases he
   ·cases ba
  ·cases ao
 ·cases aJ
theorem hn{P:bm}{aQ:List (Nat×cm)}(au:dE P aQ=true){C:db}{st st':aM}{a:Act}{w:World}{ν:aC}(hr:bK C st a w ν){i:cW}{o:Oper}(ag:ot C.N aQ i o=true)
  {κ:aq} {n':Nat} {o₁:List aq} (qL:i.makes st=true->fresh st.n st.o κ) (gd:i.makes st=true->∀j,fresh n' o₁ j->fresh st.n st.o j/\j≠κ) {c:Prop} (he:de κ n' o₁ st i=some (c,st')) (aA:c) {K:Act->World->Prop} {Q:Exit->Act->World->Prop} (cb:∀bG w' ν',bK C st' bG w' ν'->K bG w') (hB:i.bok κ:=by first|trivial|(intro h;cases h)):o.wp P a w K Q:=by
 obtain⟨dst,op,type,pos,after,guard⟩:=o;unfold ot at ag;dsimp only at ag;split at ag
 ·rename_i d key t;simp only[bD,da,fQ]at ag;obtain⟨⟨rfl,aa⟩,_⟩:=ag;simp only[de]at he;cases he;obtain⟨g1,g2⟩:=hr.newBox (hr.new _ (qL rfl)) (gd rfl) (cs:=[.hdm 0 []]) (us:= #[]) ⟨0,fun e=>absurd e hB⟩ (by simp only[gI];exact⟨by simp[bT],⟨rfl,Ψ,Ψ⟩⟩);refine iK (v:= .map (some w.heap.size)) (w':=w.alloc (.map #[] 0)) ?_ (cb _ _ _ (g1.put (d:=some d) (by simpa[fZ]using aa) (p:= .gmap κ) ?_))
  ·simp only[execOp,Instr.makeMap,Option.map_none,dW,run_newObj,ea,eN];rfl
  ·simp[aw,aC.withBox]
 ·rename_i bH x k v t j7 iG l1;simp only[bD,da]at ag;obtain⟨⟨⟨⟨rfl,I⟩,aa⟩,ak⟩,aJ⟩:=ag;have rx:=c1 hr aa;have re:=c1 hr ak;have nA:=c1 hr aJ;split at I
  ·rename_i sz jg ez mm z aH;obtain⟨e7,hu,ei⟩:=gn au aH;have fD:e7= .map ez mm:=by cases e7<;>simp[jH]at ei;obtain⟨rfl,rfl⟩:=ei;rfl
   subst fD;have j0:=DE au I;simp only[de]at he;split at he
   ·rename_i m ad;rw[ad]at rx;simp only[aw]at rx;obtain⟨bl,bO,bU⟩:=rx;split at he
    ·rename_i cs cj;split at he
     ·rename_i cs' hm;cases he;obtain⟨fB,us,el,bL,ck,dd,du,cy⟩:=hr.good.box m cs cj;rw[bO]at bL;cases bL;unfold po at hm;split at hm
      ·rename_i clock borns kvs;split at hm
       ·cases hm
       rename_i fK;simp only[hl]at du;simp only[gI]at cy;have kU:=ri (P:=P) du;have r8:=EH (P:=P) (w:=w) j0 false re (by simpa using fK);have b4:bl<w.heap.size:=(Array.getElem?_eq_some_iff.1 du).1;have kT:∀(o':Obj) (a1:Array Value) (cn:List ab),(Instr.mapUpdate t (a.eval j7) (a.eval iG) (a.eval l1)).run P w= .ok () {w with heap:=w.heap.setIfInBounds bl o'}->hl cn a1 el.1=o'->gI w ν cn a1.toList->some cn=some cs'->
         (⟨none,.mapUpdate t j7 iG l1,type,pos,after,guard⟩:Oper).wp P a w K Q:=by
        intro o' a1 cn fu vf hV fJ;cases fJ;refine yG (w':={w with heap:=w.heap.setIfInBounds bl o'}) ?_ (cb _ _ _ (hr.setBox (w':={w with heap:=w.heap.setIfInBounds bl o'}) cj bO (us:=a1) (el:=el) rfl rfl rfl (fun j av=>?_) Ψ ?_ hV).1)
        ·simp only[execOp,fu,dW,ea,eN]
        ·exact Array.getElem?_setIfInBounds_ne (Ne.symm av)
        ·rw[vf];simp[b4]
       split at hm
       ·rename_i sB tL;obtain⟨j,u,a1,e,f1,f2,f3,f4,f5,f6,f7⟩:=xZ j0 re nA borns kvs us.toList 0 _ cy.1 cy.2.len tL;refine kT (.map (eG borns a1).toArray clock) a1.toArray (.hdm clock borns::sB) ?_ (by simp[hl]) (by simp only[gI];exact⟨by simpa using f2,⟨by rw[f3];exact cy.2.len,cy.2.inc,cy.2.lt⟩⟩) hm;have Db:(Instr.keyThatStays (((eG borns us.toList).toArray[j]?.map (·.key)).getD (a.eval iG)) (a.eval iG)).run P w= .ok (a.eval iG) w:=by
         have:((eG borns us.toList).toArray[j]?.map (·.key)).getD (a.eval iG)=e.key:=by simp[f4]
         rw[this];simp[Instr.keyThatStays,f6]
        simp only[Nat.zero_add]at f1;simp only[Instr.mapUpdate,dW,run_underlying hu,ea,bU,kU,r8,f1.run j0,eN,Db,yq du];rw[f7];simp
       ·rename_i tL;have f1:=xZ j0 re nA borns kvs us.toList 0 _ cy.1 cy.2.len tL;simp only at f1;have pf:us.toList.length=2*borns.length:=by rw[A1 cy.1,cy.2.len]
        refine kT (.map ((eG borns us.toList).toArray.push ⟨a.eval iG,a.eval l1,clock⟩) (clock+1)) (us.toList++[a.eval iG,a.eval l1]).toArray (.hdm (clock+1) (borns++[clock])::(kvs++[bg st.t k,bg st.t v])) ?_ (by simp only[hl,B6 borns us.toList clock _ _ pf];simp) ?_ hm
        ·simp only[Instr.mapUpdate,dW,run_underlying hu,ea,bU,kU,r8,f1.run j0,eN,yq du]
        ·simp only[gI];refine⟨EB cy.1 (by simp only[bT];exact⟨_,_,rfl,re,_,_,rfl,nA,rfl⟩),⟨by simp[cy.2.len];omega,?_,?_⟩⟩
         ·rw[List.pairwise_append];exact⟨cy.2.inc,Ψ,fun x ad y bs=>by simp at bs;subst bs;exact cy.2.lt x ad⟩
         ·intro b af;rcases hp.1 af with af|af
          ·have:=cy.2.lt b af;omega
          ·simp at af;omega
       ·cases hm
      ·cases hm
     ·cases he
    ·cases he
   ·cases he
  ·cases I
 ·rename_i bH x k v t j7 iG l1;simp only[bD,da]at ag;obtain⟨⟨⟨⟨rfl,I⟩,aa⟩,ak⟩,aJ⟩:=ag;have rx:=c1 hr aa;have re:=c1 hr ak;have nA:=c1 hr aJ;split at I
  ·rename_i sz jg ez mm z aH;obtain⟨e7,hu,ei⟩:=gn au aH;have fD:e7= .map ez mm:=by cases e7<;>simp[jH]at ei;obtain⟨rfl,rfl⟩:=ei;rfl
   subst fD;have j0:=DE au I;simp only[de]at he;split at he
   ·rename_i m ad;rw[ad]at rx;simp only[aw]at rx;obtain⟨bl,bO,bU⟩:=rx;split at he
    ·rename_i cs cj;split at he
     ·rename_i cs' hm;cases he;obtain⟨fB,us,el,bL,ck,dd,du,cy⟩:=hr.good.box m cs cj;rw[bO]at bL;cases bL;unfold po at hm;split at hm
      ·rename_i clock borns kvs;split at hm
       ·cases hm
       rename_i fK;simp only[hl]at du;simp only[gI]at cy;have kU:=ri (P:=P) du;have r8:=EH (P:=P) (w:=w) j0 false re (by simpa using fK);have b4:bl<w.heap.size:=(Array.getElem?_eq_some_iff.1 du).1;have kT:∀(o':Obj) (a1:Array Value) (cn:List ab),(Instr.mapUpdate t (a.eval j7) (a.eval iG) (a.eval l1)).run P w= .ok () {w with heap:=w.heap.setIfInBounds bl o'}->hl cn a1 el.1=o'->gI w ν cn a1.toList->some cn=some cs'->
         (⟨none,.mapUpdate t j7 iG l1,type,pos,after,guard⟩:Oper).wp P a w K Q:=by
        intro o' a1 cn fu vf hV fJ;cases fJ;refine yG (w':={w with heap:=w.heap.setIfInBounds bl o'}) ?_ (cb _ _ _ (hr.setBox (w':={w with heap:=w.heap.setIfInBounds bl o'}) cj bO (us:=a1) (el:=el) rfl rfl rfl (fun j av=>?_) Ψ ?_ hV).1)
        ·simp only[execOp,fu,dW,ea,eN]
        ·exact Array.getElem?_setIfInBounds_ne (Ne.symm av)
        ·rw[vf];simp[b4]
       split at hm
       ·rename_i sB tL;obtain⟨j,u,a1,e,f1,f2,f3,f4,f5,f6,f7⟩:=xZ j0 re nA borns kvs us.toList 0 _ cy.1 cy.2.len tL;refine kT (.map (eG borns a1).toArray clock) a1.toArray (.hdm clock borns::sB) ?_ (by simp[hl]) (by simp only[gI];exact⟨by simpa using f2,⟨by rw[f3];exact cy.2.len,cy.2.inc,cy.2.lt⟩⟩) hm;have Db:(Instr.keyThatStays (((eG borns us.toList).toArray[j]?.map (·.key)).getD (a.eval iG)) (a.eval iG)).run P w= .ok (a.eval iG) w:=by
         have:((eG borns us.toList).toArray[j]?.map (·.key)).getD (a.eval iG)=e.key:=by simp[f4]
         rw[this];simp[Instr.keyThatStays,f6]
        simp only[Nat.zero_add]at f1;simp only[Instr.mapUpdate,dW,run_underlying hu,ea,bU,kU,r8,f1.run j0,eN,Db,yq du];rw[f7];simp
       ·rename_i tL;have f1:=xZ j0 re nA borns kvs us.toList 0 _ cy.1 cy.2.len tL;simp only at f1;have pf:us.toList.length=2*borns.length:=by rw[A1 cy.1,cy.2.len]
        refine kT (.map ((eG borns us.toList).toArray.push ⟨a.eval iG,a.eval l1,clock⟩) (clock+1)) (us.toList++[a.eval iG,a.eval l1]).toArray (.hdm (clock+1) (borns++[clock])::(kvs++[bg st.t k,bg st.t v])) ?_ (by simp only[hl,B6 borns us.toList clock _ _ pf];simp) ?_ hm
        ·simp only[Instr.mapUpdate,dW,run_underlying hu,ea,bU,kU,r8,f1.run j0,eN,yq du]
        ·simp only[gI];refine⟨EB cy.1 (by simp only[bT];exact⟨_,_,rfl,re,_,_,rfl,nA,rfl⟩),⟨by simp[cy.2.len];omega,?_,?_⟩⟩
         ·rw[List.pairwise_append];exact⟨cy.2.inc,Ψ,fun x ad y bs=>by simp at bs;subst bs;exact cy.2.lt x ad⟩
         ·intro b af;rcases hp.1 af with af|af
          ·have:=cy.2.lt b af;omega
          ·simp at af;omega
       ·cases hm
      ·cases hm
     ·cases he
    ·cases he
   ·cases he
  ·cases I
 ·rename_i d key x t j7;simp only[bD,da,fQ]at ag;obtain⟨⟨⟨⟨rfl,aa⟩,I⟩,ak⟩,_⟩:=ag;have rx:=c1 hr ak;split at I
  ·rename_i sz jg ez mm z aH;obtain⟨e7,hu,ei⟩:=gn au aH;have fD:e7= .map ez mm:=by cases e7<;>simp[jH]at ei;obtain⟨rfl,rfl⟩:=ei;rfl
   subst fD;simp only[de]at he;split at he
   ·rename_i m ad;rw[ad]at rx;have TI:=rx;simp only[aw]at rx;obtain⟨bl,bO,bU⟩:=rx;split at he
    ·rename_i cs cj;split at he
     ·rename_i cs' hm;cases he;obtain⟨fB,us,el,bL,ck,dd,du,cy⟩:=hr.good.box m cs cj;rw[bO]at bL;cases bL;unfold AS at hm;split at hm
      ·rename_i clock borns kvs;cases hm;simp only[hl]at du;have kU:=ri (P:=P) du;obtain⟨g1,g2⟩:=hr.newBox (hr.new _ (qL rfl)) (gd rfl) (cs:=[.hdi clock [] clock,.gmap m]) (us:= #[a.eval j7]) ⟨0,fun e=>absurd e hB⟩ (by simp only[gI,bT];exact⟨_,_,rfl,TI,rfl⟩);have vf:hl [.hdi clock [] clock,.gmap m] #[a.eval j7] 0= .mapIter (some bl) clock #[] clock:=by simp[hl,bU]
       rw[vf]at g1 g2;refine iK (v:= .pointer (some ⟨w.heap.size,0,none⟩)) (w':=w.alloc (.mapIter (some bl) clock #[] clock)) ?_ (cb _ _ _ (g1.put (d:=some d) (by simpa[fZ]using aa) (p:= .ptr κ 0) g2))
       ·simp only[execOp];refine yF ?_;simp only[Instr.range,dW,run_underlying hu,ea,bU,kU,eN,run_newObj];rfl
      ·cases hm
     ·cases he
    ·cases he
   ·cases he
  ·cases I
 ·rename_i d YJ;simp only[bD,da,fQ]at ag;obtain⟨⟨I,aa⟩,ak⟩:=ag;subst I;simp only[de]at he;split at he
  ·rename_i fX p aY;cases he;obtain⟨v,g1,g2⟩:=Uj (o:=⟨some d,op,type,pos,after,guard⟩) au hr ak aY aA;refine iK g1 (cb _ _ ν ?_);exact hr.put (d:=some d) (by simpa[fZ]using aa) g2
  ·cases he
 ·rename_i d key x el o';simp only[bD,da,fQ]at ag;obtain⟨⟨⟨I,aa⟩,ak⟩,j4⟩:=ag;subst I;simp only[de]at he;cases he;have ad:=c1 hr ak;have lV:=ra ad aA;obtain⟨g1,g2⟩:=hr.newBox (hr.new _ (qL rfl)) (gd rfl) ⟨el,fun e=>by have:=hB e;subst this;simpa using j4⟩ (by rw[k7 (qc lV)];exact lV);rw[lA (qc lV)]at g1 g2;refine iK (v:= .pointer (some ⟨w.heap.size,0,none⟩)) (w':=w.alloc (.cells (a.eval o').cells el)) ?_ (cb _ _ _ (g1.put (d:=some d) (by simpa[fZ]using aa) (p:= .ptr κ 0) ?_))
  ·simp only[execOp,Instr.box,newVar,newRow,dW,run_newObj,ea,eN];rfl
  ·simpa only[aw]using g2
 ·rename_i d key z el;simp only[bD,da,fQ]at ag;obtain⟨⟨⟨I,aa⟩,ak⟩,j4⟩:=ag;subst I;simp only[de]at he;cases he;split at ak
  ·rename_i f aH;have eZ:=FB ak;obtain⟨a7,Fw,z2,z3⟩:=E4 au aH w;rw[<-eZ]at z2;obtain⟨_,lV⟩:=FA w ν z2;obtain⟨g1,g2⟩:=hr.newBox (hr.new _ (qL rfl)) (gd rfl) ⟨el,fun e=>by have:=hB e;subst this;simpa using j4⟩ (by rw[k7 (qc lV)];exact lV);rw[lA (qc lV)]at g1 g2;refine iK (v:= .pointer (some ⟨w.heap.size,0,none⟩)) (w':=w.alloc (.cells a7.cells el)) ?_ (cb _ _ _ (g1.put (d:=some d) (by simpa[fZ]using aa) (p:= .ptr κ 0) ?_))
   ·simp only[execOp,Instr.alloc,newVar,newRow,dW,Fw,run_newObj,ea,eN];rfl
   ·simpa only[aw]using g2
  ·cases ak
 ·rename_i sz x y t o' gk;simp only[bD,da]at ag;obtain⟨⟨⟨I,aa⟩,ak⟩,aJ⟩:=ag;subst I;split at aa
  ·rename_i f aH;simp only[da]at aa;simp only[de]at he;split at he
   ·rename_i k off ad;split at he
    ·rename_i cs cj;cases he;obtain⟨c0,cJ,c2,c3⟩:=aA;have rx:=c1 hr ak;rw[ad]at rx;simp only[aw]at rx;obtain⟨bl,bO,bU⟩:=rx;have hO:=c1 hr aJ;have q8:=ra hO cJ;have rf:=mI q8;obtain⟨fB,us,el,bL,ck,dd,du,cy⟩:=hr.good.box k cs cj;rw[bO]at bL;cases bL;rw[lA c0]at du;rw[k7 c0]at cy;have bB:=mI cy;obtain⟨_,cE⟩:=rn au aH w;have qS:(a.eval gk).cells.size=sz:=by rw[c2]at rf;simpa using rf
     have fE:=run_storeCells_at (P:=P) bl off el.1 (a.eval gk).cells.toList 0 us w du (by simp at bB⊢;omega) (v7 q8);simp only[Nat.add_zero]at fE;refine yG (w':=w.setRow bl (us.toList.take off++(a.eval gk).cells.toList++us.toList.drop (off+(a.eval gk).cells.toList.length)).toArray) ?_ (cb _ _ _ (hr.storeBox cj bO c0 ?_))
     ·simp only[execOp,Instr.storeAt,bU,Instr.sureAddr,storeVar,dW,eN,ea,cE,qS,aa,ne_eq,not_true_eq_false,if_false,fE]
     ·simp only[l6];rw[rf];exact ug (ug (yh off cy) q8) (vZ _ cy)
    ·cases he
   ·rename_i ad;generalize C2:bg st.t x=px at he;unfold ov at he;split at he
    ·rename_i cB k n i tx;split at he
     ·rename_i n' el gJ xs J;split at he
      ·rename_i tO;obtain⟨rfl,rfl⟩:=tO;split at he
       ·rename_i q bj;cases he;obtain⟨c0,cJ,c2,c3,c4⟩:=aA;have rx:=c1 hr ak;rw[C2]at rx;have hO:=c1 hr aJ;have q8:=ra hO cJ;have rf:=mI q8;obtain⟨_,cE⟩:=rn au aH w;have qS:(a.eval gk).cells.size=sz:=by rw[c2]at rf;simpa using rf
        obtain⟨bl,off,kl,xB,fE,ν',kX⟩:=hr.storeRow (P:=P) J rx bj c0 q8 (by simpa[qS]using c3) (fun e=>by have:=eV List.length e;simp[qS]at this;omega);refine yG (w':=w.setRow bl kl) ?_ (cb _ _ _ kX);simp only[execOp,Instr.storeAt,xB,Instr.sureAddr,storeVar,dW,eN,ea,cE,qS,aa,ne_eq,not_true_eq_false,if_false,fE]
       ·cases he
      ·cases he
     ·cases he
    ·cases he
  ·cases aa
 ·rename_i d sz el xs t len parts;simp only[bD,da,fQ]at ag;obtain⟨⟨⟨⟨⟨⟨I,aa⟩,ak⟩,aJ⟩,ba⟩,cq⟩,dR⟩:=ag;subst I;subst ba;split at ak
  ·rename_i dL aH;simp only[da]at ak;subst ak;split at aJ
   ·rename_i g aL;simp only[bD,da,fQ]at aJ;obtain⟨rfl,hC⟩:=aJ;simp only[de]at he;cases he;obtain⟨us,g1,g2,g3⟩:=KX au hr aH rfl aL dR aA cq;have ku:(w.alloc (.cells us el)).ownsRow w.heap.size el g.size (.slice (some ⟨w.heap.size,0,none⟩) xs.length xs.length) (xs.map (bg st.t)).length us.toList:=by
     refine⟨by simp[g3],.inr ⟨w.heap.size,xs.length,us,Ψ,cx _,heap_alloc_new w _,Ψ,?_,g3,?_⟩⟩
     ·simp only[maxLen];have:xs.length<=xs.length*g.size:=Nat.le_mul_of_pos_right _ hC;omega
     ·rw[List.take_of_length_le];simp[g3]
    obtain⟨eF,fy⟩:=hr.newRow (k:=κ) (xs:=xs.map (bg st.t)) (.inl (hr.new _ (qL rfl))) (World.grownBy_alloc w _ none) ku g2
     (by have:xs.length<=xs.length*g.size:=Nat.le_mul_of_pos_right _ hC;simp only[b0,List.length_map];omega) (gd rfl)
    simp only[List.length_map]at eF fy;refine iK (v:= .slice (some ⟨w.heap.size,0,none⟩) xs.length xs.length) (w':=w.alloc (.cells us el)) ?_ (cb _ _ _ (eF.put (d:=some d) (by simpa[fZ]using aa) (p:= .slice g.size (.own κ) (xs.map (bg st.t))) fy));have aV:(parts.map fun(x:Nat×gY)=>(x.1,a.eval x.2))=(parts.toList.map fun(x:Nat×gY)=>(x.1,a.eval x.2)).toArray:=by apply Array.ext';simp
    simp only[execOp];refine yF ?_;rw[<-g1];congr 2
   ·cases aJ
  ·cases ak
 ·rename_i d sz el x y o' gk t t';simp only[bD,da,fQ]at ag;obtain⟨⟨⟨⟨⟨⟨I,aa⟩,ak⟩,aJ⟩,ba⟩,cq⟩,dR⟩:=ag;subst I;subst ak;split at aJ
  ·rename_i dL aH;simp only[da]at aJ;subst aJ;split at ba
   ·rename_i g aL;simp only[bD,da,fQ]at ba;obtain⟨⟨rfl,hC⟩,qF⟩:=ba;have rx:=c1 hr cq;have hO:=c1 hr dR;have il:∀v' w',(pF #[t,t] type #[a.eval o',a.eval gk]).run P w= .ok v' w'->(execOp a.eval ⟨some d,.call ⟨.builtin .append,⟨[o',gk]⟩,⟨[t,t]⟩⟩,type,pos,after,guard⟩).run P w= .ok (.value v') w':=by intro v' w' fu;simp only[execOp,resolve,invoke,builtin,dW,eN,ea,List.map_toArray,ig,List.map_nil];rw[fu];rfl
    obtain⟨dx,ik,z,ai,aE,bb,b9,ft,dz,n2,lO⟩:=(ql au aL).ex;obtain⟨cn,fJ,ei⟩:=gn au aH;obtain rfl:=nY ei;simp only[de]at he;split at he
    ·rename_i cB tag xs gJ fF ys ad bs;split at he
     ·rename_i dT;obtain⟨rfl,dT⟩:=dT;subst dT;rw[ad]at rx;rw[bs]at hO;simp only[aw]at rx hO;obtain⟨⟨ax,nX,nF,cx1,⟨GY,GZ⟩,cx4⟩,rxn,rxo,rxt⟩:=rx;obtain⟨⟨ay,iT,oC,cy1,⟨G0,G1⟩,cy4⟩,_⟩:=hO;split at he
      ·rename_i k;split at he
       ·rename_i ow J;cases he;obtain⟨cJ,c2,c3,c4⟩:=aA;subst c2;obtain⟨n0,nD,eF,fy,kD⟩:=rxo k rfl;obtain⟨v0,dP,bL,ck,dd,_⟩:=hr.good.own k ow J;rw[eF]at bL;simp only[dp,hQ]at bL;obtain⟨rfl,rfl⟩:=bL;have kv:a.eval o'=nD:=kD cJ.symm;by_cases fw:ys=[]
        ·subst fw;rw[oC,nF]at il;have fu:=A7 (P:=P) (w:=w) (ty:=type) fJ ai ax xs.length nX cx1 ay iT;refine iK (il _ _ (by simpa using fu)) (cb _ _ ν ?_);have fE:{st with t:=put d (.slice ow.sz (.own k) (xs++[])) st.t,e:=cu k ⟨xs.length+([]:List ab).length,ow.el,ow.sz,none⟩ st.e}=({st with e:=cu k ⟨ow.n,ow.el,ow.sz,none⟩ st.e,t:=put d (.slice ow.sz (.own k) xs) st.t}:aM):=by simp[cJ]
         rw[<-c3,fE];have jm:=hr.forgetRow J;refine jm.put (d:=some d) (by simpa[fZ]using aa) (p:= .slice ow.sz (.own k) xs) ?_;simp only[aw];rw[<-c3]at cx4;exact⟨⟨ax,nX,rfl,cx1,⟨GY,GZ⟩,cx4⟩,fun e=>(by cases e),(fun g e=>by cases e;exact⟨_,_,eF,fy,fun e=>by rw[<-nF];exact kD e⟩),fun _ _ e=>(by cases e),fun _ e=>(by cases e)⟩
        ·have hyp:0<ys.length:=by cases ys<;>simp at fw⊢
         rcases cy4 with cy4|⟨jg,k6,fP,rfl,tX,km⟩
         ·exact absurd cy4 fw
         ·have jN:=nz km;have o8:∀j u,fP[j]? =some u->w.cell? ((⟨jg,k6,none⟩:Addr).add j)=some u:=fun j u av=>by rw[lK];exact(p5 tX av).2
          have kR:(xs.length+ys.length)*dx.bytes<=140737488355328:=by
           have qD:dx.bytes<=2048:=by rw[b9];exact qF
           have lR:(xs.length+ys.length)*dx.bytes<=(xs.length+ys.length)*2048:=Nat.mul_le_mul_left _ qD;simp only[b0]at c4;omega
          have hz:xs.length+ys.length<=maxLen:=by simp only[b0]at c4;simp only[maxLen];omega
          rw[oC]at il;have p4:dP.length=ow.n*ow.sz:=ck.1;have nm:z.cells.size=dx.size:=by rw[lO,bb]
          have tG:(∀cur,cv->cur=(0:Nat))->(∃v' w',(pF #[t,t] type #[a.eval o',.slice (some ⟨jg,k6,none⟩) ys.length iT]).run P w= .ok v' w'/\w'.ownsRow w.heap.size ow.el dx.size v' (xs.length+ys.length) (dP++fP)/\w.grownBy w' none/\cd w ν dx.size xs dP)->
            (⟨some d,.call ⟨.builtin .append,⟨[o',gk]⟩,⟨[t,t]⟩⟩,type,pos,after,guard⟩:Oper).wp P a w K Q:=by
           intro _ bn;obtain⟨v',w',f1,f2,f3,f4⟩:=bn;have qH:cd w ν dx.size (xs++ys) (dP++fP):=vX f4 (by rw[bb];exact km);obtain⟨gP,gH⟩:=hr.newRow (k:=k) (xs:=xs++ys) (.inr ⟨ow,J,by rw[cJ];simp;omega⟩) f3 (by simpa using f2) qH (by simpa using c4) (n':=st.n) (o':=st.o)
            (fun j av=>⟨av,fun e=>by subst e;have:=(hr.new _ av).2.1;rw[eF]at this;cases this⟩)
           refine iK (il _ _ f1) (cb _ _ ((ν.withOwn k (xs++ys).length v').withRowOf k v' (xs++ys).length ((xs++ys).length*dx.size)) ?_);have:=gP.put (d:=some d) (by simpa[fZ]using aa) gH;simpa[bb,eB]using this
          rcases ck.2 with⟨h8,q4⟩|⟨bl,cap,cur,h8,q4,q5,ya,yb,AK,vQ⟩
          ·
           have oc:xs=[]:=pK Ω;have vl:dP=[]:=pK (by rw[p4,q4];simp);subst oc;subst vl;refine tG (fun _ h=>h.elim) ?_;obtain⟨v',w',f1,f2,f3,_⟩:=run_append_own (P:=P) w w.heap.size t type ow.el dx z dx.size dx.bytes fJ ai dz rfl rfl nm (by rw[bb];exact hC) (.slice none 0 0) 0 [] (World.ownsRow_nil w _ _ _)
            ⟨jg,k6,none⟩ ys.length iT fP (by rw[jN,bb]) o8 (uf km) (by simpa using hz) (by simpa using kR) (cx _)
           refine⟨v',w',by rw[kv,h8];exact f1,by simpa using f2,by simpa[la]using f3,by simp[cd]⟩
          ·have QD:h7 w ν.A bl 0 dP/\cd w ν dx.size xs dP/\True:=by
            rw[kv,h8]at nF;rcases cx4 with cx4|⟨ha,XY,Fh,f1,f2,f3⟩
            ·subst cx4;have:dP=[]:=pK (by rw[p4,cJ];simp);subst this;exact⟨trivial,by simp[cd],trivial⟩
            ·subst f1;injection nF with vx1 vx2 vx3;injection vx1 with vx1;injection vx1 with vx1 vx4;subst vx1;subst vx4;have heq:Fh=dP:=by
              apply List.ext_getElem?;intro j;have pf:Fh.length=dP.length:=by rw[nz f3,p4,cJ,c3]
              by_cases av:j<Fh.length
              ·have I:=(p5 f2 (eo av)).2;rw[Nat.zero_add]at I;have aa:=ck.cells (g:=bl) (by rw[h8];rfl) j dP[j] (eo Ω);rw[lK,Nat.zero_add,I]at aa;rw[eo av,eo Ω];exact aa
              ·rw[List.getElem?_eq_none Ω,List.getElem?_eq_none Ω]
             subst heq;exact⟨f2,by rw[bb];exact f3,trivial⟩
           obtain⟨iC,hd,_⟩:=QD;by_cases ls:xs.length+ys.length<=cap
           ·have WO:cur.size=cap*ow.sz:=AK;have hmul:(xs.length+ys.length)*ow.sz<=cap*ow.sz:=Nat.mul_le_mul_right _ ls;rw[Nat.add_mul]at hmul;have f1:=run_append_room (P:=P) w t type ow.el dx fJ ai bl xs.length cap cur q5 ⟨jg,k6,none⟩ ys.length iT fP (by rw[jN,bb]) o8 (uf km) ls (by rw[jN,bb,<-c3];omega);obtain⟨gP,gH⟩:=hr.inPlace J (bl:=bl) (cap:=cap) (cur:=cur) (by rw[eF,<-h8]) q5 yb AK (xs:=xs) (ys:=ys) (us:=dP) (ns:=fP) cJ.symm vQ (by rw[c3,<-bb];exact hd) (by rw[c3];exact km) hyp (by rw[cJ];exact ls) c4;refine iK (v:= .slice (some ⟨bl,0,none⟩) (ow.n+ys.length) cap) (w':=w.setRow bl (dP++fP++cur.toList.drop (ow.n*ow.sz+fP.length)).toArray) (il _ _ ?_)
             (cb _ _ (ν.withRowOf k (.slice (some ⟨bl,0,none⟩) (ow.n+ys.length) cap) (ow.n+ys.length) ((ow.n+ys.length)*ow.sz)) ?_)
            ·rw[kv,h8,cJ,f1,<-vQ,cJ,c3,bb]
            ·have:=gP.put (d:=some d) (by simpa[fZ]using aa) gH;simpa[cJ,c3,eB]using this
           ·refine tG (fun _ h=>h.elim) ?_;obtain⟨v',w',f1,f2,f3⟩:=run_append_arg_grows (P:=P) w t type ow.el dx z dx.size dx.bytes fJ ai dz rfl rfl nm (by rw[bb];exact hC) ⟨bl,0,none⟩ xs.length cap dP (by rw[p4,cJ,c3,bb])
             (fun j u av=>by rw[lK];exact(p5 iC av).2) ⟨jg,k6,none⟩ ys.length iT fP (by rw[jN,bb]) o8 Ω hz kR
            exact⟨v',w',by rw[kv,h8,cJ];exact f1,f2,f3,hd⟩
       ·cases he
      ·cases he;have zJ:=rxn rfl;have oc:xs=[]:=by rw[zJ]at nF;injection nF with _ aE;exact pK aE.symm
       subst oc;have tK:(cW.app d g.size el x y).makes st=true:=by simp only[cW.makes,ad]
       have nm:z.cells.size=dx.size:=by rw[lO,bb]
       rw[oC,zJ]at il;have kT:∀(v':Value) (w':World) (fP:List Value),(pF #[t,t] type #[.slice none 0 0,.slice ay ys.length iT]).run P w= .ok v' w'->w'.ownsRow w.heap.size el g.size v' ys.length fP->w.grownBy w' none->cd w ν g.size ys fP->
         (⟨some d,.call ⟨.builtin .append,⟨[o',gk]⟩,⟨[t,t]⟩⟩,type,pos,after,guard⟩:Oper).wp P a w K Q:=by
        intro v' w' fP f1 f2 f3 f4;obtain⟨gP,gH⟩:=hr.newRow (k:=κ) (xs:=ys) (.inl (hr.new _ (qL tK))) f3 f2 f4 aA (gd tK);exact iK (il _ _ f1) (cb _ _ _ (gP.put (d:=some d) (by simpa[fZ]using aa) gH))
       by_cases fw:ys=[]
       ·subst fw;exact kT _ w [] (A7 fJ ai none 0 0 (cx _) ay iT) (World.ownsRow_nil w _ _ _) (U2 w _) (by simp[cd])
       ·rcases cy4 with cy4|⟨jg,k6,fP,rfl,tX,km⟩
        ·exact absurd cy4 fw
        ·have jN:=nz km;have o8:∀j u,fP[j]? =some u->w.cell? ((⟨jg,k6,none⟩:Addr).add j)=some u:=fun j u av=>by rw[lK];exact(p5 tX av).2
         have kR:ys.length*dx.bytes<=140737488355328:=by
          have I:dx.bytes<=2048:=by rw[b9];exact qF
          have aa:ys.length*dx.bytes<=ys.length*2048:=Nat.mul_le_mul_left _ I;simp only[b0]at aA;omega
         have hz:ys.length<=maxLen:=by simp only[b0]at aA;simp only[maxLen];omega
         obtain⟨v',w',f1,f2,f3,_⟩:=run_append_own (P:=P) w w.heap.size t type el dx z dx.size dx.bytes fJ ai dz rfl rfl nm (by rw[bb];exact hC) (.slice none 0 0) 0 [] (World.ownsRow_nil w _ _ _)
          ⟨jg,k6,none⟩ ys.length iT fP (by rw[jN,bb]) o8 (uf km) (by simpa using hz) (by simpa using kR) (cx _)
         exact kT v' w' fP f1 (by rw[<-bb];simpa using f2) (by simpa[la]using f3) km
      ·cases he
     ·cases he
    ·cases he
   ·cases ba
  ·cases aJ
 ·rename_i d key sz el xs t len parts;simp only[bD,da,fQ]at ag;obtain⟨⟨⟨⟨⟨⟨I,aa⟩,ak⟩,aJ⟩,ba⟩,cq⟩,dR⟩:=ag;subst I;subst ba;split at ak
  ·rename_i dL aH;simp only[da]at ak;subst ak;split at aJ
   ·rename_i g aL;simp only[bD,da,fQ]at aJ;obtain⟨rfl,hC⟩:=aJ;simp only[de]at he;cases he;obtain⟨us,g1,g2,g3⟩:=KX au hr aH rfl aL dR aA cq;have ku:(w.alloc (.cells us el)).ownsRow w.heap.size el g.size (.slice (some ⟨w.heap.size,0,none⟩) xs.length xs.length) (xs.map (bg st.t)).length us.toList:=by
     refine⟨by simp[g3],.inr ⟨w.heap.size,xs.length,us,Ψ,cx _,heap_alloc_new w _,Ψ,?_,g3,?_⟩⟩
     ·simp only[maxLen];have:xs.length<=xs.length*g.size:=Nat.le_mul_of_pos_right _ hC;omega
     ·rw[List.take_of_length_le];simp[g3]
    obtain⟨eF,fy⟩:=hr.newRowM (k:=κ) (xs:=xs.map (bg st.t)) (.inl (hr.new _ (qL rfl))) (World.grownBy_alloc w _ none) ku g2
     (by have:xs.length<=xs.length*g.size:=Nat.le_mul_of_pos_right _ hC;simp only[b0,List.length_map];omega) (gd rfl)
    simp only[List.length_map]at eF fy;refine iK (v:= .slice (some ⟨w.heap.size,0,none⟩) xs.length xs.length) (w':=w.alloc (.cells us el)) ?_ (cb _ _ _ (eF.put (d:=some d) (by simpa[fZ]using aa) (p:= .row g.size κ xs.length) (fy ⟨_,_,rfl⟩)));have aV:(parts.map fun(x:Nat×gY)=>(x.1,a.eval x.2))=(parts.toList.map fun(x:Nat×gY)=>(x.1,a.eval x.2)).toArray:=by apply Array.ext';simp
    simp only[execOp];refine yF ?_;rw[<-g1];congr 2
   ·cases aJ
  ·cases ak
 ·rename_i d key sz el x y o' gk t t';simp only[bD,da,fQ]at ag;obtain⟨⟨⟨⟨⟨⟨I,aa⟩,ak⟩,aJ⟩,ba⟩,cq⟩,dR⟩:=ag;subst I;subst ak;split at aJ
  ·rename_i dL aH;simp only[da]at aJ;subst aJ;split at ba
   ·rename_i g aL;simp only[bD,da,fQ]at ba;obtain⟨⟨rfl,hC⟩,qF⟩:=ba;have rx:=c1 hr cq;have hO:=c1 hr dR;have il:∀v' w',(pF #[t,t] type #[a.eval o',a.eval gk]).run P w= .ok v' w'->(execOp a.eval ⟨some d,.call ⟨.builtin .append,⟨[o',gk]⟩,⟨[t,t]⟩⟩,type,pos,after,guard⟩).run P w= .ok (.value v') w':=by intro v' w' fu;simp only[execOp,resolve,invoke,builtin,dW,eN,ea,List.map_toArray,ig,List.map_nil];rw[fu];rfl
    obtain⟨dx,ik,z,ai,aE,bb,b9,ft,dz,n2,lO⟩:=(ql au aL).ex;obtain⟨cn,fJ,ei⟩:=gn au aH;obtain rfl:=nY ei;have nm:z.cells.size=dx.size:=by rw[lO,bb]
    simp only[de]at he;split at he
    ·
     rename_i ys aY;cases he;unfold kk at aY;split at aY
     ·rename_i cB xs gJ fF UW ad bs;split at aY
      ·rename_i dT;obtain⟨rfl,dT⟩:=dT;subst dT;cases aY;rw[ad]at rx;rw[bs]at hO;simp only[aw]at rx hO;obtain⟨⟨ax,nX,nF,cx1,⟨GY,GZ⟩,cx4⟩,rxn,rxo,rxt⟩:=rx;obtain⟨⟨ay,iT,oC,cy1,⟨G0,G1⟩,cy4⟩,_⟩:=hO;have zJ:=rxn trivial;have tK:(cW.appm d key g.size el x y).makes st=true:=by simp only[cW.makes,ad]
       rw[oC,zJ]at il;have kT:∀(v':Value) (w':World) (fP:List Value),(pF #[t,t] type #[.slice none 0 0,.slice ay ys.length iT]).run P w= .ok v' w'->w'.ownsRow w.heap.size el g.size v' ys.length fP->w.grownBy w' none->cd w ν g.size ys fP->
         (⟨some d,.call ⟨.builtin .append,⟨[o',gk]⟩,⟨[t,t]⟩⟩,type,pos,after,guard⟩:Oper).wp P a w K Q:=by
        intro v' w' fP f1 f2 f3 f4;obtain⟨gP,gH⟩:=hr.newRowM (k:=κ) (xs:=ys) (.inl (hr.new _ (qL tK))) f3 f2 f4 aA.1 (gd tK);exact iK (il _ _ f1) (cb _ _ _ (gP.put (d:=some d) (by simpa[fZ]using aa) (gH (AF f2 (by cases ys<;>simp at aA⊢)))))
       by_cases fw:ys=[]
       ·subst fw;exact kT _ w [] (A7 fJ ai none 0 0 (cx _) ay iT) (World.ownsRow_nil w _ _ _) (U2 w _) (by simp[cd])
       ·rcases cy4 with cy4|⟨jg,k6,fP,rfl,tX,km⟩
        ·exact absurd cy4 fw
        ·have jN:=nz km;have o8:∀j u,fP[j]? =some u->w.cell? ((⟨jg,k6,none⟩:Addr).add j)=some u:=fun j u av=>by rw[lK];exact(p5 tX av).2
         have kR:ys.length*dx.bytes<=140737488355328:=by
          have I:dx.bytes<=2048:=by rw[b9];exact qF
          have aa:ys.length*dx.bytes<=ys.length*2048:=Nat.mul_le_mul_left _ I;simp only[b0]at aA;omega
         have hz:ys.length<=maxLen:=by simp only[b0]at aA;simp only[maxLen];omega
         obtain⟨v',w',f1,f2,f3,_⟩:=run_append_own (P:=P) w w.heap.size t type el dx z dx.size dx.bytes fJ ai dz rfl rfl nm (by rw[bb];exact hC) (.slice none 0 0) 0 [] (World.ownsRow_nil w _ _ _)
          ⟨jg,k6,none⟩ ys.length iT fP (by rw[jN,bb]) o8 (uf km) (by simpa using hz) (by simpa using kR) (cx _)
         exact kT v' w' fP f1 (by rw[<-bb];simpa using f2) (by simpa[la]using f3) km
      ·cases aY
     ·split at aY
      ·split at aY
       ·split at aY<;>cases aY
       ·cases aY
      ·cases aY
     ·cases aY
    ·
     rename_i k xs ys aY;cases he;unfold kk at aY;split at aY
     ·split at aY<;>cases aY
     ·rename_i cB aW n gJ fF UW ad bs;split at aY
      ·rename_i dT;obtain⟨rfl,dT⟩:=dT;subst dT;split at aY
       ·rename_i n' dL qg xs' J;split at aY
        ·rename_i iA;obtain⟨rfl,rfl,rfl⟩:=iA;cases aY;rw[ad]at rx;rw[bs]at hO;simp only[aw]at rx hO;obtain⟨⟨bx,nX,nF⟩,rxl,n0,nD,eF,fy,kD⟩:=rx;obtain⟨⟨ay,iT,oC,cy1,⟨G0,G1⟩,cy4⟩,_⟩:=hO;obtain⟨v0,dP,bL,ck,dd,du⟩:=hr.good.own k _ J;rw[eF]at bL;simp only[dp,hQ]at bL ck;obtain⟨rfl,rfl⟩:=bL;have kv:a.eval o'=nD:=kD rfl;obtain⟨cy,lB,q7⟩:=du xs rfl;simp only at cy lB;have p4:dP.length=xs.length*g.size:=by rw[cy];exact ck.1
         have nl:xs.length=n0:=cy;by_cases fw:ys=[]
         ·subst fw;rw[oC,nF]at il;have lV:n0<=nX:=by
           rcases ck.2 with⟨h8,q4⟩|⟨bl,cap,cur,h8,q4,q5,ya,_⟩
           ·rw[q4];exact Nat.zero_le _
           ·rw[<-kv,nF]at h8;injection h8 with _ _ e;rw[e];exact ya
          have fu:=A7 (P:=P) (w:=w) (ty:=type) fJ ai (some ⟨bx,0,none⟩) n0 nX lV ay iT;refine iK (il _ _ (by simpa using fu)) (cb _ _ ν ?_);have fT:∀dF,look dF (cu k ⟨n0,dL,g.size,some xs⟩ st.e)=look dF st.e:=fun dF=>by
           rw[hD];split
           ·rename_i e;subst e;rw[J]
           ·rfl
          have jm:bK C {st with e:=cu k ⟨n0,dL,g.size,some xs⟩ st.e} a w ν:=
           ⟨⟨hr.good.alt,hr.good.box,hr.good.inj,fun g o aL=>hr.good.own g o (by rw[<-fT g];exact aL),fun g dF n n' v v' bl bt a2=>hr.good.oinj g dF n n' v v' bl (by rw[<-fT g];exact bt) (by rw[<-fT dF];exact a2),
           fun g j n v bl bt=>hr.good.obx g j n v bl (by rw[<-fT g];exact bt),hr.good.one,fun bl af=>hr.good.otr bl (af.imp id (fun⟨g,n,v,bt,a2⟩=>⟨g,n,v,by rw[<-fT g];exact bt,a2⟩))⟩,hr.fr,hr.defers,hr.size,hr.slot,hr.new,hr.ext,hr.obk⟩
          have ak:=jm.put (d:=some d) (by simpa[fZ]using aa) (p:= .row g.size k n0) (v:= .slice (some ⟨bx,0,none⟩) n0 nX) (by simp only[aw];exact⟨⟨_,_,rfl⟩,rxl,_,_,eF,cx _,fun _=>by rw[<-nF];exact kv⟩)
          simpa[nl,eB]using ak
         ·have hyp:0<ys.length:=by cases ys<;>simp at fw⊢
          rcases cy4 with cy4|⟨jg,k6,fP,rfl,tX,km⟩
          ·exact absurd cy4 fw
          ·have jN:=nz km;have o8:∀j u,fP[j]? =some u->w.cell? ((⟨jg,k6,none⟩:Addr).add j)=some u:=fun j u av=>by rw[lK];exact(p5 tX av).2
           have kR:(xs.length+ys.length)*dx.bytes<=140737488355328:=by
            have qD:dx.bytes<=2048:=by rw[b9];exact qF
            have lR:(xs.length+ys.length)*dx.bytes<=(xs.length+ys.length)*2048:=Nat.mul_le_mul_left _ qD;simp only[b0]at aA;omega
           have hz:xs.length+ys.length<=maxLen:=by simp only[b0]at aA;simp only[maxLen];omega
           have qH:cd w ν g.size (xs++ys) (dP++fP):=vX lB km;rw[oC,kv]at il;have tG:(∃v' w',(pF #[t,t] type #[nD,.slice (some ⟨jg,k6,none⟩) ys.length iT]).run P w= .ok v' w'/\w'.ownsRow w.heap.size dL dx.size v' (xs.length+ys.length) (dP++fP)/\w.grownBy w' none)->
             (⟨some d,.call ⟨.builtin .append,⟨[o',gk]⟩,⟨[t,t]⟩⟩,type,pos,after,guard⟩:Oper).wp P a w K Q:=by
            intro bn;obtain⟨v',w',f1,f2,f3⟩:=bn;obtain⟨gP,gH⟩:=hr.newRowM (k:=k) (xs:=xs++ys) (el:=dL) (sz:=g.size) (.inr ⟨_,J,by simp;omega⟩) f3 (by rw[<-bb];simpa using f2) qH (by simpa using aA) (n':=st.n) (o':=st.o)
             (fun j av=>⟨av,fun e=>by subst e;have:=(hr.new _ av).2.1;rw[eF]at this;cases this⟩)
            refine iK (il _ _ f1) (cb _ _ (ν.withOwn k (xs++ys).length v') ?_);have:=gP.put (d:=some d) (by simpa[fZ]using aa) (gH (by simpa using AF f2 Ω));simpa[eB]using this
           rcases ck.2 with⟨h8,q4⟩|⟨bl,cap,cur,h8,q4,q5,ya,yb,AK,vQ⟩
           ·
            have oc:xs=[]:=pK Ω;have vl:dP=[]:=pK (by rw[p4,oc];simp);subst oc;subst vl;refine tG ?_;obtain⟨v',w',f1,f2,f3,_⟩:=run_append_own (P:=P) w w.heap.size t type dL dx z dx.size dx.bytes fJ ai dz rfl rfl nm (by rw[bb];exact hC) (.slice none 0 0) 0 [] (World.ownsRow_nil w _ _ _)
             ⟨jg,k6,none⟩ ys.length iT fP (by rw[jN,bb]) o8 (uf km) (by simpa using hz) (by simpa using kR) (cx _)
            exact⟨v',w',by rw[h8];exact f1,by simpa using f2,by simpa[la]using f3⟩
           ·have hW:nD.ownBlock=some bl:=by rw[h8];rfl
            by_cases ls:xs.length+ys.length<=cap
            ·have hmul:(xs.length+ys.length)*g.size<=cap*g.size:=Nat.mul_le_mul_right _ ls;rw[Nat.add_mul]at hmul;have f1:=run_append_room (P:=P) w t type dL dx fJ ai bl xs.length cap cur q5 ⟨jg,k6,none⟩ ys.length iT fP (by rw[jN,bb]) o8 (uf km) ls (by rw[jN,bb];omega);generalize xN:(cur.toList.take (xs.length*dx.size)++fP++cur.toList.drop (xs.length*dx.size+fP.length)).toArray=jx at f1;have iD:(w.setRow bl jx).heap[bl]? =some (.cells jx dL (0,0)):=setRow_heap w bl cur jx dL _ q5;have aB:(dP++fP).length=(xs++ys).length*g.size:=by rw[jT,p4,jN,jT,Nat.add_mul]
             have ba:cur.toList.take (xs.length*dx.size)=dP:=by rw[nl,bb];exact vQ
             have gh:jx.size=cap*g.size:=by rw[<-xN];simp only[List.size_toArray,jT,List.length_take,lb,Array.length_toList];rw[bb];omega
             have n9:jx.toList.take ((xs++ys).length*g.size)=dP++fP:=by rw[<-xN,ba];simp only[<-aB];rw[List.take_append_of_le_length (cx _),ld]
             obtain⟨gP,_,gH⟩:=hr.setRowM (w':=w.setRow bl jx) J rfl eF hW (v':= .slice (some ⟨bl,0,none⟩) (xs.length+ys.length) cap) rfl (xs':=xs++ys) (us:=dP++fP) (.inr (by simp;omega)) rfl rfl rfl (fun j av=>setRow_other w bl j jx av) (setRow_size w bl jx)
              ⟨aB,.inr ⟨bl,cap,jx,Ψ,Nat.zero_le _,iD,by simpa using ls,yb,gh,n9⟩⟩ qH
             replace gH:=gH (by simpa using aA);refine iK (v:= .slice (some ⟨bl,0,none⟩) (xs.length+ys.length) cap) (w':=w.setRow bl jx) (il _ _ ?_) (cb _ _ (ν.withOwn k (xs++ys).length (.slice (some ⟨bl,0,none⟩) (xs.length+ys.length) cap)) ?_)
             ·rw[h8,<-nl];exact f1
             ·have:=gP.put (d:=some d) (by simpa[fZ]using aa) gH;simpa[eB]using this
            ·refine tG ?_;obtain⟨v',w',f1,f2,f3⟩:=run_append_arg_grows (P:=P) w t type dL dx z dx.size dx.bytes fJ ai dz rfl rfl nm (by rw[bb];exact hC) ⟨bl,0,none⟩ xs.length cap dP (by rw[p4,bb])
              (fun j u av=>by have:=ck.cells hW j u av;exact this) ⟨jg,k6,none⟩ ys.length iT fP (by rw[jN,bb]) o8 Ω hz kR
             exact⟨v',w',by rw[h8,<-nl];exact f1,f2,f3⟩
        ·cases aY
       ·cases aY
      ·cases aY
     ·cases aY
    ·cases he
   ·cases ba
  ·cases aJ
 ·rename_i sz x y t o' gk;simp only[bD,da]at ag;obtain⟨⟨⟨I,aa⟩,ak⟩,aJ⟩:=ag;subst I;split at aa
  ·rename_i f aH;simp only[da]at aa;simp only[de]at he;generalize C2:bg st.t x=px at he;unfold ov at he;split at he
   ·rename_i cB k n i tx;split at he
    ·rename_i n' el gJ xs J;split at he
     ·rename_i tO;obtain⟨rfl,rfl⟩:=tO;split at he
      ·rename_i q bj;cases he;obtain⟨c0,cJ,c2,c3,c4⟩:=aA;have rx:=c1 hr ak;rw[C2]at rx;have hO:=c1 hr aJ;have q8:=ra hO cJ;have rf:=mI q8;obtain⟨_,cE⟩:=rn au aH w;have qS:(a.eval gk).cells.size=sz:=by rw[c2]at rf;simpa using rf
       obtain⟨bl,off,kl,xB,fE,ν',kX⟩:=hr.storeRow (P:=P) J rx bj c0 q8 (by simpa[qS]using c3) (fun e=>by have:=eV List.length e;simp[qS]at this;omega);refine yG (w':=w.setRow bl kl) ?_ (cb _ _ _ kX);simp only[execOp,Instr.storeAt,xB,Instr.sureAddr,storeVar,dW,eN,ea,cE,qS,aa,ne_eq,not_true_eq_false,if_false,fE]
      ·cases he
     ·cases he
    ·cases he
   ·cases he
  ·cases aa
 ·rename_i d el x y o' gk t t';exact FX au hr (d:=d) (el:=el) (x:=x) (y:=y) (by simpa only[ot]using ag) (by simpa only[de]using he) aA cb
 ·rename_i d key sz el z x t o' gk;simp only[bD,da,fQ]at ag;obtain⟨⟨⟨⟨⟨I,aa⟩,ak⟩,aJ⟩,ba⟩,cq⟩:=ag;subst I;split at ak
  ·rename_i dL aH;simp only[da]at ak;subst ak;split at aJ
   ·rename_i g aL;simp only[bD,da,fQ]at aJ;obtain⟨⟨⟨rfl,hC⟩,qF⟩,eZ⟩:=aJ;obtain rfl:=FB eZ;have rx:=c1 hr ba;have hO:=c1 hr cq;simp only[de]at he;split at he
    ·rename_i jq n ad;cases he;obtain⟨QO,jN⟩:=aA;obtain⟨m,rfl⟩:=Int.eq_ofNat_of_zero_le QO;rw[ad]at rx hO;simp only[aw]at rx hO;obtain⟨dx,ik,a7,ai,aE,bb,b9,ft,dz,n2,lO⟩:=(ql au aL).ex;obtain⟨cn,fJ,ei⟩:=gn au aH;obtain rfl:=nY ei;have hz:m<=b0:=by simp only[b0]at jN⊢;omega
     have kR:dx.bytes*m<=281474976710656:=by have I:dx.bytes*m<=2048*m:=Nat.mul_le_mul_right _ Ω;simp only[b0]at hz;omega
     obtain⟨Q1,P5⟩:=FA w ν n2;obtain⟨w',g1,g2,g3⟩:=run_make_full (P:=P) w w.heap.size t el dx a7 dx.size fJ ai dz rfl jq jq m kR (by simp only[maxLen];simp only[b0]at hz;omega) (cx _);have ku:w'.ownsRow w.heap.size el g.size (.slice (some ⟨w.heap.size,0,none⟩) m m) (List.replicate m g.zero).length (madeCells a7.cells (m*a7.cells.size)).toList:=by rw[bb,<-lO]at g2;rw[List.length_replicate,<-lO];exact g2
     obtain⟨eF,fy⟩:=hr.newRowM (k:=κ) (xs:=List.replicate m g.zero) (.inl (hr.new _ (qL rfl))) g3 ku (by rw[<-lO];exact JG Q1 Ω (v7 P5) m) (by simpa using hz) (gd rfl);simp only[List.length_replicate]at eF fy;simp only[Int.toNat_natCast]at cb;refine iK (v:= .slice (some ⟨w.heap.size,0,none⟩) m m) (w':=w') ?_ (cb _ _ _ (eF.put (d:=some d) (by simpa[fZ]using aa) (p:= .row g.size κ m) (fy ⟨_,_,rfl⟩)));simp only[execOp];refine yF ?_;rw[rx,hO];exact g1
    ·cases he
   ·cases aJ
  ·cases ak
 ·cases ag
theorem F3{N:Nat}{aQ:List (Nat×cm)}{d:Nat}{key:aR Nat}{o:Oper}(h:ot N aQ (.mkmap d key) o=true):key≠some 861:=by
 rintro rfl;obtain⟨dst,op,type,pos,after,guard⟩:=o;generalize aD:cW.mkmap d (some 861)=i at h;unfold ot at h;dsimp only at h;split at h<;>first|(cases aD;done)|(cases h;done)|skip
 cases aD;simp at h
theorem Mu{N:Nat}{aQ:List (Nat×cm)}{st:aM}{d:Nat}{key:aR Nat}{x:cl}{o:Oper}(h:ot N aQ (.range d key x) o=true):hk st key≠ .obj 861:=by
 intro e;obtain rfl:=As e;obtain⟨dst,op,type,pos,after,guard⟩:=o;generalize aD:cW.range d (some 861) x=i at h;unfold ot at h;dsimp only at h;split at h<;>first|(cases aD;done)|(cases h;done)|skip
 cases aD;simp at h
theorem TL{P:bm}{aQ:List (Nat×cm)}(au:dE P aQ=true){C:db}{st st':aM}{a:Act}{w:World}{ν:aC}(hr:bK C st a w ν){i:cW}{o:Oper}(ag:ot C.N aQ i o=true)
  {c:Prop} (he:jQ st i=some (c,st')) (aA:c) {K:Act->World->Prop} {Q:Exit->Act->World->Prop} (cb:∀bG w' ν',bK C st' bG w' ν'->K bG w'):o.wp P a w K Q:=by
 have h4:nn st none->fresh st.n st.o (.loc st.n):=fun h=>sF (key:=none) h;have xy:∀j,fresh (st.n+1) st.o j->fresh st.n st.o j/\j≠ .loc st.n:=sG (key:=none);cases i with
 |v d i=>exact hn (κ:= .loc 0) (n':=0) (o₁:=[]) au hr ag (fun h=>by simp[cW.makes]at h) (fun h=>by simp[cW.makes]at h) (by simpa only[jQ,de]using he) aA cb
 |box d key x=>simp only[jQ]at he;cases he;exact hn (κ:=hk st key) (n':=k3 st key) (o₁:=k4 st key) au hr ag (fun _=>sF aA.1) (fun _=>sG) (by simp only[de]) aA.2 cb (hB:=As)
 |alloc d key z=>simp only[jQ]at he;cases he;exact hn (κ:=hk st key) (n':=k3 st key) (o₁:=k4 st key) au hr ag (fun _=>sF aA) (fun _=>sG) (by simp only[de]) trivial cb (hB:=As)
 |mks d key sz el z x=>
  simp only[jQ]at he;split at he
  ·rename_i jq n ad;cases he;exact hn (κ:=hk st key) (n':=k3 st key) (o₁:=k4 st key) au hr ag (fun _=>sF aA.1) (fun _=>sG) (by simp only[de,ad]) aA.2 cb
  ·cases he
 |apps d el x y=>exact FX au hr ag (by simpa only[jQ]using he) aA cb
 |storeE sz x y=>exact hn (κ:= .loc 0) (n':=0) (o₁:=[]) au hr ag (fun h=>by simp[cW.makes]at h) (fun h=>by simp[cW.makes]at h) (by simpa only[jQ,de]using he) aA cb
 |store sz x y=>exact hn (κ:= .loc 0) (n':=0) (o₁:=[]) au hr ag (fun h=>by simp[cW.makes]at h) (fun h=>by simp[cW.makes]at h) (by simpa only[jQ,de]using he) aA cb
 |bsl d sz el xs=>simp only[jQ]at he;cases he;exact hn (κ:= .loc st.n) (n':=st.n+1) (o₁:=st.o) au hr ag (fun _=>h4 aA.1) (fun _=>xy) (by simp only[de]) aA.2 cb
 |bslm d key sz el xs=>simp only[jQ]at he;cases he;exact hn (κ:=hk st key) (n':=k3 st key) (o₁:=k4 st key) au hr ag (fun _=>sF aA.1) (fun _=>sG) (by simp only[de]) aA.2 cb
 |appm d key sz el x y=>
  simp only[jQ]at he;split at he
  ·rename_i ys aY;cases he;exact hn (κ:=hk st key) (n':=k3 st key) (o₁:=k4 st key) au hr ag (fun _=>sF aA.1) (fun _=>sG) (by simp only[de,aY]) aA.2 cb
  ·rename_i k xs ys aY;cases he;refine hn (κ:= .loc 0) (n':=0) (o₁:=[]) au hr ag (fun h=>?_) (fun h=>?_) (by simp only[de,aY]) aA cb;all_goals
    exfalso
    simp only[cW.makes]at h
    split at h
    ·rename_i ad
     unfold kk at aY
     rw[ad]at aY
     split at aY
     ·split at aY<;>cases aY
     ·rename_i I _;cases I
     ·cases aY
    ·cases h
  ·cases he
 |mkmap d key=>simp only[jQ]at he;cases he;exact hn (κ:=hk st key) (n':=k3 st key) (o₁:=k4 st key) au hr ag (fun _=>sF aA) (fun _=>sG) (by simp only[de]) trivial cb (hB:=fun e=>F3 ag (As e))
 |mput bH x k v=>exact hn (κ:= .loc 0) (n':=0) (o₁:=[]) au hr ag (fun h=>by simp[cW.makes]at h) (fun h=>by simp[cW.makes]at h) (by simpa only[jQ,de]using he) aA cb
 |range d key x=>
  simp only[jQ]at he;split at he
  ·rename_i m ad;split at he
   ·rename_i cs cj;split at he
    ·rename_i cs' hm;cases he;exact hn (κ:=hk st key) (n':=k3 st key) (o₁:=k4 st key) au hr ag (fun _=>sF aA) (fun _=>sG) (by simp only[de,ad,cj,hm]) trivial cb (hB:=Mu ag)
    ·cases he
   ·cases he
  ·cases he
 |app d sz el x y=>
  simp only[jQ]at he;split at he
  ·rename_i cB tag xs gJ fF ys ad bs;split at he
   ·rename_i dT;split at he
    ·rename_i k;split at he
     ·rename_i ow J;cases he;refine hn (κ:= .loc 0) (n':=0) (o₁:=[]) au hr ag (fun h=>by simp[cW.makes,ad]at h) (fun h=>by simp[cW.makes,ad]at h) ?_ aA cb;simp only[de,ad,bs,dT,and_self,if_true,J]
     ·cases he
    ·cases he;refine hn (κ:= .loc st.n) (n':=st.n+1) (o₁:=st.o) au hr ag (fun _=>h4 aA.1) (fun _=>xy) ?_ aA.2 cb;simp only[de,ad,bs,dT,and_self,if_true]
    ·cases he
   ·cases he
  ·cases he
structure df where
 b:List (aq×List ab)
 e:List (aq×cp)
def eX(ν:aC)(s:df)(bl:Nat):Prop:=(∃k,(look k s.b).isSome/\ν.bx k=some bl)\/(∃g n v,(look g s.e).isSome/\ν.ow g=some (n,v)/\v.ownBlock=some bl)
def oR(ν:aC)(s:df):Prop:= ∀k,(look k s.b=none->ν.bx k=none)/\(look k s.e=none->ν.ow k=none)/\∀j b,¬ν.tr k j b
def ds(s:df):List aq:=s.b.map (·.1)++s.e.map (·.1)
def gG(s:df):Prop:=(∀m,look (.loc m) s.b=none)/\(∀m,look (.loc m) s.e=none)
def rH(P:bm)(f:FuncId)(vs:Array Value)(w:World)(R:Ending->World->Prop):Prop:=((∃fn,P.funcs[f]? =some fn/\fn.body.isSome=true/\(fn.name== "runtime.NumGoroutine")=false)/\Calls P f vs w R)\/ ∃v w',(callFunc f vs).run P w= .ok (.value v) w'/\R (.returned v) w'
def c8(P:bm)(f:FuncId)(args:List ab)(s:df)(Q:ab->df->Prop):Prop:=
 ∀(w:World) (ν:aC) (vs:Array Value) (gl:lG w ν),Good (eX ν s) w ν s.b s.e->oR ν s->bT w ν args vs.toList->
  rH P f vs w fun e w'=> ∃v r aj ν',e= .returned v/\Q r aj/\aw w' ν' r v/\Good (fun bl=>eX ν s bl\/w.heap.size<=bl) w' ν' aj.b aj.e/\oR ν' aj/\gG aj/\mh ⟨w,ν,eX ν s,0,ds s,gl,[]⟩ w' ν'
def uT(κ:aR Nat)(ν:aC)(s:df):Prop:= ∀k,(look k s.b=none->ν.bx k=none)/\(look k s.e=none->ν.ow k=none)/\∀j b,ν.tr k j b->∃m,κ=some m/\k= .loc m
theorem oR.k{ν:aC}{s:df}(h:oR ν s):uT none ν s:=fun k=>⟨(h k).1,(h k).2.1,fun j b af=>absurd af ((h k).2.2 j b)⟩
def FnK(P:bm)(f:FuncId)(κ:Nat)(args:List ab)(s:df)(Q:ab->df->Prop):Prop:=
 ∀(w:World) (ν:aC) (vs:Array Value) (gl:lG w ν),Good (eX ν s) w ν s.b s.e->oR ν s->bT w ν args vs.toList->
  rH P f vs w fun e w'=> ∃v r aj ν',e= .returned v/\Q r aj/\aw w' ν' r v/\Good (fun bl=>eX ν s bl\/w.heap.size<=bl) w' ν' aj.b aj.e/\uT (some κ) ν' aj/\gG aj/\mh ⟨w,ν,eX ν s,0,ds s,gl,[]⟩ w' ν'
def ca(P:bm)(f:FuncId)(args:List ab)(r:ab):Prop:=c8 P f args ⟨[],[]⟩ fun cr aj=>cr=r/\aj=⟨[],[]⟩
theorem tW{α:Type}{k:aq}{x:α}:∀{l:List (aq×α)},look k l=some x->(k,x)∈l
 |[],h=>by simp[look]at h
 |(i,y)::r,h=>by
  simp only[look]at h;split at h
  ·rename_i e;subst e;cases h;simp
  ·exact List.mem_cons_of_mem _ (tW h)
theorem q2{s:df}{k:aq}(h:(look k s.b).isSome\/(look k s.e).isSome):k∈ds s:=by
 unfold ds;rcases h with h|h<;>obtain⟨x,ad⟩:=eb.1 h<;>have:=tW ad
 ·exact kf _ (lE.2 ⟨_,this,rfl⟩)
 ·exact iw _ (lE.2 ⟨_,this,rfl⟩)
section
open Classical
noncomputable def aC.cut(ν:aC)(S:aq->Prop):aC:={A:=ν.A,bx:=fun k=>if S k then ν.bx k else none,ow:=fun k=>if S k then ν.ow k else none,tr:=fun k j b=>S k/\ν.tr k j b}
theorem aC.cut_bx{ν:aC}{S:aq->Prop}{k:aq}(h:S k):(ν.cut S).bx k=ν.bx k:=by simp[aC.cut,h]
theorem aC.cut_ow{ν:aC}{S:aq->Prop}{k:aq}(h:S k):(ν.cut S).ow k=ν.ow k:=by simp[aC.cut,h]
theorem aC.cut_no{ν:aC}{S:aq->Prop}{k:aq}(h:¬S k):(ν.cut S).bx k=none/\(ν.cut S).ow k=none/\∀j b,¬(ν.cut S).tr k j b:=by simp[aC.cut,h]
theorem aC.cut_some{ν:aC}{S:aq->Prop}{k:aq}{b:Nat}(h:(ν.cut S).bx k=some b):S k/\ν.bx k=some b:=by
 by_cases ao:S k
 ·exact⟨ao,by rw[aC.cut_bx ao]at h;exact h⟩
 ·rw[(aC.cut_no ao).1]at h;cases h
theorem aC.cut_someO{ν:aC}{S:aq->Prop}{k:aq}{b:Nat×Value}(h:(ν.cut S).ow k=some b):S k/\ν.ow k=some b:=by
 by_cases ao:S k
 ·exact⟨ao,by rw[aC.cut_ow ao]at h;exact h⟩
 ·rw[(aC.cut_no ao).2.1]at h;cases h
theorem lG.cut{w:World}{ν:aC}(h:lG w ν)(S:aq->Prop):lG w (ν.cut S):=h
theorem kI.cut(S:aq->Prop)(w:World)(ν:aC):kI S w ν w (ν.cut S):=⟨fun _ _ h=>⟨h,rfl⟩,fun k b J h=>by rw[aC.cut_bx J];exact h,fun g n u aL h=>⟨n,u,by rw[aC.cut_ow aL];exact h,.inl ⟨rfl,rfl⟩⟩,fun _ _ _=>rfl,fun _ _ _ J h=>⟨J,h⟩⟩
end
def mK(S:aq->Prop)(fa b:List (aq×List ab)):Prop:= ∀k cs,look k fa=some cs->look k b=some cs/\S k/\kinL S cs
def nC(S:aq->Prop)(fC e:List (aq×cp)):Prop:= ∀k o,look k fC=some o->look k e=some o/\S k/\eD S o
theorem Good.cut{pr Kj:Nat->Prop}{w:World}{ν:aC}{b fa:List (aq×List ab)}{e fC:List (aq×cp)}(h:Good pr w ν b e){S:aq->Prop}(af:mK S fa b)(he:nC S fC e)
  (IS:∀bl,pr bl->(∃k,(look k fa).isSome/\(ν.cut S).bx k=some bl)\/(∃g n v,(look g fC).isSome/\(ν.cut S).ow g=some (n,v)/\v.ownBlock=some bl)->Kj bl):Good Kj w (ν.cut S) fa fC:=by
 have qE:∀k,(look k fa).isSome->(look k b).isSome/\S k:=fun k J=>by obtain⟨cs,cj⟩:=eb.1 J;have:=af k cs cj;exact⟨by simp[this.1],this.2.1⟩
 have zy:∀k,(look k fC).isSome->(look k e).isSome/\S k:=fun k J=>by obtain⟨cs,cj⟩:=eb.1 J;have:=he k cs cj;exact⟨by simp[this.1],this.2.1⟩
 refine⟨h.alt,fun k cs J=>?_,fun k aW bl I aa ak aJ=>?_,fun g o aL=>?_,fun g dF n n' v v' bl I aa ak aJ ba cq=>?_,fun g k n v bl I aa ak aJ ba=>?_,fun k=>?_,fun bl au k j av=>?_⟩
 ·obtain⟨g1,g2,g3⟩:=af k cs J;obtain⟨bl,us,el,f1,f2,f3,f4,f5⟩:=h.box k cs g1;have hv:(ν.cut S).bx k=some bl:=by rw[aC.cut_bx g2];exact f1
  exact⟨bl,us,el,hv,IS bl f2 (.inl ⟨k,by simp[J],hv⟩),f3,f4,Ev (kI.cut S w ν) g3 f5⟩
 ·obtain⟨bt,a2⟩:=qE k I;obtain⟨bO,bU⟩:=qE aW aa;exact h.inj k aW bl bt bO (aC.cut_some ak).2 (aC.cut_some aJ).2
 ·obtain⟨g1,g2,g3⟩:=he g o aL;obtain⟨v,us,f1,f2,f3,f4⟩:=h.own g o g1;have lr:(ν.cut S).ow g=some (o.n,v):=by rw[aC.cut_ow g2];exact f1
  exact⟨v,us,lr,f2,fun bl eJ=>⟨IS bl (f3 bl eJ).1 (.inr ⟨g,o.n,v,by simp[aL],lr,eJ⟩),(f3 bl eJ).2⟩,
   fun xs ad=>⟨(f4 xs ad).1,AY (kI.cut S w ν) _ _ _ (g3 xs ad) (f4 xs ad).2.1,(f4 xs ad).2.2⟩⟩
 ·obtain⟨bt,a2⟩:=zy g I;obtain⟨bO,bU⟩:=zy dF aa;exact h.oinj g dF n n' v v' bl bt bO (aC.cut_someO ak).2 (aC.cut_someO aJ).2 ba cq
 ·obtain⟨bt,a2⟩:=zy g I;obtain⟨bO,bU⟩:=qE k aa;exact h.obx g k n v bl bt bO (aC.cut_someO ak).2 aJ (aC.cut_some ba).2
 ·by_cases ao:S k
  ·rw[aC.cut_bx ao,aC.cut_ow ao];exact h.one k
  ·exact .inl (aC.cut_no ao).1
 ·refine h.otr bl ?_ k j av.2;rcases au with⟨aW,bt,a2⟩|⟨g,n,v,bt,a2,a3⟩
  ·exact .inl ⟨aW,(qE aW bt).1,(aC.cut_some a2).2⟩
  ·exact .inr ⟨g,n,v,(zy g bt).1,(aC.cut_someO a2).2,a3⟩
structure hi (ob:List aq) (st st':aM):Prop where
 t:∀x∈st'.t,get x.1 st.t=x.2/\kin (fun k=> ¬fresh st'.n st'.o k) x.2
 b:mK (fun k=> ¬fresh st'.n st'.o k) st'.b st.b
 e:nC (fun k=> ¬fresh st'.n st'.o k) st'.e st.e
 o:∀m∈ob,m∈st'.o
theorem Cp:∀(i:Nat) (l:List (Nat×ab)),get i l= .junk\/(i,get i l)∈l
 |_,[]=>.inl rfl
 |i,(j,p)::r=>by
  by_cases h:j=i
  ·subst h;right;simp[get]
  ·rcases Cp i r with I|I
   ·left;simp[get,h,I]
   ·right;simp[get,h];right;exact I
theorem bK.weaker{C:db}{st st':aM}{a:Act}{w:World}{ν:aC}(h:bK C st a w ν)(hw:hi C.ob st st'):bK C st' a w (ν.cut fun k=> ¬fresh st'.n st'.o k):=by
 refine⟨h.good.cut hw.b hw.e (fun bl aV _=>aV),⟨h.fr.os,h.fr.tape,h.fr.output,h.fr.size,h.fr.block,h.fr.keep,h.fr.fresh,fun n b af=>?_,h.fr.obn,fun m n u hm=>?_,h.fr.obr,fun k j aW dc b I aa=>h.fr.trd k j aW dc b I.2 aa.2,fun k j b af=>h.fr.trb k j b af.2,fun k j b af=>?_,h.fr.sh,fun j n u b ai aE=>h.fr.nrow j n u b (aC.cut_someO ai).2 aE⟩,h.defers,h.size,fun i=>?_,fun k J=>aC.cut_no (fun aU=>aU J),fun x ad=>⟨oo (kI.cut _ w ν) _ _ (mC (fun k J aH=>aH.2 (hw.o k J)) _ (h.ext x ad).2) (h.ext x ad).1,(h.ext x ad).2⟩,fun m hm aH=>aH.2 (hw.o m hm)⟩
 ·rw[aC.cut_bx (fun bn=>bn.2 (hw.o _ (h.fr.obn n b af)))];exact h.fr.obj n b af
 ·rw[aC.cut_ow (fun bn=>bn.2 (hw.o _ (h.fr.obr m n u hm)))];exact h.fr.row m n u hm
 ·rw[aC.cut_bx af.1,aC.cut_ow af.1];exact h.fr.trn k j b af.2
 ·rcases Cp i st'.t with av|hm
  ·rw[av];simp[aw]
  ·obtain⟨I,aa⟩:=hw.t _ hm;simp only at I;have:=h.slot i;rw[I]at this;exact oo (kI.cut _ w ν) _ _ aa this
mutual
def bC:ab->ab
 | .slice sz _ xs=>.slice sz .no (bF xs)
 | .agg cs=>.agg (bF cs)
 | .tuple vs=>.tuple (bF vs)
 | .eptr x=>.eptr (bC x)
 | .iface t x=>.iface t (bC x)
 | .func f cP=>.func f (bF cP)
 |p=>p
def bF:List ab->List ab
 |[]=>[]
 |x::xs=>bC x::bF xs
end
theorem j8:∀xs,(bF xs).length=xs.length
 |[]=>rfl
 |x::xs=>by simp[bF,j8 xs]
mutual
theorem zn{t:Bool}{w:World}{A:Nat->Nat->Prop}:∀(p:ab) (F:Nat->Prop) (v:Value),bS t w A F p v->bS t w A F (bC p) v
 | .int _ _,_,_,h=>by simpa only[bC]using h
 | .bool _,_,_,h=>by simpa only[bC]using h
 | .str _,_,_,h=>by simpa only[bC]using h
 | .slice sz tag xs,F,v,h=>by
  simp only[bS,bC]at h⊢;obtain⟨a,cap,I,aa,ak,aJ⟩:=h;refine⟨a,cap,by rw[j8];exact I,by rw[j8];exact aa,by rw[j8];exact ak,?_⟩;rcases aJ with rfl|⟨b,off,us,G,ai,aE,bb,b9,ft,dz⟩
  ·exact .inl rfl
  ·exact .inr ⟨b,off,us,G,ai,aE,bb,b9,ft,HH sz xs G us dz⟩
 | .agg cs,F,v,h=>by simp only[bS,bC]at h⊢;obtain⟨us,I,aa⟩:=h;exact⟨us,I,HI cs F _ aa⟩
 | .junk,_,_,h=>by simp[bS]at h
 | .ptr _ _,_,_,h=>by simp[bS]at h
 | .eptr _,_,_,h=>by simp[bS]at h
 | .iface _ _,_,_,h=>by simp[bS]at h
 | .nilp,_,_,h=>by simp[bS]at h
 | .tuple _,_,_,h=>by simp[bS]at h
 | .func _ _,_,_,h=>by simp[bS]at h
 | .gmap _,_,_,h=>by simp[bS]at h
 | .row _ _ _,_,_,h=>by simp[bS]at h
 | .rptr _ _ _ _ _,_,_,h=>by simp[bS]at h
 | .hdm _ _,_,_,h=>by simp[bS]at h
 | .hdi _ _ _,_,_,h=>by simp[bS]at h
 | .cst _,_,_,h=>by simp[bS]at h
theorem HI{t:Bool}{w:World}{A:Nat->Nat->Prop}:∀(cs:List ab) (F:Nat->Prop) (us:List Value),h1 t w A F cs us->h1 t w A F (bF cs) us
 |[],_,_,h=>by simpa only[bF]using h
 |c::cs,F,us,h=>by simp only[h1,bF]at h⊢;obtain⟨u,a1,e1,e2,I,aa,⟨ba,cq⟩,dR⟩:=h;exact⟨u,a1,e1,e2,I,aa,⟨zn c e1 u ba,cq⟩,HI cs e2 a1 dR⟩
theorem HH{t:Bool}{w:World}{A:Nat->Nat->Prop}(sz:Nat):∀(cs:List ab) (F:Nat->Prop) (us:List Value),hs t w A F sz cs us->hs t w A F sz (bF cs) us
 |[],_,_,h=>by simpa only[bF]using h
 |c::cs,F,us,h=>by simp only[hs,bF]at h⊢;obtain⟨u,a1,e1,e2,I,aa,⟨ba,cq⟩,dR⟩:=h;exact⟨u,a1,e1,e2,I,aa,⟨zn c e1 u ba,cq⟩,HH sz cs e2 a1 dR⟩
end
theorem w6{t:Bool}{w:World}{A:Nat->Nat->Prop}{F:Nat->Prop}{sz:Nat}{tag:iR}(fF:iR){xs:List ab}(v:Value)(h:bS t w A F (.slice sz tag xs) v):bS t w A F (.slice sz fF (bF xs)) v:=by have:=zn _ F v h;simp only[bC,bS]at this⊢;exact this
mutual
theorem sN{w:World}{ν:aC}:∀(p:ab) (v:Value),aw w ν p v->aw w ν (bC p) v
 | .junk,_,h=>by simpa only[bC]using h
 | .int k n,_,h=>by simpa only[bC]using h
 | .bool b,_,h=>by simpa only[bC]using h
 | .str s,_,h=>by simpa only[bC]using h
 | .slice sz tag xs,v,h=>by
  simp only[aw,bC]at h⊢;obtain⟨⟨a,cap,I,aa,ak,aJ⟩,ba,cq⟩:=h;refine⟨⟨a,cap,by rw[j8];exact I,by rw[j8];exact aa,by rw[j8];exact ak,?_⟩,fun e=>(by cases e),fun g e=>(by cases e),fun _ _ e=>(by cases e),fun _ e=>(by cases e)⟩;rcases aJ with rfl|⟨b,off,us,aJ,cq,dR⟩
  ·exact .inl rfl
  ·exact .inr ⟨b,off,us,aJ,cq,KL sz xs us dR⟩
 | .agg cs,v,h=>by simp only[aw,bC]at h⊢;obtain⟨us,I,aa⟩:=h;exact⟨us,I,KP cs _ aa⟩
 | .ptr key off,v,h=>by simpa only[bC]using h
 | .iface t x,v,h=>by simp only[aw,bC]at h⊢;obtain⟨u,I,aa⟩:=h;exact⟨u,I,sN x u aa⟩
 | .eptr x,v,h=>by simp only[aw,bC]at h⊢;obtain⟨b,off,u,I,aa,ak⟩:=h;exact⟨b,off,u,I,sN x u aa,ak⟩
 | .nilp,_,h=>by simpa only[bC]using h
 | .tuple vs,v,h=>by simp only[aw,bC]at h⊢;obtain⟨us,I,aa⟩:=h;exact⟨us,I,A2 vs _ aa⟩
 | .func f cP,v,h=>by simp only[aw,bC]at h⊢;obtain⟨us,I,aa⟩:=h;exact⟨us,I,A2 cP _ aa⟩
 | .gmap key,v,h=>by simpa only[bC]using h
 | .row _ _ _,v,h=>by simpa only[bC]using h
 | .rptr _ _ _ _ _,v,h=>by simpa only[bC]using h
 | .cst _,v,h=>by simpa only[bC]using h
theorem KP{w:World}{ν:aC}:∀(cs:List ab) (us:List Value),bV w ν cs us->bV w ν (bF cs) us
 |[],_,h=>by simpa only[bF]using h
 |c::cs,us,h=>by simp only[bV,bF]at h⊢;obtain⟨u,a1,I,aa,ak⟩:=h;exact⟨u,a1,I,⟨sN c u aa.1,aa.2⟩,KP cs a1 ak⟩
theorem A2{w:World}{ν:aC}:∀(cs:List ab) (us:List Value),bT w ν cs us->bT w ν (bF cs) us
 |[],_,h=>by simpa only[bF]using h
 |c::cs,us,h=>by simp only[bT,bF]at h⊢;obtain⟨u,a1,I,aa,ak⟩:=h;exact⟨u,a1,I,sN c u aa,A2 cs a1 ak⟩
theorem KL{w:World}{ν:aC}(sz:Nat):∀(xs:List ab) (us:List Value),cd w ν sz xs us->cd w ν sz (bF xs) us
 |[],_,h=>by simpa only[bF]using h
 |x::xs,us,h=>by simp only[cd,bF]at h⊢;obtain⟨u,a1,I,⟨aa,ak,aJ⟩,ba⟩:=h;exact⟨u,a1,I,⟨sN x u aa,ak,aJ⟩,KL sz xs a1 ba⟩
end
def aI(s:df)(k:aq):Prop:=(look k s.b).isSome=true\/(look k s.e).isSome=true
def bA{α β:Type}(s:List (aq×β)):List (aq×α)->List (aq×α)
 |[]=>[]
 |(k,x)::r=>match look k s with
  |some _=>bA s r
  |none=>(k,x)::bA s r
theorem pj{α β:Type}(s:List (aq×β))(k:aq):∀l:List (aq×α),look k (bA s l)=if(look k s).isSome then none else look k l
 |[]=>by simp[bA,look]
 |(i,x)::r=>by
  simp only[bA];by_cases e:i=k
  ·subst e;cases h:look i s with
   |some y=>simp[pj s i r,h]
   |none=>simp[look]
  ·cases h:look i s with
   |some y=>simp[pj s k r,look,e]
   |none=>simp[look,e,pj s k r]
theorem kA{α:Type}(k:aq):∀l fU:List (aq×α),look k (l++fU)=match look k l with|some x=>some x|none=>look k fU
 |[],fU=>by simp[look]
 |(i,x)::r,fU=>by
  by_cases e:i=k
  ·simp[look,e]
  ·simp[look,e,kA k r fU]
def after(st:aM)(s aj:df)(d:aR Nat)(r:ab):aM:={t:=eB d r st.t,b:=bA s.b st.b++aj.b,e:=bA s.e st.e++aj.e,n:=st.n,o:=st.o++ds aj}
section
open Classical
noncomputable def aC.join(ν ν':aC)(s aj:df):aC:={A:=ν'.A,bx:=fun k=>if(look k s.b).isSome\/(look k aj.b).isSome then ν'.bx k else ν.bx k,ow:=fun k=>if(look k s.e).isSome\/(look k aj.e).isSome then ν'.ow k else ν.ow k,tr:=fun k j b=>ν.tr k j b\/ν'.tr k j b}
end
theorem bK.callK{C:db}{st:aM}{a:Act}{w w':World}{ν ν':aC}(h:bK C st a w ν){s aj:df}(af:mK (aI s) s.b st.b)(he:nC (aI s) s.e st.e)(iE:gG s)
  (aL:Good (fun bl=>eX (ν.cut (aI s)) s bl\/w.heap.size<=bl) w' ν' aj.b aj.e) {κ:aR Nat} (ad:uT κ ν' aj) (zV:∀m,κ=some m->ν.bx (.loc m)=none/\ν.ow (.loc m)=none/\∀j b,¬ν.tr (.loc m) j b) {n':Nat} {o':List aq} (gd:∀k,fresh n' o' k->fresh st.n (st.o++ds aj) k/\∀m,κ=some m->k≠ .loc m) (pa:gG aj) (aH:mh ⟨w,ν.cut (aI s),eX (ν.cut (aI s)) s,0,ds s,h.fr.gl.cut _,[]⟩ w' ν')
  (CW:∀m,(look (.obj m) aj.b).isSome->(look (.obj m) s.b).isSome\/ .obj m∉st.o) (b5:∀m,(look (.obj m) aj.e).isSome->(look (.obj m) s.e).isSome\/ .obj m∉st.o) (d:aR Nat) (aG:fZ C.N d=true) {r:ab} {v:Value} (hr:aw w' ν' r v):
  bK C {after st s aj d r with n:=n',o:=o'} (a.put d v) w' (ν.join ν' s aj):=by
 have su:∀k,(look k s.b).isSome->(look k st.b).isSome:=fun k J=>by obtain⟨cs,cj⟩:=eb.1 J;simp[(af k cs cj).1]
 have gi:∀k,(look k s.e).isSome->(look k st.e).isSome:=fun k J=>by obtain⟨cs,cj⟩:=eb.1 J;simp[(he k cs cj).1]
 have QS:∀k,(look k aj.b).isSome->¬(look k s.b).isSome->ν.bx k=none:=fun k J aU=>by
  cases k with
  |loc m=>rw[pa.1 m]at J;cases J
  |obj m=>exact(h.new (.obj m) ⟨trivial,(CW m J).resolve_left aU⟩).1
 have QT:∀k,(look k aj.e).isSome->¬(look k s.e).isSome->ν.ow k=none:=fun k J aU=>by
  cases k with
  |loc m=>rw[pa.2 m]at J;cases J
  |obj m=>exact(h.new (.obj m) ⟨trivial,(b5 m J).resolve_left aU⟩).2.1
 have Rz:∀k,(look k s.b).isSome->(ν.join ν' s aj).bx k=ν'.bx k:=fun k J=>by simp[aC.join,J]
 have Jb:∀k,(look k aj.b).isSome->(ν.join ν' s aj).bx k=ν'.bx k:=fun k J=>by simp[aC.join,J]
 have Jc:∀k,ν.bx k≠none->¬(look k s.b).isSome->(ν.join ν' s aj).bx k=ν.bx k:=fun k I aa=>by have ak:¬(look k aj.b).isSome:=fun ak=>I (QS k ak aa);simp[aC.join,aa,ak]
 have RA:∀k,(look k s.e).isSome->(ν.join ν' s aj).ow k=ν'.ow k:=fun k J=>by simp[aC.join,J]
 have Dz:∀k,(look k aj.e).isSome->(ν.join ν' s aj).ow k=ν'.ow k:=fun k J=>by simp[aC.join,J]
 have DA:∀k,ν.ow k≠none->¬(look k s.e).isSome->(ν.join ν' s aj).ow k=ν.ow k:=fun k I aa=>by have ak:¬(look k aj.e).isSome:=fun ak=>I (QT k ak aa);simp[aC.join,aa,ak]
 have LW:∀k b,ν'.bx k=some b->(look k aj.b).isSome:=fun k b J=>by
  cases aB:look k aj.b with
  |some _=>rfl
  |none=>rw[(ad k).1 aB]at J;cases J
 have LX:∀k b,ν'.ow k=some b->(look k aj.e).isSome:=fun k b J=>by
  cases aB:look k aj.e with
  |some _=>rfl
  |none=>rw[(ad k).2.1 aB]at J;cases J
 have ag:kh w ν w' (ν.join ν' s aj):=by
  refine⟨fun b o aN=>aH.keep b o aN,fun k b _ J=>?_,fun g n u _ aL=>?_,fun b o aN=>aH.sh b o aN,fun _ _ _ _ h=>.inl h⟩
  ·by_cases ao:(look k s.b).isSome
   ·rw[Rz k ao];cases k with
    |loc m=>rw[iE.1 m]at ao;cases ao
    |obj m=>exact aH.obj m b (by rw[aC.cut_bx (.inl ao)];exact J)
   ·rw[Jc k (by rw[J];simp) ao];exact J
  ·by_cases ao:(look g s.e).isSome
   ·rw[RA g ao];cases g with
    |loc m=>rw[iE.2 m]at ao;cases ao
    |obj m=>exact aH.row m n u (by rw[aC.cut_ow (.inr ao)];exact aL)
   ·rw[DA g (by rw[aL];simp) ao];exact⟨n,u,aL,.inl ⟨rfl,rfl⟩⟩
 have fM:kh w' ν' w' (ν.join ν' s aj):=⟨fun b o aN=>⟨aN,rfl⟩,fun k b _ J=>by rw[Jb k (LW k b J)];exact J,fun g n u _ J=>⟨n,u,by rw[Dz g (LX g _ J)];exact J,.inl ⟨rfl,rfl⟩⟩,fun _ _ _=>rfl,fun _ _ _ _ h=>.inr h⟩
 have ll:∀bl,eX (ν.cut (aI s)) s bl->C.pr bl/\bl<w.heap.size:=by
  intro bl eJ;rcases eJ with⟨k,I,aa⟩|⟨g,n,u,I,aa,ak⟩
  ·have aJ:=(aC.cut_some aa).2;obtain⟨cs,cj⟩:=eb.1 (su k I);obtain⟨fB,us,el,g1,g2,_⟩:=h.good.box k cs cj;rw[aJ]at g1;cases g1;exact⟨g2,h.good.boxLt cj aJ⟩
  ·have aJ:=(aC.cut_someO aa).2;obtain⟨o,zK⟩:=eb.1 (gi g I);obtain⟨v',us,g1,g2,g3,_⟩:=h.good.own g o zK;rw[aJ]at g1;cases g1;exact⟨(g3 bl ak).1,h.good.ownLt zK aJ ak⟩
 have IT:∀bl,eX (ν.cut (aI s)) s bl\/w.heap.size<=bl->C.pr bl:=fun bl eJ=>by
  rcases eJ with eJ|eJ
  ·exact(ll bl eJ).1
  ·exact .inr (Nat.le_trans h.fr.size eJ)
 have Q5:∀k cs bl,look k st.b=some cs->¬(look k s.b).isSome->ν.bx k=some bl->¬eX (ν.cut (aI s)) s bl:=by
  intro k cs bl I aa ak aJ;rcases aJ with⟨aW,bt,a2⟩|⟨g,n,u,bt,a2,a3⟩
  ·have:=h.good.inj k aW bl (by simp[I]) (su aW bt) ak (aC.cut_some a2).2;subst this;exact aa bt
  ·exact h.good.obx g k n u bl (gi g bt) (by simp[I]) (aC.cut_someO a2).2 a3 ak
 have Q6:∀g o n u bl,look g st.e=some o->¬(look g s.e).isSome->ν.ow g=some (n,u)->u.ownBlock=some bl->¬eX (ν.cut (aI s)) s bl:=by
  intro g o n u bl I aa ak aJ ba;rcases ba with⟨aW,bt,a2⟩|⟨dF,n',dn,bt,a2,a3⟩
  ·exact h.good.obx g aW n u bl (by simp[I]) (su aW bt) ak aJ (aC.cut_some a2).2
  ·have:=h.good.oinj g dF n n' u dn bl (by simp[I]) (gi dF bt) ak (aC.cut_someO a2).2 aJ a3;subst this;exact aa bt
 have GK:∀k cs,look k (bA s.b st.b++aj.b)=some cs->(¬(look k s.b).isSome/\look k st.b=some cs)\/look k aj.b=some cs:=by
  intro k cs J;rw[kA,pj]at J;by_cases ao:(look k s.b).isSome
  ·simp only[ao,if_true]at J;exact .inr J
  ·simp only[ao]at J;cases aB:look k st.b with
   |some x=>simp[aB]at J;subst J;exact .inl ⟨ao,rfl⟩
   |none=>simp[aB]at J;exact .inr J
 have GL:∀k cs,look k (bA s.e st.e++aj.e)=some cs->(¬(look k s.e).isSome/\look k st.e=some cs)\/look k aj.e=some cs:=by
  intro k cs J;rw[kA,pj]at J;by_cases ao:(look k s.e).isSome
  ·simp only[ao,if_true]at J;exact .inr J
  ·simp only[ao]at J;cases aB:look k st.e with
   |some x=>simp[aB]at J;subst J;exact .inl ⟨ao,rfl⟩
   |none=>simp[aB]at J;exact .inr J
 have wi:∀bl,eX (ν.cut (aI s)) s bl\/w.heap.size<=bl->∀fB,fB<w.heap.size->¬eX (ν.cut (aI s)) s fB->bl≠fB:=by
  intro bl I fB aa ak e;subst e;rcases I with I|I
  ·exact ak I
  ·omega
 have DD:∀bl,bl<w.heap.size->¬eX (ν.cut (aI s)) s bl->w'.heap[bl]? =w.heap[bl]?:=fun bl I aa=>aH.block bl I aa;have isB:∀k bl,(look k (bA s.b st.b++aj.b)).isSome->(ν.join ν' s aj).bx k=some bl->(¬(look k s.b).isSome/\(look k st.b).isSome/\ν.bx k=some bl)\/((look k aj.b).isSome/\ν'.bx k=some bl):=by
  intro k bl J hv;obtain⟨cs,cj⟩:=eb.1 J;rcases GK k cs cj with⟨I,aa⟩|I
  ·obtain⟨fB,us,el,g1,_⟩:=h.good.box k cs aa;rw[Jc k (by rw[g1];simp) I]at hv;exact .inl ⟨I,by simp[aa],hv⟩
  ·rw[Jb k (by simp[I])]at hv;exact .inr ⟨by simp[I],hv⟩
 have zX:∀k x,(look k (bA s.e st.e++aj.e)).isSome->(ν.join ν' s aj).ow k=some x->(¬(look k s.e).isSome/\(look k st.e).isSome/\ν.ow k=some x)\/((look k aj.e).isSome/\ν'.ow k=some x):=by
  intro k x J hv;obtain⟨cs,cj⟩:=eb.1 J;rcases GL k cs cj with⟨I,aa⟩|I
  ·obtain⟨v',us,g1,_⟩:=h.good.own k cs aa;rw[DA k (by rw[g1];simp) I]at hv;exact .inl ⟨I,by simp[aa],hv⟩
  ·rw[Dz k (by simp[I])]at hv;exact .inr ⟨by simp[I],hv⟩
 have wP:∀k bl,¬(look k s.b).isSome->(look k st.b).isSome->ν.bx k=some bl->bl<w.heap.size/\¬eX (ν.cut (aI s)) s bl:=by intro k bl I aa ak;obtain⟨cs,cj⟩:=eb.1 aa;exact⟨h.good.boxLt cj ak,Q5 k cs bl cj I ak⟩
 have uj:∀k n u bl,¬(look k s.e).isSome->(look k st.e).isSome->ν.ow k=some (n,u)->u.ownBlock=some bl->bl<w.heap.size/\¬eX (ν.cut (aI s)) s bl:=by intro k n u bl I aa ak aJ;obtain⟨cs,cj⟩:=eb.1 aa;exact⟨h.good.ownLt cj ak aJ,Q6 k cs n u bl cj I ak aJ⟩
 have yQ:∀k bl,(look k aj.b).isSome->ν'.bx k=some bl->eX (ν.cut (aI s)) s bl\/w.heap.size<=bl:=by intro k bl I aa;obtain⟨cs,cj⟩:=eb.1 I;obtain⟨fB,us,el,g1,g2,_⟩:=aL.box k cs cj;rw[aa]at g1;cases g1;exact g2
 have A4:∀k n u bl,(look k aj.e).isSome->ν'.ow k=some (n,u)->u.ownBlock=some bl->eX (ν.cut (aI s)) s bl\/w.heap.size<=bl:=by intro k n u bl I aa ak;obtain⟨cs,cj⟩:=eb.1 I;obtain⟨v',us,g1,g2,g3,_⟩:=aL.own k cs cj;rw[aa]at g1;cases g1;exact(g3 bl ak).1
 have aN:∀bl o,ν'.A bl o->bl<w.heap.size->¬eX (ν.cut (aI s)) s bl->ν.A bl o:=by
  intro bl o I aa ak;rcases aH.fresh bl o I with aJ|aJ|aJ
  ·exact aJ
  ·exact absurd aJ ak
  ·simp only at aJ;omega
 have kX:bK C {t:=st.t,b:=bA s.b st.b++aj.b,e:=bA s.e st.e++aj.e,n:=n',o:=o'} a w' (ν.join ν' s aj):=by
  refine h.over ag rfl ⟨aL.alt,fun k cs J=>?_,fun k aW bl I aa ak aJ=>?_,fun g o dS=>?_,fun g dF n n' u dn bl I aa ak aJ ba cq=>?_,fun g k n u bl I aa ak aJ ba=>?_,fun k=>?_,fun bl au k j eC=>?_⟩
   ⟨aH.os.trans h.fr.os,aH.tape.trans h.fr.tape,aH.output.trans h.fr.output,Nat.le_trans h.fr.size aH.size,fun k J hm=>?_,fun b o oY=>?_,fun b o oY=>?_,fun n b aU=>ag.bx _ _ trivial (h.fr.obj n b aU),h.fr.obn,
    fun m n u hm=>ym (h.fr.row m n u hm) (fun n u=>ag.ow _ n u trivial),h.fr.obr,fun k j aW dc b I aa=>?_,fun k j b af=>?_,fun k j b af=>?_,fun b o aN=>(ag.sh b o (h.fr.keep b o aN).1).trans (h.fr.sh b o aN),fun j n u b ai aE=>h.fr.nrow j n u b (by simpa[aC.join,iE.2 j,pa.2 j]using ai) aE⟩ (fun k J=>?_) (fun m hm=>n3 (cx _) (fun _ h=>kf _ h) (gd m hm).1)
  ·rcases GK k cs J with⟨I,aa⟩|I
   ·obtain⟨bl,us,el,g1,g2,g3,g4,g5⟩:=h.good.box k cs aa;obtain⟨bO,bU⟩:=wP k bl I (by simp[aa]) g1;exact⟨bl,us,el,ag.bx _ _ trivial g1,g2,fun o oY=>g3 o (aN bl o oY bO bU),by rw[DD bl bO bU];exact g4,ny ag g5⟩
   ·obtain⟨bl,us,el,g1,g2,g3,g4,g5⟩:=aL.box k cs I;exact⟨bl,us,el,fM.bx _ _ trivial g1,IT bl g2,g3,g4,ny fM g5⟩
  ·rcases isB k bl I ak with⟨bt,a2,a3⟩|⟨bt,a2⟩<;>rcases isB aW bl aa aJ with⟨bO,bU,fj⟩|⟨bO,bU⟩
   ·exact h.good.inj k aW bl a2 bU a3 fj
   ·obtain⟨cJ,c2⟩:=wP k bl bt a2 a3;exact absurd rfl (wi bl (yQ aW bl bO bU) bl cJ c2)
   ·obtain⟨cJ,c2⟩:=wP aW bl bO bU fj;exact absurd rfl (wi bl (yQ k bl bt a2) bl cJ c2)
   ·exact aL.inj k aW bl bt bO a2 bU
  ·rcases GL g o dS with⟨I,aa⟩|I
   ·obtain⟨u,us,g1,g2,g3,g4⟩:=h.good.own g o aa;refine⟨u,us,by rw[DA g (by rw[g1];simp) I];exact g1,⟨g2.1,?_⟩,fun bl eJ=>?_,pA ag (fun bl eJ j oY=>?_) g4⟩
    ·rcases g2.2 with aE|⟨ha,cap,cur,f1,f2,f3,f4⟩
     ·exact .inl aE
     ·obtain⟨bO,bU⟩:=uj g _ u ha I (by simp[aa]) g1 (by rw[f1];rfl);exact .inr ⟨ha,cap,cur,f1,f2,by rw[DD ha bO bU];exact f3,f4⟩
    ·obtain⟨bO,bU⟩:=uj g _ u bl I (by simp[aa]) g1 eJ;exact⟨(g3 bl eJ).1,fun j oY=>(g3 bl eJ).2 j (aN bl j oY bO bU)⟩
    ·obtain⟨bO,bU⟩:=uj g _ u bl I (by simp[aa]) g1 eJ;exact aN bl j oY bO bU
   ·obtain⟨u,us,g1,g2,g3,g4⟩:=aL.own g o I;exact⟨u,us,by rw[Dz g (by simp[I])];exact g1,g2,fun bl eJ=>⟨IT bl (g3 bl eJ).1,(g3 bl eJ).2⟩,pA fM (fun _ _ _ h=>h) g4⟩
  ·rcases zX g _ I ak with⟨bt,a2,a3⟩|⟨bt,a2⟩<;>rcases zX dF _ aa aJ with⟨bO,bU,fj⟩|⟨bO,bU⟩
   ·exact h.good.oinj g dF n n' u dn bl a2 bU a3 fj ba cq
   ·obtain⟨cJ,c2⟩:=uj g n u bl bt a2 a3 ba;exact absurd rfl (wi bl (A4 dF n' dn bl bO bU cq) bl cJ c2)
   ·obtain⟨cJ,c2⟩:=uj dF n' dn bl bO bU fj cq;exact absurd rfl (wi bl (A4 g n u bl bt a2 ba) bl cJ c2)
   ·exact aL.oinj g dF n n' u dn bl bt bO a2 bU ba cq
  ·rcases zX g _ I ak with⟨bt,a2,a3⟩|⟨bt,a2⟩<;>rcases isB k bl aa ba with⟨bO,bU,fj⟩|⟨bO,bU⟩
   ·exact h.good.obx g k n u bl a2 bU a3 aJ fj
   ·obtain⟨cJ,c2⟩:=uj g n u bl bt a2 a3 aJ;exact absurd rfl (wi bl (yQ k bl bO bU) bl cJ c2)
   ·obtain⟨cJ,c2⟩:=wP k bl bO bU fj;exact absurd rfl (wi bl (A4 g n u bl bt a2 aJ) bl cJ c2)
   ·exact aL.obx g k n u bl bt bO a2 aJ bU
  ·
   cases hv:(ν.join ν' s aj).bx k with
   |none=>exact .inl rfl
   |some bl=>
    right;cases lr:(ν.join ν' s aj).ow k with
    |none=>rfl
    |some x=>
     exfalso;have ai:(ν.bx k=some bl/\¬(look k s.b).isSome/\¬(look k aj.b).isSome)\/ν'.bx k=some bl:=by
      by_cases ao:(look k s.b).isSome\/(look k aj.b).isSome
      ·right;simpa[aC.join,ao]using hv
      ·left;simp only[not_or]at ao;exact⟨by simpa[aC.join,ao.1,ao.2]using hv,ao.1,ao.2⟩
     have aE:(ν.ow k=some x/\¬(look k s.e).isSome/\¬(look k aj.e).isSome)\/ν'.ow k=some x:=by
      by_cases ao:(look k s.e).isSome\/(look k aj.e).isSome
      ·right;simpa[aC.join,ao]using lr
      ·left;simp only[not_or]at ao;exact⟨by simpa[aC.join,ao.1,ao.2]using lr,ao.1,ao.2⟩
     rcases ai with⟨bt,a2,a3⟩|bt<;>rcases aE with⟨bO,bU,fj⟩|bO
     ·rcases h.good.one k with bn|bn
      ·rw[bn]at bt;cases bt
      ·rw[bn]at bO;cases bO
     ·have CR:=LX k x bO;have dT:(look k s.e).isSome:=by
       cases k with
       |loc m=>rw[pa.2 m]at CR;cases CR
       |obj m=>
        rcases b5 m CR with bn|bn
        ·exact bn
        ·rw[(h.new (.obj m) ⟨trivial,bn⟩).1]at bt;cases bt
      obtain⟨o,zK⟩:=eb.1 (gi k dT);obtain⟨v',us,g1,_⟩:=h.good.own k o zK;rcases h.good.one k with bn|bn
      ·rw[bn]at bt;cases bt
      ·rw[bn]at g1;cases g1
     ·have CQ:=LW k bl bt;have dT:(look k s.b).isSome:=by
       cases k with
       |loc m=>rw[pa.1 m]at CQ;cases CQ
       |obj m=>
        rcases CW m CQ with bn|bn
        ·exact bn
        ·rw[(h.new (.obj m) ⟨trivial,bn⟩).2.1]at bO;cases bO
      obtain⟨cs,cj⟩:=eb.1 (su k dT);obtain⟨fB,us,el,g1,_⟩:=h.good.box k cs cj;rcases h.good.one k with bn|bn
      ·rw[bn]at g1;cases g1
      ·rw[bn]at bO;cases bO
     ·rcases aL.one k with bn|bn
      ·rw[bn]at bt;cases bt
      ·rw[bn]at bO;cases bO
  ·have IA:∀k j,ν'.tr k j bl->w.heap.size<=bl:=fun k j bn=>by
    rcases(aH.trb k j bl bn).1 with a2|a2
    ·obtain⟨m,_,hm⟩:=(ad k).2.2 j bl bn;rw[hm]at a2;cases a2
    ·exact a2
   have hold:eX (ν.cut (aI s)) s bl->¬ν.tr k j bl:=by
    rintro(⟨aW,bt,a2⟩|⟨g,n,u,bt,a2,a3⟩) bn
    ·exact h.good.otr bl (.inl ⟨aW,su aW bt,(aC.cut_some a2).2⟩) k j bn
    ·exact h.good.otr bl (.inr ⟨g,n,u,gi g bt,(aC.cut_someO a2).2,a3⟩) k j bn
   have iD:eX (ν.cut (aI s)) s bl\/w.heap.size<=bl->¬ν.tr k j bl:=by
    rintro(I|I) bn
    ·exact hold I bn
    ·have:=(h.fr.trb k j bl bn).2;omega
   rcases au with⟨aW,bt,a2⟩|⟨g,n,u,bt,a2,a3⟩
   ·rcases isB aW bl bt a2 with⟨bO,bU,fj⟩|⟨bO,bU⟩
    ·rcases eC with eC|eC
     ·exact h.good.otr bl (.inl ⟨aW,bU,fj⟩) k j eC
     ·have:=(wP aW bl bO bU fj).1;have:=IA k j eC;omega
    ·rcases eC with eC|eC
     ·exact iD (yQ aW bl bO bU) eC
     ·exact aL.otr bl (.inl ⟨aW,bO,bU⟩) k j eC
   ·rcases zX g _ bt a2 with⟨bO,bU,fj⟩|⟨bO,bU⟩
    ·rcases eC with eC|eC
     ·exact h.good.otr bl (.inr ⟨g,n,u,bU,fj,a3⟩) k j eC
     ·have:=(uj g n u bl bO bU fj a3).1;have:=IA k j eC;omega
    ·rcases eC with eC|eC
     ·exact iD (A4 g n u bl bO bU a3) eC
     ·exact aL.otr bl (.inr ⟨g,n,u,bO,bU,a3⟩) k j eC
  ·have b4:k<w.heap.size:=Nat.lt_of_lt_of_le J h.fr.size;rw[DD k b4 fun eJ=>by
    rcases(ll k eJ).1 with I|I
    ·exact hm I
    ·omega]
   exact h.fr.block k J hm
  ·obtain⟨ct,cN⟩:=h.fr.keep b o oY;obtain⟨gF,jt⟩:=aH.keep b o ct;exact⟨gF,jt.trans cN⟩
  ·rcases aH.fresh b o oY with aJ|aJ|aJ
   ·exact h.fr.fresh b o aJ
   ·exact .inr (ll b aJ).1
   ·exact .inr (.inr (Nat.le_trans h.fr.size aJ))
  ·rcases I with I|I<;>rcases aa with aa|aa
   ·exact h.fr.trd k j aW dc b I aa
   ·have bt:=(h.fr.trb k j b I).2;have a2:=(aH.trb aW dc b aa).1;rcases a2 with a2|a2
    ·obtain⟨m,_,hm⟩:=(ad aW).2.2 dc b aa;rw[hm]at a2;cases a2
    ·simp only at a2;omega
   ·have bt:=(h.fr.trb aW dc b aa).2;have a2:=(aH.trb k j b I).1;rcases a2 with a2|a2
    ·obtain⟨m,_,hm⟩:=(ad k).2.2 j b I;rw[hm]at a2;cases a2
    ·simp only at a2;omega
   ·exact aH.trd k j aW dc b I aa
  ·rcases af with af|af
   ·exact⟨(h.fr.trb k j b af).1,Nat.lt_of_lt_of_le (h.fr.trb k j b af).2 aH.size⟩
   ·refine⟨.inr ?_,(aH.trb k j b af).2⟩;rcases(aH.trb k j b af).1 with a2|a2
    ·obtain⟨m,_,hm⟩:=(ad k).2.2 j b af;rw[hm]at a2;cases a2
    ·exact Nat.le_trans h.fr.size a2
  ·have key:ν.bx k=none/\ν.ow k=none/\¬(look k aj.b).isSome/\¬(look k aj.e).isSome:=by
    rcases af with af|af
    ·obtain⟨t1,t2⟩:=h.fr.trn k j b af;refine⟨t1,t2,fun bn=>?_,fun bn=>?_⟩
     ·cases k with
      |loc m=>rw[pa.1 m]at bn;cases bn
      |obj m=>
       rcases CW m bn with ba|ba
       ·obtain⟨cs,cj⟩:=eb.1 (su _ ba);obtain⟨fB,us,el,g1,_⟩:=h.good.box _ cs cj;rw[t1]at g1;cases g1
       ·exact(h.new (.obj m) ⟨trivial,ba⟩).2.2 j b af
     ·cases k with
      |loc m=>rw[pa.2 m]at bn;cases bn
      |obj m=>
       rcases b5 m bn with ba|ba
       ·obtain⟨cs,cj⟩:=eb.1 (gi _ ba);obtain⟨fB,us,g1,_⟩:=h.good.own _ cs cj;rw[t2]at g1;cases g1
       ·exact(h.new (.obj m) ⟨trivial,ba⟩).2.2 j b af
    ·obtain⟨m,hm,rfl⟩:=(ad k).2.2 j b af;obtain⟨t1,t2,_⟩:=zV m hm;exact⟨t1,t2,by simp[pa.1 m],by simp[pa.2 m]⟩
   obtain⟨t1,t2,t3,t4⟩:=key;have t5:¬(look k s.b).isSome:=fun bn=>by obtain⟨cs,cj⟩:=eb.1 (su _ bn);obtain⟨fB,us,el,g1,_⟩:=h.good.box _ cs cj;rw[t1]at g1;cases g1
   have t6:¬(look k s.e).isSome:=fun bn=>by obtain⟨cs,cj⟩:=eb.1 (gi _ bn);obtain⟨fB,us,g1,_⟩:=h.good.own _ cs cj;rw[t2]at g1;cases g1
   exact⟨by simp[aC.join,t3,t5,t1],by simp[aC.join,t4,t6,t2]⟩
  ·
   simp only at J;obtain⟨J,Qz⟩:=gd k J;have IG:(∀j b,¬ν.tr k j b)->∀j b,¬(ν.join ν' s aj).tr k j b:=fun I j b af=>by
    rcases af with af|af
    ·exact I j b af
    ·obtain⟨m,hm,e⟩:=(ad k).2.2 j b af;exact Qz m hm e
   cases k with
   |loc m=>obtain⟨e9,eA,hE⟩:=h.new (.loc m) (n3 (cx _) (fun _ h=>kf _ h) J);exact⟨by simp[aC.join,iE.1 m,pa.1 m,e9],by simp[aC.join,iE.2 m,pa.2 m,eA],IG hE⟩
   |obj m=>
    simp only[fresh,hp,not_or,true_and]at J;obtain⟨e9,eA,hE⟩:=h.new (.obj m) ⟨trivial,J.1⟩;have bL:¬(look (.obj m) aj.b).isSome:=fun bn=>J.2 (q2 (.inl bn));have ck:¬(look (.obj m) aj.e).isSome:=fun bn=>J.2 (q2 (.inr bn));have dd:¬(look (.obj m) s.b).isSome:=fun bn=>by obtain⟨cs,cj⟩:=eb.1 (su _ bn);obtain⟨fB,us,el,g1,_⟩:=h.good.box _ cs cj;rw[e9]at g1;cases g1
    have du:¬(look (.obj m) s.e).isSome:=fun bn=>by obtain⟨cs,cj⟩:=eb.1 (gi _ bn);obtain⟨v',us,g1,_⟩:=h.good.own _ cs cj;rw[eA]at g1;cases g1
    exact⟨by simp[aC.join,bL,dd,e9],by simp[aC.join,ck,du,eA],IG hE⟩
 exact kX.put aG (rb fM hr)
end
end Go.Pv
