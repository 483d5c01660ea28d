/- A call, by its contract. -/
import Derived.Deep.AppendSrc
import Derived.Laws.OwnMore
import Derived.Test.YtlnndmgfngfeiaaGreatDoorZp1
set_option linter.all false
set_option maxHeartbeats 4000000
set_option maxRecDepth 4000
open Bool renaming and_eq_true->bM,false_eq_true->kk
open ByteArray renaming size->KT
open Go renaming Operand->h7,Program->bK,TypeId->fI
open Go.Builtin renaming append_->sx
open Go.Result renaming andThen_ok->e4
open Go.Sem renaming run_bind->e2,run_pure->fH
open Go.Value renaming cells->oF,int->nK,ownBlock->nh
open Go.World.grownBy renaming refl->aeR
open List renaming append_assoc->kE,cons_append->dm,eq_nil_of_length_eq_zero->q1,getElem?_append_left->qa,getElem?_eq_getElem->cF,getElem?_eq_some_iff->e3,length_append->j2,length_cons->lx,length_drop->hg,length_pos_iff->q2,length_take->pe,map_cons->gY,mem_append->hv,mem_append_left->lY,mem_append_right->j3,mem_map->lZ,nil_append->ef,take_append_drop->q3,take_length->j4
open Nat renaming le_refl->cq
open Option renaming isSome_iff_exists->e5,isSome_none->sD,map_none->tG,map_some->kF
open Option.some renaming injEq->dZ
open Prod.mk renaming injEq->gA
open _root_ renaming ByteArray->jL,False->cZ,Option->aT,UInt8->al,beq_iff_eq->ej,congrArg->er,decide_eq_true_eq->fK,if_neg->bq
namespace Go.Pv
section
open Go Go.RowKit
theorem bX.inPlace{C:ek}{st:aS}{a:Act}{w:World}{ν:aP}(h:bX C st a w ν){k:aC}{o:cV}(aa:look k st.e=some o){bl cap:Nat}{cur:Array Value}(aM:ν.ow k=some (o.n,.slice (some ⟨bl,0,none⟩) o.n cap))
  (uh:w.heap[bl]? =some (.cells cur o.el (0,0))) (sX:cap<=maxLen) (dq:cur.size=cap*o.sz) {xs ys:List ae} {us ns:List Value} (oi:xs.length=o.n) (lh:cur.toList.take (o.n*o.sz)=us) (aE:cC w ν o.sz xs us) (Ba:cC w ν o.sz ys ns)
  (gS:0<ys.length) (ny:o.n+ys.length<=cap) (gJ:xs.length+ys.length<=bN):
  bX C {st with e:=cT k ⟨o.n+ys.length,o.el,o.sz,none⟩ st.e} a (w.setRow bl (us++ns++cur.toList.drop (o.n*o.sz+ns.length)).toArray)
   (ν.withRowOf k (.slice (some ⟨bl,0,none⟩) (o.n+ys.length) cap) (o.n+ys.length) ((o.n+ys.length)*o.sz))/\
  aH (w.setRow bl (us++ns++cur.toList.drop (o.n*o.sz+ns.length)).toArray) (ν.withRowOf k (.slice (some ⟨bl,0,none⟩) (o.n+ys.length) cap) (o.n+ys.length) ((o.n+ys.length)*o.sz))
   (.slice o.sz (.own k) (xs++ys)) (.slice (some ⟨bl,0,none⟩) (o.n+ys.length) cap):=by
 have jC:=p0 Ba;have qA:=p0 aE;rw[oi]at qA;have hmul:(o.n+ys.length)*o.sz<=cap*o.sz:=Nat.mul_le_mul_right _ ny;rw[Nat.add_mul]at hmul;obtain⟨v0,eY,bR,cA,dE,_⟩:=h.good.own k o aa;rw[aM]at bR;cases bR;obtain⟨dM,cP⟩:=dE bl rfl;generalize oh:w.setRow bl (us++ns++cur.toList.drop (o.n*o.sz+ns.length)).toArray=w';have mQ:∀j,j≠bl->w'.heap[j]? =w.heap[j]?:=fun j aw=>by rw[<-oh];exact setRow_other w bl j _ aw
 have j8:w'.heap[bl]? =some (.cells (us++ns++cur.toList.drop (o.n*o.sz+ns.length)).toArray o.el (0,0)):=by rw[<-oh];exact setRow_heap w bl cur _ o.el _ uh
 have HW:w'.heap.size=w.heap.size:=by rw[<-oh];exact setRow_size w bl _
 have oa:∀j,j<o.n*o.sz->w'.cell? ⟨bl,j,none⟩=w.cell? ⟨bl,j,none⟩:=by intro j aw;simp only[World.cell?,j8,uh,sD,kk,if_false];rw[List.getElem?_toArray,kE,qa Ω,<-lh,List.getElem?_take,if_pos aw];simp
 have ak:l1 w ν w' (ν.withRowOf k (.slice (some ⟨bl,0,none⟩) (o.n+ys.length) cap) (o.n+ys.length) ((o.n+ys.length)*o.sz)):=by
  refine⟨fun b j aW=>⟨.inl aW,?_⟩,fun j b _ aw=>aw,fun g n u _ im=>?_,fun b j aW=>?_,fun _ _ _ _ h=>h⟩;rotate_left 2
  ·by_cases e:b=bl
   ·subst e;simp only[shape,j8,uh,List.size_toArray,j2,hg,Array.length_toList];congr 2;omega
   ·exact zX (mQ b e)
  ·by_cases e:b=bl
   ·subst e;exact oa j (cP j aW)
   ·exact World.cell?_of_block (mQ b e)
  ·by_cases e:g=k
   ·subst e;rw[aM]at im;cases im;exact⟨o.n+ys.length,.slice (some ⟨bl,0,none⟩) (o.n+ys.length) cap,by simp[aP.withRowOf],.inr Ω⟩
   ·exact⟨n,u,by simp[aP.withRowOf,e,im],.inl ⟨rfl,rfl⟩⟩
 have kv:∀g,(look g (cT k ⟨o.n+ys.length,o.el,o.sz,none⟩ st.e)).isSome->g=k\/(g≠k/\(look g st.e).isSome/\(ν.withRowOf k (.slice (some ⟨bl,0,none⟩) (o.n+ys.length) cap) (o.n+ys.length) ((o.n+ys.length)*o.sz)).ow g=ν.ow g):=by
  intro g gg;by_cases e:g=k
  ·exact .inl e
  ·rw[iQ,bq (Ne.symm e)]at gg;exact .inr ⟨e,gg,by simp[aP.withRowOf,e]⟩
 have agD:bl<w.heap.size:=(Array.getElem?_eq_some_iff.1 uh).1;have A9:∀j u,(us++ns)[j]? =some u->w'.cell? ⟨bl,j,none⟩=some u:=by intro j u aw;have fs:=(e3.1 aw).1;simp only[World.cell?,j8,sD,kk,if_false];rw[List.getElem?_toArray,qa fs];exact aw
 refine⟨h.over ak rfl ⟨fun b j aW=>?_,fun j c1 aw=>?_,h.good.inj,fun g o' eO=>?_,fun g eM n n' u eA b I J ao aO bp cj=>?_,fun g j n u b I J ao aO bp=>?_,fun j=>?_,fun b ah=>h.good.otr b ?_⟩
  ⟨by rw[<-oh];exact h.fr.os,by rw[<-oh];exact h.fr.tape,by rw[<-oh];exact h.fr.output,by rw[HW];exact h.fr.size,fun j aw hm=>?_,fun b j aW=>?_,fun b j aW=>?_,h.fr.obj,h.fr.obn,fun m n u hm=>Cq (h.fr.row m n u hm) (fun n u=>ak.ow _ n u trivial),h.fr.obr,h.fr.trd,fun k j b ah=>⟨(h.fr.trb k j b ah).1,by rw[HW];exact(h.fr.trb k j b ah).2⟩,fun bb j b ah=>?_,fun b o aW=>(ak.sh b o (h.fr.keep b o aW).1).trans (h.fr.sh b o aW),fun j n u b aj aJ=>(by
   by_cases e:aC.loc j=k
   ·subst e;simp only[aP.withRowOf,if_true,dZ,gA]at aj;rw[<-aj.2]at aJ;have bs:b=bl:=by simpa[nh]using aJ.symm
    subst bs;exact h.fr.nrow j _ _ b aM rfl
   ·simp only[aP.withRowOf,bq e]at aj;exact h.fr.nrow j n u b aj aJ)⟩ (fun m hm=>?_),?_⟩
 ·rw[HW];rcases aW with aW|⟨aW,_⟩
  ·exact h.good.alt b j aW
  ·simp only[nh,dZ]at aW;omega
 ·obtain⟨b,br,eS,g1,g2,g3,g4,g5⟩:=h.good.box j c1 aw;have b4:b≠bl:=fun e=>h.good.obx k j o.n _ bl (by simp[aa]) (by simp[aw]) aM rfl (by rw[<-e];exact g1);refine⟨b,br,eS,g1,g2,fun i aW=>?_,by rw[mQ b b4];exact g4,pZ ak g5⟩;rcases aW with aW|⟨aW,_⟩
  ·exact g3 i aW
  ·simp only[nh,dZ]at aW;exact b4 aW.symm
 ·simp only at eO;rw[iQ]at eO;by_cases e:k=g
  ·rw[if_pos e]at eO;cases eO;subst e;refine⟨.slice (some ⟨bl,0,none⟩) (o.n+ys.length) cap,us++ns,by simp[aP.withRowOf],⟨by rw[j2,qA,jC,Nat.add_mul],.inr ⟨bl,cap,_,rfl,Nat.zero_le _,j8,ny,sX,?_,?_⟩⟩,fun b ah=>⟨?_,fun j aW=>?_⟩,fun ys bA=>by cases bA⟩
   ·simp only[List.size_toArray,j2,hg,Array.length_toList];omega
   ·have aG:(us++ns).length=(o.n+ys.length)*o.sz:=by rw[j2,qA,jC,Nat.add_mul]
    simp only[<-aG];rw[List.take_append_of_le_length (cq _),j4]
   ·simp only[nh,dZ]at ah;subst ah;exact dM
   ·simp only[nh,dZ]at ah;subst ah;rcases aW with aW|⟨_,aW⟩
    ·have:=cP j aW;simp only;rw[Nat.add_mul];omega
    ·exact aW
  ·rw[bq e]at eO;obtain⟨v0,eY,aj,aJ,bs,ch⟩:=h.good.own g o' eO;have b4:∀b,v0.ownBlock=some b->b≠bl:=fun b ah GO=>e (h.good.oinj k g o.n o'.n _ v0 bl (by simp[aa]) (by simp[eO]) aM aj rfl (by rw[<-GO];exact ah));have vC:∀b,v0.ownBlock=some b->∀j,(ν.withRowOf k (.slice (some ⟨bl,0,none⟩) (o.n+ys.length) cap) (o.n+ys.length) ((o.n+ys.length)*o.sz)).A b j->ν.A b j:=fun b ah j aW=>by
    rcases aW with aW|⟨aW,_⟩
    ·exact aW
    ·simp only[nh,dZ]at aW;exact absurd aW.symm (b4 b ah)
   refine⟨v0,eY,by simp[aP.withRowOf,Ne.symm e,aj],⟨aJ.1,?_⟩,fun b ah=>⟨(bs b ah).1,fun j aW=>(bs b ah).2 j (vC b ah j aW)⟩,se ak vC ch⟩;rcases aJ.2 with aJ|⟨ia,AH,l6,f1,f2,f3,f4⟩
   ·exact .inl aJ
   ·exact .inr ⟨ia,AH,l6,f1,f2,by rw[mQ ia (b4 ia (by rw[f1];rfl))];exact f3,f4⟩
 ·rcases kv g I with rfl|⟨gy,fx,iR⟩<;>rcases kv eM J with rfl|⟨m1,m2,m3⟩
  ·rfl
  ·exfalso;simp only[aP.withRowOf,if_true,dZ,gA]at ao;rw[m3]at aO;rw[<-ao.2]at bp;simp only[nh,dZ]at bp;subst bp;exact m1 (h.good.oinj eM g n' o.n eA _ bl m2 (by simp[aa]) aO aM cj rfl)
  ·exfalso;simp only[aP.withRowOf,if_true,dZ,gA]at aO;rw[iR]at ao;rw[<-aO.2]at cj;simp only[nh,dZ]at cj;subst cj;exact gy (h.good.oinj g eM n o.n u _ bl fx (by simp[aa]) ao aM bp rfl)
  ·rw[iR]at ao;rw[m3]at aO;exact h.good.oinj g eM n n' u eA b fx m2 ao aO bp cj
 ·rcases kv g I with rfl|⟨gy,fx,iR⟩
  ·simp only[aP.withRowOf,if_true,dZ,gA]at ao;rw[<-ao.2]at aO;simp only[nh,dZ]at aO;subst aO;exact h.good.obx g j o.n _ bl (by simp[aa]) J aM rfl bp
  ·rw[iR]at ao;exact h.good.obx g j n u b fx J ao aO bp
 ·by_cases e:j=k
  ·subst e;rcases h.good.one j with I|I
   ·exact .inl I
   ·rw[I]at aM;cases aM
  ·rcases h.good.one j with I|I
   ·exact .inl I
   ·exact .inr (by simp[aP.withRowOf,e,I])
 ·rcases ah with ah|⟨g,n,u,bB,a2,a3⟩
  ·exact .inl ah
  ·rcases kv g bB with rfl|⟨gy,fx,iR⟩
   ·simp only[aP.withRowOf,if_true,dZ,gA]at a2;rw[<-a2.2]at a3;exact .inr ⟨g,_,_,by simp[aa],aM,a3⟩
   ·exact .inr ⟨g,n,u,fx,by rw[<-iR];exact a2,a3⟩
 ·rw[mQ j fun e=>by subst e;exact dM.elim hm (fun g2=>Ω)];exact h.fr.block j aw hm
 ·obtain⟨cI,dr⟩:=h.fr.keep b j aW;exact⟨.inl cI,(ak.A b j cI).2.trans dr⟩
 ·rcases aW with aW|⟨aW,_⟩
  ·exact h.fr.fresh b j aW
  ·simp only[nh,dZ]at aW;subst aW;exact .inr dM
 ·obtain⟨t1,t2⟩:=h.fr.trn bb j b ah;have b4:bb≠k:=fun e=>by subst e;rw[t2]at aM;cases aM
  exact⟨t1,by simp[aP.withRowOf,b4,t2]⟩
 ·obtain⟨cI,dr,gM⟩:=h.new m hm;refine⟨cI,?_,gM⟩;have:m≠k:=fun e=>by subst e;rw[dr]at aM;cases aM
  simp[aP.withRowOf,this,dr]
 ·simp only[aH];refine⟨⟨some ⟨bl,0,none⟩,cap,by simp[oi],by simp;omega,⟨sX,by simpa using gJ⟩,.inr ⟨bl,0,us++ns,rfl,zn _ 0 fun j u aw=>?_,zN (zO ak aE) (zO ak Ba)⟩⟩,fun e=>(by cases e),fun g e=>?_,fun _ _ e=>(by cases e),fun _ e=>(by cases e)⟩
  ·have fs:=(e3.1 aw).1;rw[Nat.zero_add];refine⟨.inr ⟨rfl,?_⟩,A9 j u aw⟩;rw[j2,qA,jC]at fs;rw[Nat.add_mul];exact fs
  ·cases e;exact⟨o.n+ys.length,.slice (some ⟨bl,0,none⟩) (o.n+ys.length) cap,by simp[aP.withRowOf],by simp[oi],fun _=>rfl⟩
theorem Ft{P:bK}{w:World}{t ty e:fI}{i:TypeInfo}(aD:P.underlying t=some (.slice e))(az:P.info? e=some i)(b:aT Addr)(n cap:Nat)(aK:n<=cap)(x:aT Addr)(c:Nat):
  (sx #[t,t] ty #[.slice b n cap,.slice x 0 c]).run P w= .ok (.slice b n cap) w:=by
 cases b<;>cases x<;>simp[sx,run_underlying aD,sizeOf,typeInfo,az,Builtin.lenOf,aK,Builtin.firstCells,loadCells,loadCellsFrom,storeCells]
inductive dP where
 |v (d:Nat) (i:fO)
 |box (d:Nat) (key:aT Nat) (x:cM)
 |alloc (d:Nat) (key:aT Nat) (zero:ae)
 |store (sz:Nat) (x y:cM)
 |bsl (d:Nat) (sz el:Nat) (xs:List cM)
 |app (d:Nat) (sz el:Nat) (x y:cM)
 |bslm (d:Nat) (key:aT Nat) (sz el:Nat) (xs:List cM)
 |appm (d:Nat) (key:aT Nat) (sz el:Nat) (x y:cM)
 |mkmap (d:Nat) (key:aT Nat)
 |mput (bT:jO) (x k v:cM)
 |range (d:Nat) (key:aT Nat) (x:cM)
 |storeE (sz:Nat) (x y:cM)
 |mks (d:Nat) (key:aT Nat) (sz el:Nat) (z:ae) (x:cM)
 |apps (d el:Nat) (x y:cM)
def iw(st:aS):aT Nat->aC
 |none=>.loc st.n
 |some m=>.obj m
def pN(st:aS):aT Nat->Prop
 |none=>.loc st.n∉st.o
 |some m=>.obj m∉st.o
def mW(st:aS):aT Nat->Nat
 |none=>st.n+1
 |some _=>st.n
def mX(st:aS):aT Nat->List aC
 |none=>st.o
 |some m=>.obj m::st.o
theorem wc{st:aS}{key:aT Nat}(h:pN st key):fresh st.n st.o (iw st key):=by cases key<;>simp[iw,fresh,pN]at h⊢ <;>exact h
theorem we{st:aS}{key:aT Nat}:∀j,fresh (mW st key) (mX st key) j->fresh st.n st.o j/\j≠iw st key:=by
 intro j aw;cases key<;>cases j<;>simp[fresh,mW,mX,iw]at aw⊢
 ·exact⟨⟨Ω,aw.2⟩,Ω⟩
 ·exact aw
 ·exact aw
 ·exact⟨aw.2,aw.1⟩
def qm(sz:Nat):List ae->Prop
 |[]=>True
 |p::a6=>(eD p=true/\(cells p).length=sz)/\qm sz a6
def qF(bT:jO)(k v:ae):List ae->aT (List ae)
 | .hdm clock borns::kvs=>if xK bT k=false then none else match uK bT k v kvs with
  |some (some vY)=>some (.hdm clock borns::vY)
  |some none=>some (.hdm (clock+1) (borns++[clock])::(kvs++[k,v]))
  |none=>none
 |_=>none
def Cg(m:aC):List ae->aT (List ae)
 | .hdm clock _::_=>some [.hdi clock [] clock,.gmap m]
 |_=>none
def l3(st:aS)(sz el:Nat)(x y:ae):aT ((aT (aC×List ae))×List ae):=
 match x,y with
 | .slice dn .nil _,.slice hO _ ys=>if dn=sz/\hO=sz then some (none,ys)else none
 | .row dn k n,.slice hO _ ys=>if dn=sz/\hO=sz then
   match look k st.e with
   |some ⟨n',eS,tw,some xs⟩=>if n'=n/\eS=el/\tw=sz then some (some (k,xs),ys)else none
   |_=>none
  else none
 |_,_=>none
def qN:ae->Nat->List ae->ae
 | .agg c1,f,cs=>.agg (oB c1 f cs)
 |_,_,[q]=>q
 |_,_,_=>.junk
def qR(st:aS)(sz:Nat)(p v:ae):aT (Prop×aS):=
 match p with
 | .rptr dn k n i f=>match look k st.e with
  |some ⟨n',el,hO,some xs⟩=>if n'=n/\hO=dn then
    match xs[i]? with
    |some q=>some (eD q=true/\eD v=true/\(cells v).length=sz/\f+sz<=(cells q).length/\0<sz,{st with e:=cT k ⟨n',el,hO,some (xs.set i (qN q f (cells v)))⟩ st.e})
    |none=>none
   else none
  |_=>none
 |_=>none
def k6(s:List al):List ae:=s.map fun c=>.int .u8 c.toNat
def Az(st:aS)(d el:Nat)(x y:ae):aT (Prop×aS):=
 match x,y with
 | .row sz k n,.str s=>match look k st.e with
  |some ⟨n',eS,dn,some xs⟩=>if n'=n/\eS=el/\dn=1/\sz=1 then some (xs.length+s.length<=bN,
    {st with t:=put d (.row 1 k (xs.length+s.length)) st.t,e:=cT k ⟨xs.length+s.length,el,1,some (xs++k6 s)⟩ st.e})else none
  |_=>none
 | .slice sz .nil _,.str s=>if sz=1 then some ((.obj 862∉st.o)/\s≠[]/\s.length<=bN,
   {t:=put d (.row 1 (.obj 862) s.length) st.t,b:=st.b,e:=cT (.obj 862) ⟨s.length,el,1,some (k6 s)⟩ st.e,n:=st.n,o:= .obj 862::st.o})else none
 |_,_=>none
def lr(st:aS):dP->aT (Prop×aS)
 | .mks d key sz el z x=>match bG st.t x with
  | .int _ n=>some (pN st key/\0<=n/\n<=bN,
    {t:=put d (.row sz (iw st key) n.toNat) st.t,b:=st.b,e:=cT (iw st key) ⟨n.toNat,el,sz,some (List.replicate n.toNat z)⟩ st.e,n:=mW st key,o:=mX st key})
  |_=>none
 | .bslm d key sz el xs=>some (pN st key/\qm sz (xs.map (bG st.t)),
   {t:=put d (.row sz (iw st key) xs.length) st.t,b:=st.b,e:=cT (iw st key) ⟨xs.length,el,sz,some (xs.map (bG st.t))⟩ st.e,n:=mW st key,o:=mX st key})
 | .appm d key sz el x y=>match l3 st sz el (bG st.t x) (bG st.t y)with
  |some (none,ys)=>some (pN st key/\ys.length<=bN/\ys≠[],
    {t:=put d (.row sz (iw st key) ys.length) st.t,b:=st.b,e:=cT (iw st key) ⟨ys.length,el,sz,some ys⟩ st.e,n:=mW st key,o:=mX st key})
  |some (some (k,xs),ys)=>some (xs.length+ys.length<=bN,{st with t:=put d (.row sz k (xs.length+ys.length)) st.t,e:=cT k ⟨xs.length+ys.length,el,sz,some (xs++ys)⟩ st.e})
  |none=>none
 | .mkmap d key=>some (pN st key,{t:=put d (.gmap (iw st key)) st.t,b:=cT (iw st key) [.hdm 0 []] st.b,e:=st.e,n:=mW st key,o:=mX st key})
 | .mput bT x k v=>match bG st.t x with
  | .gmap m=>match look m st.b with
   |some cs=>match qF bT (bG st.t k) (bG st.t v) cs with
    |some cs'=>some (True,{st with b:=cT m cs' st.b})
    |none=>none
   |none=>none
  |_=>none
 | .range d key x=>match bG st.t x with
  | .gmap m=>match look m st.b with
   |some cs=>match Cg m cs with
    |some cs'=>some (pN st key,{t:=put d (.ptr (iw st key) 0) st.t,b:=cT (iw st key) cs' st.b,e:=st.e,n:=mW st key,o:=mX st key})
    |none=>none
   |none=>none
  |_=>none
 | .v d i=>match gz st i with
  |some (c,p)=>some (c,{st with t:=put d p st.t})
  |none=>none
 | .storeE sz x y=>qR st sz (bG st.t x) (bG st.t y)
 | .apps d el x y=>Az st d el (bG st.t x) (bG st.t y)
 | .box d key x=>some (pN st key/\eD (bG st.t x)=true,
   {t:=put d (.ptr (iw st key) 0) st.t,b:=cT (iw st key) (cells (bG st.t x)) st.b,e:=st.e,n:=mW st key,o:=mX st key})
 | .alloc d key z=>some (pN st key,{t:=put d (.ptr (iw st key) 0) st.t,b:=cT (iw st key) (cells z) st.b,e:=st.e,n:=mW st key,o:=mX st key})
 | .store sz x y=>match bG st.t x with
  | .ptr k off=>match look k st.b with
   |some cs=>some (gn cs=true/\eD (bG st.t y)=true/\(cells (bG st.t y)).length=sz/\off+sz<=cs.length,{st with b:=cT k (oB cs off (cells (bG st.t y))) st.b})
   |none=>none
  |p=>qR st sz p (bG st.t y)
 | .bsl d sz el xs=>some (pN st none/\qm sz (xs.map (bG st.t)),
   {st with t:=put d (.slice sz (.own (.loc st.n)) (xs.map (bG st.t))) st.t,e:=cT (.loc st.n) ⟨xs.length,el,sz,none⟩ st.e,n:=st.n+1})
 | .app d sz el x y=>match bG st.t x,bG st.t y with
  | .slice dn tag xs,.slice hO _ ys=>if dn=sz/\hO=sz then
    match tag with
    | .own k=>match look k st.e with
     |some o=>some (o.n=xs.length/\o.el=el/\o.sz=sz/\xs.length+ys.length<=bN,
       {st with t:=put d (.slice sz (.own k) (xs++ys)) st.t,e:=cT k ⟨xs.length+ys.length,el,sz,none⟩ st.e})
     |none=>none
    | .nil=>some (pN st none/\ys.length<=bN,{st with t:=put d (.slice sz (.own (.loc st.n)) ys) st.t,e:=cT (.loc st.n) ⟨ys.length,el,sz,none⟩ st.e,n:=st.n+1})
    |_=>none
   else none
  |_,_=>none
def ep(κ:aC)(n':Nat)(o':List aC)(st:aS):dP->aT (Prop×aS)
 | .mks d _ sz el z x=>match bG st.t x with
  | .int _ n=>some (0<=n/\n<=bN,
    {t:=put d (.row sz κ n.toNat) st.t,b:=st.b,e:=cT κ ⟨n.toNat,el,sz,some (List.replicate n.toNat z)⟩ st.e,n:=n',o:=o'})
  |_=>none
 | .bslm d _ sz el xs=>some (qm sz (xs.map (bG st.t)),
   {t:=put d (.row sz κ xs.length) st.t,b:=st.b,e:=cT κ ⟨xs.length,el,sz,some (xs.map (bG st.t))⟩ st.e,n:=n',o:=o'})
 | .appm d _ sz el x y=>match l3 st sz el (bG st.t x) (bG st.t y)with
  |some (none,ys)=>some (ys.length<=bN/\ys≠[],
    {t:=put d (.row sz κ ys.length) st.t,b:=st.b,e:=cT κ ⟨ys.length,el,sz,some ys⟩ st.e,n:=n',o:=o'})
  |some (some (k,xs),ys)=>some (xs.length+ys.length<=bN,{st with t:=put d (.row sz k (xs.length+ys.length)) st.t,e:=cT k ⟨xs.length+ys.length,el,sz,some (xs++ys)⟩ st.e})
  |none=>none
 | .mkmap d _=>some (True,{t:=put d (.gmap κ) st.t,b:=cT κ [.hdm 0 []] st.b,e:=st.e,n:=n',o:=o'})
 | .mput bT x k v=>match bG st.t x with
  | .gmap m=>match look m st.b with
   |some cs=>match qF bT (bG st.t k) (bG st.t v) cs with
    |some cs'=>some (True,{st with b:=cT m cs' st.b})
    |none=>none
   |none=>none
  |_=>none
 | .range d _ x=>match bG st.t x with
  | .gmap m=>match look m st.b with
   |some cs=>match Cg m cs with
    |some cs'=>some (True,{t:=put d (.ptr κ 0) st.t,b:=cT κ cs' st.b,e:=st.e,n:=n',o:=o'})
    |none=>none
   |none=>none
  |_=>none
 | .v d i=>match gz st i with
  |some (c,p)=>some (c,{st with t:=put d p st.t})
  |none=>none
 | .storeE sz x y=>qR st sz (bG st.t x) (bG st.t y)
 | .apps d el x y=>Az st d el (bG st.t x) (bG st.t y)
 | .box d _ x=>some (eD (bG st.t x)=true,{t:=put d (.ptr κ 0) st.t,b:=cT κ (cells (bG st.t x)) st.b,e:=st.e,n:=n',o:=o'})
 | .alloc d _ z=>some (True,{t:=put d (.ptr κ 0) st.t,b:=cT κ (cells z) st.b,e:=st.e,n:=n',o:=o'})
 | .store sz x y=>match bG st.t x with
  | .ptr k off=>match look k st.b with
   |some cs=>some (gn cs=true/\eD (bG st.t y)=true/\(cells (bG st.t y)).length=sz/\off+sz<=cs.length,{st with b:=cT k (oB cs off (cells (bG st.t y))) st.b})
   |none=>none
  |p=>qR st sz p (bG st.t y)
 | .bsl d sz el xs=>some (qm sz (xs.map (bG st.t)),
   {st with t:=put d (.slice sz (.own κ) (xs.map (bG st.t))) st.t,e:=cT κ ⟨xs.length,el,sz,none⟩ st.e,n:=n',o:=o'})
 | .app d sz el x y=>match bG st.t x,bG st.t y with
  | .slice dn tag xs,.slice hO _ ys=>if dn=sz/\hO=sz then
    match tag with
    | .own k=>match look k st.e with
     |some o=>some (o.n=xs.length/\o.el=el/\o.sz=sz/\xs.length+ys.length<=bN,
       {st with t:=put d (.slice sz (.own k) (xs++ys)) st.t,e:=cT k ⟨xs.length+ys.length,el,sz,none⟩ st.e})
     |none=>none
    | .nil=>some (ys.length<=bN,{st with t:=put d (.slice sz (.own κ) ys) st.t,e:=cT κ ⟨ys.length,el,sz,none⟩ st.e,n:=n',o:=o'})
    |_=>none
   else none
  |_,_=>none
def wj:Nat->List cM->List (Nat×h7)->Bool
 |_,[],[]=>true
 |i,x::xs,(j,o)::os=>i==j&&ed x o&&wj (i+1) xs os
 |_,_,_=>false
def dP.bok(κ:aC):dP->Prop
 | .mkmap _ _| .range _ _ _=>κ≠ .obj 861
 | .alloc _ key _| .box _ key _=>κ= .obj 861->key=some 861
 |_=>True
theorem EK{st:aS}{key:aT Nat}(h:iw st key= .obj 861):key=some 861:=by cases key<;>simp[iw]at h⊢;exact h
def qO(N:Nat)(aZ:List (Nat×cJ))(i:dP)(o:Oper):Bool:=
 match i,o.op with
 | .mkmap d key,.makeMap _ none=>o.dst==some d&&decide (d<N)&&key !=some 861
 | .mput bT x k v,.mapUpdate t lR kc ot=>o.dst==none&&(match dO aZ t with|some ⟨_,_,.map dH _,_⟩=>xL aZ bT dH|_=>false)&&ed x lR&&ed k kc&&ed v ot
 | .mput bT x k v,.insert t lR kc ot=>o.dst==none&&(match dO aZ t with|some ⟨_,_,.map dH _,_⟩=>xL aZ bT dH|_=>false)&&ed x lR&&ed k kc&&ed v ot
 | .range d key x,.range t lR=>o.dst==some d&&decide (d<N)&&(match dO aZ t with|some ⟨_,_,.map _ _,_⟩=>true|_=>false)&&ed x lR&&key !=some 861
 | .v d i,op=>o.dst==some d&&decide (d<N)&&CJ aZ i op
 | .box d key x,.box el o'=>o.dst==some d&&decide (d<N)&&ed x o'&&(key !=some 861||el==Ko)
 | .alloc d key z,.alloc el=>o.dst==some d&&decide (d<N)&&(match dO aZ el with|some f=>Ah z f.zero|none=>false)&&(key !=some 861||el==Ko)
 | .store sz x y,.store t o' hp=>o.dst==none&&(match dO aZ t with|some f=>f.size==sz|none=>false)&&ed x o'&&ed y hp
 | .bsl d sz el xs,.buildSlice t len parts=>o.dst==some d&&decide (d<N)&&(match dO aZ t with|some ⟨_,_,.slice eS,_⟩=>el==eS|_=>false)&&(match dO aZ el with|some f=>f.size==sz&&decide (0<sz)|none=>false)
   &&len==xs.length&&decide (len*sz<=16777216)&&wj 0 xs parts.toList
 | .app d sz el x y,.call ⟨.builtin .append,⟨[o',hp]⟩,⟨[t,t']⟩⟩=>o.dst==some d&&decide (d<N)&&t==t'&&(match dO aZ t with|some ⟨_,_,.slice eS,_⟩=>el==eS|_=>false)
   &&(match dO aZ el with|some f=>f.size==sz&&decide (0<sz)&&decide (f.bytes<=2048)|none=>false)&&ed x o'&&ed y hp
 | .bslm d _ sz el xs,.buildSlice t len parts=>o.dst==some d&&decide (d<N)&&(match dO aZ t with|some ⟨_,_,.slice eS,_⟩=>el==eS|_=>false)&&(match dO aZ el with|some f=>f.size==sz&&decide (0<sz)|none=>false)
   &&len==xs.length&&decide (len*sz<=16777216)&&wj 0 xs parts.toList
 | .appm d _ sz el x y,.call ⟨.builtin .append,⟨[o',hp]⟩,⟨[t,t']⟩⟩=>o.dst==some d&&decide (d<N)&&t==t'&&(match dO aZ t with|some ⟨_,_,.slice eS,_⟩=>el==eS|_=>false)
   &&(match dO aZ el with|some f=>f.size==sz&&decide (0<sz)&&decide (f.bytes<=2048)|none=>false)&&ed x o'&&ed y hp
 | .storeE sz x y,.store t o' hp=>o.dst==none&&(match dO aZ t with|some f=>f.size==sz|none=>false)&&ed x o'&&ed y hp
 | .apps d el x y,.call ⟨.builtin .append,⟨[o',hp]⟩,⟨[t,t']⟩⟩=>o.dst==some d&&decide (d<N)&&(match dO aZ t with|some ⟨_,_,.slice eS,_⟩=>el==eS|_=>false)&&(match dO aZ t' with|some ⟨_,_,.str,_⟩=>true|_=>false)
   &&(match dO aZ el with|some f=>f.size==1&&decide (f.bytes<=2048)|none=>false)&&ed x o'&&ed y hp
 | .mks d _ sz el z x,.makeSlice t o' hp=>o.dst==some d&&decide (d<N)&&(match dO aZ t with|some ⟨_,_,.slice eS,_⟩=>el==eS|_=>false)
   &&(match dO aZ el with|some f=>f.size==sz&&decide (0<sz)&&decide (f.bytes<=2048)&&Ah z f.zero|none=>false)&&ed x o'&&ed x hp
 |_,_=>false
theorem RX{w:World}{ν:aP}{C:ek}{st:aS}{a:Act}(hr:bX C st a w ν){sz:Nat}:
  ∀(xs:List cM) (i:Nat) (os:List (Nat×h7)) (pre:List ae) (us:Array Value) (vs:List Value),wj i xs os=true->qm sz (xs.map (bG st.t))->us.toList.take (i*sz)=vs->cC w ν sz pre vs->i=pre.length->us.size=(i+xs.length)*sz->
  ∃br:Array Value,Instr.fill (fun i=>some (i*sz,sz)) us (os.map fun(x:Nat×h7)=>(x.1,a.eval x.2))=some br/\cC w ν sz (pre++xs.map (bG st.t)) br.toList/\br.size=us.size
 |[],i,[],pre,us,vs,_,_,aM,h,az,aq=>by refine⟨us,by simp[Instr.fill],?_,rfl⟩;have aG:=p0 h;have:us.toList.take (i*sz)=us.toList:=List.take_of_length_le (by simp at aq⊢;omega);rw[this]at aM;simpa[aM]using h
 |[],_,_::_,_,_,_,dS,_,_,_,_,_=>by simp[wj]at dS
 |_::_,_,[],_,_,_,dS,_,_,_,_,_=>by simp[wj]at dS
 |x::xs,i,(j,o)::os,pre,us,vs,dS,bF,aM,h,az,aq=>by
  simp only[wj,bM,ej]at dS;obtain⟨⟨rfl,I⟩,J⟩:=dS;simp only[gY,qm]at bF;obtain⟨⟨HX,hlen⟩,bF⟩:=bF;have af:=ee hr I;have me:=uT af HX;have vG:=o7 me;have cO:(a.eval o).cells.size=sz:=by rw[hlen]at vG;simpa using vG
  have hmul:i*sz+sz<=us.size:=by rw[aq,lx,show i+(xs.length+1)=(i+1)+xs.length from by omega,Nat.add_mul,Nat.succ_mul];omega
  have lg:=G7 (w:=w) (ν:=ν) (a.eval o).cells.toList 0 (i*sz) us (by simp[cO];omega);have rR:cC w ν sz (pre++[bG st.t x]) (vs++(a.eval o).cells.toList):=by refine zN h ?_;simp only[cC];exact⟨a.eval o,[],Ψ,⟨af,cO,zQ me⟩,rfl⟩
  have mj:vs.length=i*sz:=by rw[<-aM];simp;omega
  obtain⟨br,g1,g2,g3⟩:=RX hr xs (i+1) os (pre++[bG st.t x]) (((a.eval o).cells.toList.zipIdx 0).foldl (fun cs (x:Value×Nat)=>cs.setIfInBounds (i*sz+x.2) x.1) us) (vs++(a.eval o).cells.toList) J bF
   (by
    rw[lg];simp only[Nat.add_zero];rw[aM];have:(vs++(a.eval o).cells.toList).length=(i+1)*sz:=by rw[j2,mj,Nat.succ_mul];simp[cO]
    rw[<-this,List.take_append_of_le_length (cq _),j4]) rR (by simp[az])
   (by have bL:=er List.length lg;simp only[Array.length_toList,j2,pe,hg,cO]at bL;rw[bL,aq,lx,show i+(xs.length+1)=i+1+xs.length from by omega];rw[aq,lx,show i+(xs.length+1)=i+1+xs.length from by omega]at hmul;omega)
  refine⟨br,?_,by simpa using g2,?_⟩
  ·simp only[gY,Instr.fill];rw[bq (by simp[cO];omega),<-g1];congr 1;rw[<-Array.foldl_toList];simp
  ·rw[g3];have bL:=er List.length lg;simp only[Array.length_toList,j2,pe,hg,cO]at bL;rw[bL];omega
theorem acZ{P:bK}(w:World)(t b5 ty e:fI)(i:TypeInfo)(aD:P.underlying t=some (.slice e))(hu:P.underlying b5=some .string)(az:P.info? e=some i)(DJ:i.size=1)
  (g x3 JX:Nat) (cur:Array Value) (aR:w.heap[g]? =some (.cells cur e (0,0))) (s:jL) (ny:x3+s.size<=JX) (Ys:x3+s.size<=cur.size):
  (sx #[t,b5] ty #[.slice (some ⟨g,0,none⟩) x3 JX,.string s]).run P w=
   .ok (.slice (some ⟨g,0,none⟩) (x3+s.size) JX) (w.setRow g (cur.toList.take x3++byteCells s++cur.toList.drop (x3+s.size)).toArray):=by
 have BB:=Src.ofString (P:=P) w hu s;have eI:=run_storeCells_at P g x3 e (byteCells s) 0 cur w aR (by simpa[byteCells_length]using Ys) BB.one;simp only[Nat.add_zero,byteCells_length]at eI;simp[sx,run_underlying aD,run_underlying hu,sizeOf,typeInfo,az,DJ,BB.len,ny,BB.cells,Addr.add_lit,eI]
theorem RU{P:bK}(w:World)(t b5 ty e:fI)(i:TypeInfo)(z:Value)(aD:P.underlying t=some (.slice e))(hu:P.underlying b5=some .string)(az:P.info? e=some i)(de:i.zero=some z)(DJ:i.size=1)(pM:z.cells.size=1)
  (v:Value) (n:Nat) (xs:List Value) (kR:w.ownsRow 0 e 1 v n xs) (s:jL) (cap:Nat) (base:aT Addr) (aM:v= .slice base n cap) (sX:cap<n+s.size) (yZ:n+s.size<=maxLen) (mJ:(n+s.size)*i.bytes<=140737488355328):
  ∃v' w',(sx #[t,b5] ty #[v,.string s]).run P w= .ok v' w'/\w'.ownsRow w.heap.size e 1 v' (n+s.size) (xs++byteCells s)/\w.grownBy w' none:=by
 subst aM;have BB:=Src.ofString (P:=P) w hu s;have oi:xs.length=n:=by simpa using kR.1
 have hold:(Builtin.firstCells i.size n (.slice base n cap)).run P w.drew= .ok xs.toArray w.drew:=by
  rw[DJ];rcases kR.2 with⟨aj,rfl⟩|⟨g,AH,cur,aj,agC,aR,Bq,DR,cO,BD⟩
  ·injection aj with aj aJ bs;subst aj;have:xs=[]:=q1 oi;subst this;exact run_firstCells_none w.drew 1 0 0 cap
  ·have vq:=aj;injection aj with aj aJ bs;subst aj;refine run_firstCells_some w.drew 1 n _ n cap xs Ω fun j u aw=>?_;have:=kR.cells (g:=g) rfl j u aw;simpa using this
 have hr:=run_append_grow_src (P:=P) w t b5 ty e i z aD az de base n cap xs hold (.string s) s.size (byteCells s) (by rw[DJ];exact BB) sX (by simp only[maxLen]at yZ;omega) (growslice_fits Ω mJ);have il:=grownCap_ge w (n+s.size) cap e;have DR:grownCap w (n+s.size) cap e<=maxLen:=grownCap_le_maxLen w (n+s.size) cap e yZ;refine⟨_,_,hr,⟨by simp[byteCells_length,oi],.inr ⟨w.heap.size,_,_,rfl,cq _,heap_alloc_new w.drew _,il,DR,?_,?_⟩⟩,⟨rfl,rfl,rfl,Ψ,fun k aa _=>heap_alloc_old w.drew _ aa⟩⟩
 ·simp only[Array.size_append,List.size_toArray,size_zeroCells,pM,j2,byteCells_length,oi];omega
 ·simp only[Array.toList_append,List.toList_toArray];rw[List.take_left' (by simp[byteCells_length,oi])]
theorem JL(w:World)(ν:aP):∀s:List al,cC w ν 1 (k6 s) (s.map fun c=>nK .u8 c.toNat)
 |[]=>by simp[k6,cC]
 |c::s=>by have:=JL w ν s;simp only[k6,gY,cC]at this⊢;exact⟨.int .u8 c.toNat,_,rfl,⟨by simp[aH],rfl,by intro x af;simp[oF]at af;subst af;rfl⟩,this⟩
theorem kj{P:bK}{o:Oper}{a:Act}{w w':World}{v:Value}{K:Act->World->Prop}{Q:Exit->Act->World->Prop}(h:(execOp a.eval o).run P w= .ok (.value v) w')(aa:K (a.put o.dst v) w'):o.wp P a w K Q:=by unfold Oper.wp;rw[h];exact aa
theorem CO{P:bK}{o:Oper}{a:Act}{w w':World}{K:Act->World->Prop}{Q:Exit->Act->World->Prop}(h:(execOp a.eval o).run P w= .ok .skip w')(aa:K (a.put o.dst undef) w'):o.wp P a w K Q:=by unfold Oper.wp;rw[h];exact aa
theorem CM{P:bK}{w w':World}{x:Sem Value}{v:Value}(h:x.run P w= .ok v w'):(do pure (Next.value (<-x)):Sem Next).run P w= .ok (.value v) w':=by simp[h]
theorem RV{P:bK}{aZ:List (Nat×cJ)}(aD:ez P aZ=true){C:ek}{st:aS}{a:Act}{w:World}{ν:aP}(hr:bX C st a w ν){t el:Nat}{f g:cJ}(aL:dO aZ t=some f)(aa:f.kind= .slice el)(aR:dO aZ el=some g)
  {xs:List cM} {os:List (Nat×h7)} (dS:wj 0 xs os=true) (dq:qm g.size (xs.map (bG st.t))) (hlen:xs.length*g.size<=16777216):
  ∃us:Array Value,(Instr.buildSlice t xs.length (os.map fun(x:Nat×h7)=>(x.1,a.eval x.2)).toArray).run P w= .ok (.slice (some ⟨w.heap.size,0,none⟩) xs.length xs.length) (w.alloc (.cells us el))/\
   cC w ν g.size (xs.map (bG st.t)) us.toList/\us.size=xs.length*g.size:=by
 obtain⟨d,aF,e8⟩:=hq aD aL;rw[aa]at e8;obtain rfl:=qs e8;obtain⟨_,aq⟩:=uZ aD aR w;obtain⟨z,ZE,agZ,ag0⟩:=Ki aD aR w;have aK:¬xs.length*g.size>2 ^ 24:=Ω
 let init:Array Value:=if xs.length*g.size=0 then(Array.range (xs.length*g.size)).map ((#[]:Array Value)[· %(#[]:Array Value).size]!)else(Array.range (xs.length*g.size)).map (z.cells[· %z.cells.size]!)
 have Ov:init.size=xs.length*g.size:=by simp only[init];split<;>simp
 obtain⟨br,g1,g2,g3⟩:=RX (a:=a) hr xs 0 os [] init [] dS dq Ψ (by simp[cC]) rfl (by rw[Ov];simp);refine⟨br,?_,by simpa using g2,by rw[g3,Ov]⟩;simp only[init]at g1;by_cases bL:xs.length*g.size=0
 ·rw[if_pos bL]at g1;rw[bL]at g1;have XJ:¬(0:Nat)>2 ^ 24:=by decide
  simp only[Instr.buildSlice,e2,run_underlying aF,e4,aq,if_false,fH,bL,if_true,XJ,g1,newRow,run_newObj];rfl
 ·rw[bq bL]at g1;simp only[Instr.buildSlice,e2,run_underlying aF,e4,aq,aK,if_false,fH,bL,ZE,g1,newRow,run_newObj];rfl
theorem BW{P:bK}{w:World}{ν:aP}{bT:jO}{t:fI}(aF:tI P bT t){k v:ae}{gU KG:Value}(aa:aH w ν k gU)(aM:aH w ν v KG):
  ∀(borns:List Nat) (kvs:List ae) (us:List Value) (i:Nat) (r:aT (List ae)),cc w ν kvs us->kvs.length=2*borns.length->uK bT k v kvs=some r->
  match r with
  |none=>hR P w bT t gU (fw borns us) i none
  |some vY=> ∃j u br e,hR P w bT t gU (fw borns us) i (some (i+j,u))/\cc w ν vY br/\vY.length=kvs.length/\(fw borns us)[j]? =some e/\e.key=gU/\Instr.sameBits 10000 e.key gU=true/\fw borns br=(fw borns us).modify j (fun e=>{e with key:=gU,val:=KG})
 |[],[],us,i,r,h,_,hm=>by simp only[uK]at hm;cases hm;simp only[cc]at h;subst h;simpa[fw]using hR.nil P w bT t gU i
 |[],_::_,_,_,_,_,aG,_=>by simp at aG
 |b::eF,[],_,_,_,_,aG,_=>by simp at aG
 |b::eF,[_],_,_,_,_,aG,_=>by simp at aG;omega
 |b::eF,bb::v'::kvs,us,i,r,h,aG,hm=>by
  simp only[cc]at h;obtain⟨iC,Ku,rfl,I,hX,qV,rfl,J,ao⟩:=h;simp only[uK]at hm;simp only[fw];cases bn:uE bT k bb with
  |none=>simp[bn]at hm
  |some ia=>
   obtain⟨s1,s2⟩:=PN aF aa I bn;simp only[bn]at hm;cases ia with
   |true=>simp only[dZ]at hm;subst hm;obtain⟨rfl,zV⟩:=s2 rfl;refine⟨0,hX,iC::KG::qV,⟨iC,hX,b⟩,hR.hit (e:=⟨iC,hX,b⟩) s1,?_,Ψ,Ψ,rfl,zV,by simp[fw]⟩;simp only[cc];exact⟨_,_,rfl,aa,_,_,rfl,aM,ao⟩
   |false=>
    simp only at hm;have bo:=fun cE bW=>BW aF aa aM eF kvs qV (i+1) cE ao (by simp at aG;omega) bW;split at hm
    ·rename_i cE bW;cases hm;obtain⟨j,u,br,e,g1,g2,g3,g4,g5,g6,g7⟩:=bo _ bW;refine⟨j+1,u,iC::hX::br,e,hR.miss (e:=⟨iC,hX,b⟩) s1 (by rw[show i+(j+1)=i+1+j from by omega];exact g1),?_,by simp[g3],by simpa using g4,g5,g6,by simp[fw,g7]⟩;simp only[cc];exact⟨_,_,rfl,I,_,_,rfl,J,g2⟩
    ·rename_i bW;cases hm;exact hR.miss (e:=⟨iC,hX,b⟩) s1 (bo _ bW)
    ·cases hm
theorem GV:∀(borns:List Nat) (us:List Value) (b:Nat) (k v:Value),us.length=2*borns.length->fw (borns++[b]) (us++[k,v])=fw borns us++[⟨k,v,b⟩]
 |[],us,b,k,v,h=>by have:us=[]:=q1 (by simpa using h);subst this;simp[fw]
 |fY::eF,[],b,k,v,h=>by simp at h
 |fY::eF,[_],b,k,v,h=>by simp at h;omega
 |fY::eF,bb::v'::us,b,k,v,h=>by simp only[dm,fw,GV eF us b k v (by simp at h;omega)]
theorem JP{w:World}{ν:aP}:∀{a6 bE:List ae} {vs us:List Value},cc w ν a6 vs->cc w ν bE us->cc w ν (a6++bE) (vs++us)
 |[],bE,vs,us,h,cu=>by simp only[cc]at h;subst h;simpa using cu
 |p::a6,bE,vs,us,h,cu=>by simp only[cc]at h;obtain⟨u,br,rfl,I,J⟩:=h;simp only[dm,cc];exact⟨u,_,rfl,I,JP J cu⟩
theorem Fk{w:World}{ν:aP}:∀{a6:List ae} {vs:List Value},cc w ν a6 vs->vs.length=a6.length
 |[],vs,h=>by simp only[cc]at h;subst h;rfl
 |p::a6,vs,h=>by simp only[cc]at h;obtain⟨u,br,rfl,_,J⟩:=h;simp[Fk J]
theorem Ct{P:bK}{w:World}{r:Nat}{o o':Obj}(ah:w.heap[r]? =some o)(aK:∀c e f,o≠ .cells c e f:=by simp):(setObj r o').run P w= .ok () {w with heap:=w.heap.setIfInBounds r o'}:=by simp only[setObj,Sem.run,ah]
def dP.makes(st:aS):dP->Bool
 | .box _ _ _| .alloc _ _ _| .bsl _ _ _ _| .bslm _ _ _ _ _| .mkmap _ _| .range _ _ _| .mks _ _ _ _ _ _=>true
 | .appm _ _ _ _ x _=>match bG st.t x with
  | .slice _ .nil _=>true
  |_=>false
 | .app _ _ _ x _=>match bG st.t x with
  | .slice _ .nil _=>true
  |_=>false
 |_=>false
theorem bX.forgetRow{C:ek}{st:aS}{a:Act}{w:World}{ν:aP}(hr:bX C st a w ν){k:aC}{ow:cV}(aa:look k st.e=some ow):bX C {st with e:=cT k ⟨ow.n,ow.el,ow.sz,none⟩ st.e} a w ν:=by
 have ha:∀g,(look g (cT k ⟨ow.n,ow.el,ow.sz,none⟩ st.e)).isSome->(look g st.e).isSome:=fun g aR=>by
  rw[iQ]at aR;split at aR
  ·rename_i e;subst e;simp[aa]
  ·exact aR
 refine⟨⟨hr.good.alt,hr.good.box,hr.good.inj,fun g o aR=>?_,fun g eM n n' v v' bl bB a2=>hr.good.oinj g eM n n' v v' bl (ha g bB) (ha eM a2),fun g j n v bl bB=>hr.good.obx g j n v bl (ha g bB),hr.good.one,fun bl ah=>hr.good.otr bl (ah.imp id (fun⟨g,n,v,bB,a2⟩=>⟨g,n,v,ha g bB,a2⟩))⟩,hr.fr,hr.defers,hr.size,hr.slot,hr.new,hr.ext,hr.obk⟩;simp only at aR;rw[iQ]at aR;split at aR
 ·rename_i e;subst e;cases aR;obtain⟨v,us,bR,cA,dE,_⟩:=hr.good.own k ow aa;exact⟨v,us,bR,cA,dE,fun xs af=>by cases af⟩
 ·exact hr.good.own g o aR
theorem EY{w:World}{base el sz n:Nat}{v:Value}{us:List Value}(h:w.ownsRow base el sz v n us)(aK:0<n):∃b cap,v= .slice (some ⟨b,0,none⟩) n cap:=by
 rcases h.2 with⟨aj,aJ⟩|⟨ia,cap,cur,f1,_⟩
 ·omega
 ·exact⟨_,_,f1⟩
theorem RC{w:World}{ν:aP}{sz:Nat}:∀{xs:List ae} {us:List Value} {i:Nat} {q q':ae} {eA:Value},cC w ν sz xs us->xs[i]? =some q->aH w ν q' eA->eA.cells.size=sz->(∀c∈eA.cells.toList,c.oneCell'=true)->cC w ν sz (xs.set i q') (us.take (i*sz)++eA.cells.toList++us.drop (i*sz+sz))
 |[],_,_,_,_,_,_,bn,_,_,_=>by simp at bn
 |x::xs,us,0,q,q',eA,h,bn,hr,aq,ak=>by
  simp only[cC]at h;obtain⟨u,br,rfl,⟨I,J,ao⟩,bp⟩:=h;have aG:u.cells.toList.length=sz:=by simpa using J
  simp only[List.set_cons_zero,cC];refine⟨eA,br,?_,⟨hr,aq,ak⟩,bp⟩;simp[<-aG]
 |x::xs,us,i+1,q,q',eA,h,bn,hr,aq,ak=>by
  simp only[cC]at h;obtain⟨u,br,rfl,⟨I,J,ao⟩,bp⟩:=h;have aG:u.cells.toList.length=sz:=by simpa using J
  have bo:=RC bp (by simpa using bn) hr aq ak;simp only[List.set_cons_succ,cC];refine⟨u,_,?_,⟨I,J,ao⟩,bo⟩;have e:(i+1)*sz+sz=u.cells.toList.length+(i*sz+sz):=by rw[aG,Nat.succ_mul];omega
  rw[Sk _ _ _ _ aG,e,<-List.drop_drop];simp
theorem acV{w:World}{ν:aP}{q:ae}{v:Value}(bn:aH w ν q v)(aq:eD q=true){cs:List ae}{us:List Value}(aE:cl w ν cs us){f:Nat}(aL:f+us.length<=v.cells.size)(b4:us≠[]):
  ∃v',aH w ν (qN q f cs) v'/\v'.cells.toList=v.cells.toList.take f++us++v.cells.toList.drop (f+us.length)/\v'.cells.size=v.cells.size/\∀c∈v'.cells.toList,c.oneCell'=true:=by
 have hlen:=o7 aE;have k9:=uT bn aq;by_cases bF:∃c1,q= .agg c1
 ·obtain⟨c1,rfl⟩:=bF;simp only[aH]at bn;obtain⟨vs,rfl,gj⟩:=bn;simp only[oF]at aL⊢;have j8:cl w ν (oB c1 f cs) (vs.toList.take f++us++vs.toList.drop (f+us.length)):=by unfold oB;rw[hlen];exact xY (xY (Cm f gj) aE) (zP _ gj)
  refine⟨.agg (vs.toList.take f++us++vs.toList.drop (f+us.length)).toArray,by simp only[qN,aH];exact⟨_,rfl,by simpa using j8⟩,by simp[oF],?_,fun c kK=>?_⟩
  ·simp[oF];omega
  ·exact zQ j8 c (by simpa[oF]using kK)
 ·have y1:∀cs,q≠ .agg cs:=fun cs e=>bF ⟨cs,e⟩;obtain⟨I,J⟩:=JR bn aq y1;rw[J]at aL⊢;match us,b4,aE with
  |u::br,_,aE=>
   simp at aL;obtain⟨rfl,rfl⟩:f=0/\br=[]:=⟨Ω,List.length_eq_zero_iff.1 Ω⟩;match cs,aE,hlen with
   |[c],aE,_=>
    simp only[cl]at aE;obtain⟨k1,eY,aj,⟨X9,Oh⟩,_⟩:=aE;cases aj;have hu:u.cells= #[u]:=by cases u<;>first|rfl|cases Oh
    have HU:qN q 0 [c]=c:=by cases q<;>first|rfl|exact absurd rfl (y1 _)
    rw[HU];refine⟨u,X9,by simp[hu],by simp[hu],fun c kK=>?_⟩;rw[hu]at kK;simp at kK;subst kK;exact Oh
theorem adm{α:Type}(A us:List α)(a f sz N:Nat)(I:f+us.length<=sz)(J:a+sz<=N)(ao:N<=A.length):
  ((A.take (a+f)++us++A.drop (a+f+us.length)).toArray.toList).take N=(A.take N).take a++((((A.take N).drop a).take sz).take f++us++(((A.take N).drop a).take sz).drop (f+us.length))++(A.take N).drop (a+sz):=by
 have aj:(A.take N).take a++(((A.take N).drop a).take sz).take f=A.take (a+f):=by rw[List.take_take (i:=f),Nat.min_eq_left (show f<=sz by omega),<-List.take_add,List.take_take,Nat.min_eq_left Ω]
 have aJ:(((A.take N).drop a).take sz).drop (f+us.length)++(A.take N).drop (a+sz)=(A.take N).drop (a+f+us.length):=by
  have aG:f+us.length<=(((A.take N).drop a).take sz).length:=by simp;omega
  have pw:(A.take N).drop (a+sz)=((A.take N).drop a).drop sz:=by rw[List.drop_drop]
  rw[pw,<-List.drop_append_of_le_length aG,q3,List.drop_drop];congr 1;omega
 have bs:(A.take N).drop (a+f+us.length)=(A.drop (a+f+us.length)).take (N-(a+f+us.length)):=by rw[List.drop_take]
 have aG:(A.take (a+f)++us).length=a+f+us.length:=by simp;omega
 simp only[kE]at*;rw[aJ,bs,<-kE (List.take a _),aj];have lE:N=(A.take (a+f)++us).length+(N-(a+f+us.length)):=by rw[aG];omega
 rw[<-kE,<-kE];conv=>lhs;rw[lE,List.take_length_add_append]
theorem bX.storeRow{P:bK}{C:ek}{st:aS}{a:Act}{w:World}{ν:aP}(h:bX C st a w ν){k:aC}{n el sz:Nat}{xs:List ae}(aa:look k st.e=some ⟨n,el,sz,some xs⟩){i f:Nat}{u:Value}(af:aH w ν (.rptr sz k n i f) u){q:ae}(bn:xs[i]? =some q)(aq:eD q=true)
  {cs:List ae} {us:List Value} (aE:cl w ν cs us) (aL:f+us.length<=(cells q).length) (b4:us≠[]):
  ∃bl off l6,u= .pointer (some ⟨bl,off,none⟩)/\(storeCells ⟨bl,off,none⟩ us).run P w= .ok () (w.setRow bl l6)/\∃ν',bX C {st with e:=cT k ⟨n,el,sz,some (xs.set i (qN q f cs))⟩ st.e} a (w.setRow bl l6) ν':=by
 simp only[aH]at af;obtain⟨_,az,n',eA,I,J,ao⟩:=af;obtain⟨v,eY,bR,cA,dE,dM⟩:=h.good.own k _ aa;rw[I]at bR;simp only[dZ,gA]at bR;obtain⟨rfl,rfl⟩:=bR;obtain⟨bl,ah,rfl⟩:=ao rfl;obtain⟨cP,mv,tj⟩:=dM xs rfl;simp only at cP mv;obtain⟨v,ff,eW,mw⟩:=Fg i mv bn;have vG:=o7 (uT ff aq);have Zf:(cells q).length=sz:=by rw[<-vG];simpa using eW
 have DV:f+us.length<=sz:=by rw[<-Zf];exact aL
 have hmul:i*sz+sz<=n'*sz:=by have:=Nat.mul_le_mul_right sz (show i+1<=n' from az);rwa[Nat.succ_mul]at this
 rcases cA.2 with⟨aj,aJ⟩|⟨g,cap,cur,rfl,xo,Hv,Bq,DR,cO,BD⟩
 ·rw[aj]at ah;simp[nh]at ah
 simp only[nh,dZ]at ah;subst ah;simp only at BD cO Bq Hv;have sX:n'*sz<=cur.size:=by rw[cO];exact Nat.mul_le_mul_right sz Bq
 have eI:=run_storeCells_at P g (i*sz+f) el us 0 cur w Hv Ω (zQ aE);simp only[Nat.add_zero]at eI;refine⟨g,i*sz+f,_,rfl,eI,?_⟩;generalize uh:(cur.toList.take (i*sz+f)++us++cur.toList.drop (i*sz+f+us.length)).toArray=l6;obtain⟨v',hD,fN,o5,abR⟩:=acV ff aq aE (f:=f) (by rw[eW];exact DV) b4;have jt:=RC mv bn hD (by rw[o5,eW]) abR;have hlen:eY.length=n'*sz:=cA.1;have Y5:l6.toList.take (n'*sz)=eY.take (i*sz)++v'.cells.toList++eY.drop (i*sz+sz):=by rw[<-uh,fN,mw,<-BD];exact adm cur.toList us (i*sz) f sz (n'*sz) DV hmul (by simpa using sX)
 have X7:l6.size=cap*sz:=by rw[<-uh,<-cO];simp;omega
 have agT:(xs.set i (qN q f cs)).length=n':=by simp[cP]
 obtain⟨abS,_,_⟩:=h.setRowM (w':=w.setRow g l6) aa rfl I (bl:=g) rfl (v':= .slice (some ⟨g,0,none⟩) n' cap) rfl (xs':=xs.set i (qN q f cs)) (us:=eY.take (i*sz)++v'.cells.toList++eY.drop (i*sz+sz)) (.inl ⟨by simp[cP],rfl⟩) rfl rfl rfl (fun j aw=>setRow_other w g j l6 aw) (setRow_size w g l6)
  ⟨by rw[p0 jt],.inr ⟨g,cap,l6,by simp[cP],Nat.zero_le _,setRow_heap w g cur l6 el _ Hv,by simpa[cP]using Bq,DR,X7,by simpa[cP]using Y5⟩⟩ jt
 exact⟨_,by simpa[cP]using abS⟩
theorem aav(z:Array Value)(n:Nat)(h:0<z.size):(madeCells z ((n+1)*z.size)).toList=z.toList++(madeCells z (n*z.size)).toList:=by
 apply List.ext_getElem?;intro j;rw[List.getElem?_append];have he:(n+1)*z.size=n*z.size+z.size:=by rw[Nat.add_mul,Nat.one_mul]
 simp only[madeCells,Array.getElem?_toList,Array.length_toList,Array.getElem?_map];by_cases aw:j<z.size
 ·rw[if_pos aw,Array.getElem?_range,if_pos Ω];simp[Nat.mod_eq_of_lt aw,aw]
 ·rw[bq aw,Array.getElem?_range,Array.getElem?_range];by_cases aa:j<n*z.size+z.size
  ·rw[if_pos Ω,if_pos Ω];simp only[kF];rw[<-Nat.mod_eq_sub_mod Ω]
  ·rw[bq Ω,bq Ω]
theorem P9{w:World}{ν:aP}{p:ae}{z:Value}(hr:aH w ν p z)(h:0<z.cells.size)(ak:∀c∈z.cells.toList,c.oneCell'=true):∀n,cC w ν z.cells.size (List.replicate n p) (madeCells z.cells (n*z.cells.size)).toList
 |0=>by simp[cC,madeCells]
 |n+1=>by rw[aav _ _ h];simp only[List.replicate_succ,cC];exact⟨z,_,rfl,⟨hr,rfl,ak⟩,P9 hr h ak n⟩
theorem Lg{P:bK}{aZ:List (Nat×cJ)}(aD:ez P aZ=true){C:ek}{st st':aS}{a:Act}{w:World}{ν:aP}(hr:bX C st a w ν){d el:Nat}{x y:cM}{o:Oper}(ak:qO C.N aZ (.apps d el x y) o=true)
  {c:Prop} (he:Az st d el (bG st.t x) (bG st.t y)=some (c,st')) (aE:c) {K:Act->World->Prop} {Q:Exit->Act->World->Prop} (cG:∀bU w' ν',bX C st' bU w' ν'->K bU w'):o.wp P a w K Q:=by
 obtain⟨dst,op,type,pos,after,guard⟩:=o;generalize az:dP.apps d el x y=i at ak;unfold qO at ak;dsimp only at ak;split at ak<;>first|(cases az;done)|(cases ak;done)|skip
 rename_i o' hp t t';cases az;simp only[bM,ej,fK]at ak;obtain⟨⟨⟨⟨⟨⟨I,J⟩,aO⟩,aq⟩,bp⟩,cj⟩,eu⟩:=ak;subst I;split at aO
 ·rename_i eS aL;simp only[ej]at aO;subst aO;split at aq
  ·rename_i DV;split at bp
   ·rename_i g aR;simp only[bM,ej,fK]at bp;obtain⟨mh,ue⟩:=bp;have rx:=ee hr cj;have ji:=ee hr eu;have jU:∀v' w',(sx #[t,t'] type #[a.eval o',a.eval hp]).run P w= .ok v' w'->(execOp a.eval ⟨some d,.call ⟨.builtin .append,⟨[o',hp]⟩,⟨[t,t']⟩⟩,type,pos,after,guard⟩).run P w= .ok (.value v') w':=by intro v' w' gD;simp only[execOp,resolve,invoke,builtin,e2,fH,e4,List.map_toArray,gY,List.map_nil];rw[gD];rfl
    obtain⟨eH,jQ,z,aj,aJ,bs,ch,fa,dd,l9,n4⟩:=(tC aD aR).ex;obtain⟨c1,gP,e8⟩:=hq aD aL;obtain rfl:=qs e8;obtain⟨b0,jT,Yn⟩:=hq aD DV;obtain rfl:=vm Yn;have pM:z.cells.size=1:=by rw[n4,mh]
    have vK:eH.size=1:=by rw[bs,mh]
    unfold Az at he;split at he
    ·rename_i sz k n s af bA;split at he
     ·rename_i n' eS dn xs aa;split at he
      ·rename_i ik;obtain⟨rfl,rfl,rfl,rfl⟩:=ik;cases he;rw[af]at rx;rw[bA]at ji;simp only[aH]at rx ji;obtain⟨⟨bx,qq,p6⟩,rxl,n0,k1,ff,eW,mw⟩:=rx;obtain⟨qX,lK⟩:=ji;obtain⟨v0,eY,bR,cA,dE,dM⟩:=hr.good.own k _ aa;rw[ff]at bR;simp only[dZ,gA]at bR cA;obtain⟨rfl,rfl⟩:=bR;have mi:a.eval o'=k1:=mw rfl;obtain⟨cP,mv,tj⟩:=dM xs rfl;simp only at cP mv;have e0:(⟨s.toArray⟩:jL).size=s.length:=by simp[KT]
       have A9:byteCells ⟨s.toArray⟩=s.map fun c=>nK .u8 c.toNat:=by simp[byteCells]
       have s6:eY.length=xs.length:=by rw[cP];simpa using cA.1
       have ug:cC w ν 1 (xs++k6 s) (eY++byteCells ⟨s.toArray⟩):=by rw[A9];exact zN mv (JL w ν s)
       have fl:(k6 s).length=s.length:=by simp[k6]
       have mJ:(xs.length+s.length)*eH.bytes<=140737488355328:=by
        have mI:eH.bytes<=2048:=by rw[ch];exact ue
        have je:(xs.length+s.length)*eH.bytes<=(xs.length+s.length)*2048:=Nat.mul_le_mul_left _ mI;simp only[bN]at aE;omega
       have h2:xs.length+s.length<=maxLen:=by simp only[bN]at aE;simp only[maxLen];omega
       rw[qX,mi]at jU;have xt:∀(base:aT Addr) (cap:Nat),k1= .slice base xs.length cap->n0<=cap->cap<xs.length+s.length->(⟨some d,.call ⟨.builtin .append,⟨[o',hp]⟩,⟨[t,t']⟩⟩,type,pos,after,guard⟩:Oper).wp P a w K Q:=by
        intro base cap hu Bq sX;obtain⟨v',w',f1,f2,f3⟩:=RU (P:=P) w t t' type eS eH z gP jT aj dd vK pM k1 xs.length eY (by rw[cP];exact cA) ⟨s.toArray⟩ cap base hu (by rw[e0];exact sX) (by rw[e0];exact h2) (by rw[e0];exact mJ);rw[e0]at f2;obtain⟨hD,fN⟩:=hr.newRowM (k:=k) (xs:=xs++k6 s) (el:=eS) (sz:=1) (.inr ⟨_,aa,by simp[fl];omega⟩) f3 (by rw[j2,fl];exact f2) ug (by rw[j2,fl];exact aE) (n':=st.n) (o':=st.o)
         (fun j aw=>⟨aw,fun e=>by subst e;have:=(hr.new _ aw).2.1;rw[ff]at this;cases this⟩)
        refine kj (jU _ _ f1) (cG _ _ (ν.withOwn k (xs++k6 s).length v') ?_);have:=hD.put (d:=some d) (by simpa[hi]using J) (fN (by rw[j2,fl];exact EY f2 Ω));simpa[fk,fl]using this
       rcases cA.2 with⟨jK,uO⟩|⟨bl,cap,cur,jK,uO,uP,Cb,Cc,E2,zF⟩
       ·rw[<-mi,p6]at jK;cases jK
       ·have hb:k1.ownBlock=some bl:=by rw[jK];rfl
        by_cases ny:xs.length+s.length<=cap
        ·have f1:=acZ (P:=P) w t t' type eS eH gP jT aj vK bl xs.length cap cur uP ⟨s.toArray⟩ (by rw[e0];exact ny) (by rw[e0];omega);rw[e0]at f1;generalize BK:(cur.toList.take xs.length++byteCells ⟨s.toArray⟩++cur.toList.drop (xs.length+s.length)).toArray=kW at f1;have j8:(w.setRow bl kW).heap[bl]? =some (.cells kW eS (0,0)):=setRow_heap w bl cur kW eS _ uP;have vN:(byteCells ⟨s.toArray⟩).length=s.length:=by rw[byteCells_length,e0]
         have aG:(eY++byteCells ⟨s.toArray⟩).length=(xs++k6 s).length*1:=by rw[j2,s6,vN,j2,fl,Nat.mul_one]
         have bp:cur.toList.take xs.length=eY:=by rw[cP];simpa using zF
         have fE:kW.size=cap*1:=by rw[<-BK];simp only[List.size_toArray,j2,pe,hg,Array.length_toList,vN];omega
         have nz:kW.toList.take ((xs++k6 s).length*1)=eY++byteCells ⟨s.toArray⟩:=by rw[<-BK,bp,<-aG];exact List.take_left
         obtain⟨hD,_,fN⟩:=hr.setRowM (w':=w.setRow bl kW) aa rfl ff hb (v':= .slice (some ⟨bl,0,none⟩) (xs.length+s.length) cap) rfl (xs':=xs++k6 s) (us:=eY++byteCells ⟨s.toArray⟩)
          (by
           by_cases bL:s=[]
           ·subst bL;exact .inl ⟨by simp[k6,cP],by rw[jK];simp[cP]⟩
           ·exact .inr (by have:=q2.2 bL;simp[fl];omega)) rfl rfl rfl (fun j aw=>setRow_other w bl j kW aw) (setRow_size w bl kW)
          ⟨aG,.inr ⟨bl,cap,kW,by simp[fl],Nat.zero_le _,j8,by simpa[fl]using ny,Cc,fE,nz⟩⟩ ug
         replace fN:=fN (by simpa[fl]using aE);refine kj (v:= .slice (some ⟨bl,0,none⟩) (xs.length+s.length) cap) (w':=w.setRow bl kW) (jU _ _ ?_) (cG _ _ (ν.withOwn k (xs++k6 s).length (.slice (some ⟨bl,0,none⟩) (xs.length+s.length) cap)) ?_)
         ·rw[jK,<-cP];exact f1
         ·have:=hD.put (d:=some d) (by simpa[hi]using J) fN;simpa[fk,fl]using this
        ·exact xt _ cap (by rw[jK,<-cP]) Cb Ω
      ·cases he
     ·cases he
    ·rename_i sz xs s af bA;split at he
     ·rename_i dq;obtain rfl:=dq;cases he;obtain⟨jS,kL,qw⟩:=aE;rw[af]at rx;rw[bA]at ji;simp only[aH]at rx ji;have mi:=rx.2.1 trivial;obtain⟨qX,lK⟩:=ji;have e0:(⟨s.toArray⟩:jL).size=s.length:=by simp[KT]
      have A9:byteCells ⟨s.toArray⟩=s.map fun c=>nK .u8 c.toNat:=by simp[byteCells]
      have ug:cC w ν 1 (k6 s) (byteCells ⟨s.toArray⟩):=by rw[A9];exact JL w ν s
      have fl:(k6 s).length=s.length:=by simp[k6]
      have gS:0<s.length:=q2.2 kL;have mJ:(0+s.length)*eH.bytes<=140737488355328:=by
       have mI:eH.bytes<=2048:=by rw[ch];exact ue
       have je:(0+s.length)*eH.bytes<=(0+s.length)*2048:=Nat.mul_le_mul_left _ mI;simp only[bN]at qw;omega
      have h2:0+s.length<=maxLen:=by simp only[bN]at qw;simp only[maxLen];omega
      rw[qX,mi]at jU;obtain⟨v',w',f1,f2,f3⟩:=RU (P:=P) w t t' type el eH z gP jT aj dd vK pM (.slice none 0 0) 0 [] ⟨rfl,.inl ⟨rfl,rfl⟩⟩ ⟨s.toArray⟩ 0 none rfl (by rw[e0];omega) (by rw[e0];exact h2) (by rw[e0];exact mJ);rw[e0,Nat.zero_add,ef]at f2;have ku:fresh st.n st.o (.obj 862):=⟨trivial,jS⟩;obtain⟨hD,fN⟩:=hr.newRowM (k:= .obj 862) (xs:=k6 s) (el:=el) (sz:=1) (.inl (hr.new _ ku)) f3 (by rw[fl];exact f2) ug (by rw[fl];exact qw) (n':=st.n) (o':= .obj 862::st.o)
       (fun j aw=>⟨⟨aw.1,fun h=>aw.2 (List.mem_cons_of_mem _ h)⟩,fun e=>by subst e;exact aw.2 Ψ⟩)
      refine kj (jU _ _ f1) (cG _ _ (ν.withOwn (.obj 862) (k6 s).length v') ?_);have:=hD.put (d:=some d) (by simpa[hi]using J) (fN (by rw[fl];exact EY f2 gS));simpa[fk,fl]using this
     ·cases he
    ·cases he
   ·cases bp
  ·cases aq
 ·cases aO
theorem iz{P:bK}{aZ:List (Nat×cJ)}(aD:ez P aZ=true){C:ek}{st st':aS}{a:Act}{w:World}{ν:aP}(hr:bX C st a w ν){i:dP}{o:Oper}(ak:qO C.N aZ i o=true)
  {κ:aC} {n':Nat} {o₁:List aC} (uj:i.makes st=true->fresh st.n st.o κ) (gQ:i.makes st=true->∀j,fresh n' o₁ j->fresh st.n st.o j/\j≠κ) {c:Prop} (he:ep κ n' o₁ st i=some (c,st')) (aE:c) {K:Act->World->Prop} {Q:Exit->Act->World->Prop} (cG:∀bU w' ν',bX C st' bU w' ν'->K bU w') (hB:i.bok κ:=by first|trivial|(intro h;cases h)):o.wp P a w K Q:=by
 obtain⟨dst,op,type,pos,after,guard⟩:=o;unfold qO at ak;dsimp only at ak;split at ak
 ·rename_i d key t;simp only[bM,ej,fK]at ak;obtain⟨⟨rfl,J⟩,_⟩:=ak;simp only[ep]at he;cases he;obtain⟨g1,g2⟩:=hr.newBox (hr.new _ (uj rfl)) (gQ rfl) (cs:=[.hdm 0 []]) (us:= #[]) ⟨0,fun e=>absurd e hB⟩ (by simp only[hM];exact⟨by simp[cc],⟨rfl,Ψ,Ψ⟩⟩);refine kj (v:= .map (some w.heap.size)) (w':=w.alloc (.map #[] 0)) ?_ (cG _ _ _ (g1.put (d:=some d) (by simpa[hi]using J) (p:= .gmap κ) ?_))
  ·simp only[execOp,Instr.makeMap,tG,e2,run_newObj,e4,fH];rfl
  ·simp[aH,aP.withBox]
 ·rename_i bT x k v t lR kc ot;simp only[bM,ej]at ak;obtain⟨⟨⟨⟨rfl,I⟩,J⟩,ao⟩,aO⟩:=ak;have rx:=ee hr J;have uV:=ee hr ao;have p1:=ee hr aO;split at I
  ·rename_i sz kG dH oM z aL;obtain⟨fV,hu,e8⟩:=hq aD aL;have fL:fV= .map dH oM:=by cases fV<;>simp[k8]at e8;obtain⟨rfl,rfl⟩:=e8;rfl
   subst fL;have lG:=Iw aD I;simp only[ep]at he;split at he
   ·rename_i m af;rw[af]at rx;simp only[aH]at rx;obtain⟨bl,cb,cn⟩:=rx;split at he
    ·rename_i cs cO;split at he
     ·rename_i cs' hm;cases he;obtain⟨gH,us,el,bR,cA,dE,dM,cP⟩:=hr.good.box m cs cO;rw[cb]at bR;cases bR;unfold qF at hm;split at hm
      ·rename_i clock borns kvs;split at hm
       ·cases hm
       rename_i fe;simp only[ix]at dM;simp only[hM]at cP;have mK:=uX (P:=P) dM;have vF:=JV (P:=P) (w:=w) lG false uV (by simpa using fe);have bS:bl<w.heap.size:=(Array.getElem?_eq_some_iff.1 dM).1;have la:∀(o':Obj) (br:Array Value) (c1:List ae),(Instr.mapUpdate t (a.eval lR) (a.eval kc) (a.eval ot)).run P w= .ok () {w with heap:=w.heap.setIfInBounds bl o'}->ix c1 br el.1=o'->hM w ν c1 br.toList->some c1=some cs'->
         (⟨none,.mapUpdate t lR kc ot,type,pos,after,guard⟩:Oper).wp P a w K Q:=by
        intro o' br c1 gD y8 jt gP;cases gP;refine CO (w':={w with heap:=w.heap.setIfInBounds bl o'}) ?_ (cG _ _ _ (hr.setBox (w':={w with heap:=w.heap.setIfInBounds bl o'}) cO cb (us:=br) (el:=el) rfl rfl rfl (fun j aw=>?_) Ψ ?_ jt).1)
        ·simp only[execOp,gD,e2,e4,fH]
        ·exact Array.getElem?_setIfInBounds_ne (Ne.symm aw)
        ·rw[y8];simp[bS]
       split at hm
       ·rename_i vY xz;obtain⟨j,u,br,e,f1,f2,f3,f4,f5,f6,f7⟩:=BW lG uV p1 borns kvs us.toList 0 _ cP.1 cP.2.len xz;refine la (.map (fw borns br).toArray clock) br.toArray (.hdm clock borns::vY) ?_ (by simp[ix]) (by simp only[hM];exact⟨by simpa using f2,⟨by rw[f3];exact cP.2.len,cP.2.inc,cP.2.lt⟩⟩) hm;have HY:(Instr.keyThatStays (((fw borns us.toList).toArray[j]?.map (·.key)).getD (a.eval kc)) (a.eval kc)).run P w= .ok (a.eval kc) w:=by
         have:((fw borns us.toList).toArray[j]?.map (·.key)).getD (a.eval kc)=e.key:=by simp[f4]
         rw[this];simp[Instr.keyThatStays,f6]
        simp only[Nat.zero_add]at f1;simp only[Instr.mapUpdate,e2,run_underlying hu,e4,cn,mK,vF,f1.run lG,fH,HY,Ct dM];rw[f7];simp
       ·rename_i xz;have f1:=BW lG uV p1 borns kvs us.toList 0 _ cP.1 cP.2.len xz;simp only at f1;have qA:us.toList.length=2*borns.length:=by rw[Fk cP.1,cP.2.len]
        refine la (.map ((fw borns us.toList).toArray.push ⟨a.eval kc,a.eval ot,clock⟩) (clock+1)) (us.toList++[a.eval kc,a.eval ot]).toArray (.hdm (clock+1) (borns++[clock])::(kvs++[bG st.t k,bG st.t v])) ?_ (by simp only[ix,GV borns us.toList clock _ _ qA];simp) ?_ hm
        ·simp only[Instr.mapUpdate,e2,run_underlying hu,e4,cn,mK,vF,f1.run lG,fH,Ct dM]
        ·simp only[hM];refine⟨JP cP.1 (by simp only[cc];exact⟨_,_,rfl,uV,_,_,rfl,p1,rfl⟩),⟨by simp[cP.2.len];omega,?_,?_⟩⟩
         ·rw[List.pairwise_append];exact⟨cP.2.inc,Ψ,fun x af y bA=>by simp at bA;subst bA;exact cP.2.lt x af⟩
         ·intro b ah;rcases hv.1 ah with ah|ah
          ·have:=cP.2.lt b ah;omega
          ·simp at ah;omega
       ·cases hm
      ·cases hm
     ·cases he
    ·cases he
   ·cases he
  ·cases I
 ·rename_i bT x k v t lR kc ot;simp only[bM,ej]at ak;obtain⟨⟨⟨⟨rfl,I⟩,J⟩,ao⟩,aO⟩:=ak;have rx:=ee hr J;have uV:=ee hr ao;have p1:=ee hr aO;split at I
  ·rename_i sz kG dH oM z aL;obtain⟨fV,hu,e8⟩:=hq aD aL;have fL:fV= .map dH oM:=by cases fV<;>simp[k8]at e8;obtain⟨rfl,rfl⟩:=e8;rfl
   subst fL;have lG:=Iw aD I;simp only[ep]at he;split at he
   ·rename_i m af;rw[af]at rx;simp only[aH]at rx;obtain⟨bl,cb,cn⟩:=rx;split at he
    ·rename_i cs cO;split at he
     ·rename_i cs' hm;cases he;obtain⟨gH,us,el,bR,cA,dE,dM,cP⟩:=hr.good.box m cs cO;rw[cb]at bR;cases bR;unfold qF at hm;split at hm
      ·rename_i clock borns kvs;split at hm
       ·cases hm
       rename_i fe;simp only[ix]at dM;simp only[hM]at cP;have mK:=uX (P:=P) dM;have vF:=JV (P:=P) (w:=w) lG false uV (by simpa using fe);have bS:bl<w.heap.size:=(Array.getElem?_eq_some_iff.1 dM).1;have la:∀(o':Obj) (br:Array Value) (c1:List ae),(Instr.mapUpdate t (a.eval lR) (a.eval kc) (a.eval ot)).run P w= .ok () {w with heap:=w.heap.setIfInBounds bl o'}->ix c1 br el.1=o'->hM w ν c1 br.toList->some c1=some cs'->
         (⟨none,.mapUpdate t lR kc ot,type,pos,after,guard⟩:Oper).wp P a w K Q:=by
        intro o' br c1 gD y8 jt gP;cases gP;refine CO (w':={w with heap:=w.heap.setIfInBounds bl o'}) ?_ (cG _ _ _ (hr.setBox (w':={w with heap:=w.heap.setIfInBounds bl o'}) cO cb (us:=br) (el:=el) rfl rfl rfl (fun j aw=>?_) Ψ ?_ jt).1)
        ·simp only[execOp,gD,e2,e4,fH]
        ·exact Array.getElem?_setIfInBounds_ne (Ne.symm aw)
        ·rw[y8];simp[bS]
       split at hm
       ·rename_i vY xz;obtain⟨j,u,br,e,f1,f2,f3,f4,f5,f6,f7⟩:=BW lG uV p1 borns kvs us.toList 0 _ cP.1 cP.2.len xz;refine la (.map (fw borns br).toArray clock) br.toArray (.hdm clock borns::vY) ?_ (by simp[ix]) (by simp only[hM];exact⟨by simpa using f2,⟨by rw[f3];exact cP.2.len,cP.2.inc,cP.2.lt⟩⟩) hm;have HY:(Instr.keyThatStays (((fw borns us.toList).toArray[j]?.map (·.key)).getD (a.eval kc)) (a.eval kc)).run P w= .ok (a.eval kc) w:=by
         have:((fw borns us.toList).toArray[j]?.map (·.key)).getD (a.eval kc)=e.key:=by simp[f4]
         rw[this];simp[Instr.keyThatStays,f6]
        simp only[Nat.zero_add]at f1;simp only[Instr.mapUpdate,e2,run_underlying hu,e4,cn,mK,vF,f1.run lG,fH,HY,Ct dM];rw[f7];simp
       ·rename_i xz;have f1:=BW lG uV p1 borns kvs us.toList 0 _ cP.1 cP.2.len xz;simp only at f1;have qA:us.toList.length=2*borns.length:=by rw[Fk cP.1,cP.2.len]
        refine la (.map ((fw borns us.toList).toArray.push ⟨a.eval kc,a.eval ot,clock⟩) (clock+1)) (us.toList++[a.eval kc,a.eval ot]).toArray (.hdm (clock+1) (borns++[clock])::(kvs++[bG st.t k,bG st.t v])) ?_ (by simp only[ix,GV borns us.toList clock _ _ qA];simp) ?_ hm
        ·simp only[Instr.mapUpdate,e2,run_underlying hu,e4,cn,mK,vF,f1.run lG,fH,Ct dM]
        ·simp only[hM];refine⟨JP cP.1 (by simp only[cc];exact⟨_,_,rfl,uV,_,_,rfl,p1,rfl⟩),⟨by simp[cP.2.len];omega,?_,?_⟩⟩
         ·rw[List.pairwise_append];exact⟨cP.2.inc,Ψ,fun x af y bA=>by simp at bA;subst bA;exact cP.2.lt x af⟩
         ·intro b ah;rcases hv.1 ah with ah|ah
          ·have:=cP.2.lt b ah;omega
          ·simp at ah;omega
       ·cases hm
      ·cases hm
     ·cases he
    ·cases he
   ·cases he
  ·cases I
 ·rename_i d key x t lR;simp only[bM,ej,fK]at ak;obtain⟨⟨⟨⟨rfl,J⟩,I⟩,ao⟩,_⟩:=ak;have rx:=ee hr ao;split at I
  ·rename_i sz kG dH oM z aL;obtain⟨fV,hu,e8⟩:=hq aD aL;have fL:fV= .map dH oM:=by cases fV<;>simp[k8]at e8;obtain⟨rfl,rfl⟩:=e8;rfl
   subst fL;simp only[ep]at he;split at he
   ·rename_i m af;rw[af]at rx;have ac2:=rx;simp only[aH]at rx;obtain⟨bl,cb,cn⟩:=rx;split at he
    ·rename_i cs cO;split at he
     ·rename_i cs' hm;cases he;obtain⟨gH,us,el,bR,cA,dE,dM,cP⟩:=hr.good.box m cs cO;rw[cb]at bR;cases bR;unfold Cg at hm;split at hm
      ·rename_i clock borns kvs;cases hm;simp only[ix]at dM;have mK:=uX (P:=P) dM;obtain⟨g1,g2⟩:=hr.newBox (hr.new _ (uj rfl)) (gQ rfl) (cs:=[.hdi clock [] clock,.gmap m]) (us:= #[a.eval lR]) ⟨0,fun e=>absurd e hB⟩ (by simp only[hM,cc];exact⟨_,_,rfl,ac2,rfl⟩);have y8:ix [.hdi clock [] clock,.gmap m] #[a.eval lR] 0= .mapIter (some bl) clock #[] clock:=by simp[ix,cn]
       rw[y8]at g1 g2;refine kj (v:= .pointer (some ⟨w.heap.size,0,none⟩)) (w':=w.alloc (.mapIter (some bl) clock #[] clock)) ?_ (cG _ _ _ (g1.put (d:=some d) (by simpa[hi]using J) (p:= .ptr κ 0) g2))
       ·simp only[execOp];refine CM ?_;simp only[Instr.range,e2,run_underlying hu,e4,cn,mK,fH,run_newObj];rfl
      ·cases hm
     ·cases he
    ·cases he
   ·cases he
  ·cases I
 ·rename_i d aiV;simp only[bM,ej,fK]at ak;obtain⟨⟨I,J⟩,ao⟩:=ak;subst I;simp only[ep]at he;split at he
  ·rename_i hh p aM;cases he;obtain⟨v,g1,g2⟩:=adS (o:=⟨some d,op,type,pos,after,guard⟩) aD hr ao aM aE;refine kj g1 (cG _ _ ν ?_);exact hr.put (d:=some d) (by simpa[hi]using J) g2
  ·cases he
 ·rename_i d key x el o';simp only[bM,ej,fK]at ak;obtain⟨⟨⟨I,J⟩,ao⟩,lL⟩:=ak;subst I;simp only[ep]at he;cases he;have af:=ee hr ao;have me:=uT af aE;obtain⟨g1,g2⟩:=hr.newBox (hr.new _ (uj rfl)) (gQ rfl) ⟨el,fun e=>by have:=hB e;subst this;simpa using lL⟩ (by rw[na (tq me)];exact me);rw[nD (tq me)]at g1 g2;refine kj (v:= .pointer (some ⟨w.heap.size,0,none⟩)) (w':=w.alloc (.cells (a.eval o').cells el)) ?_ (cG _ _ _ (g1.put (d:=some d) (by simpa[hi]using J) (p:= .ptr κ 0) ?_))
  ·simp only[execOp,Instr.box,newVar,newRow,e2,run_newObj,e4,fH];rfl
  ·simpa only[aH]using g2
 ·rename_i d key z el;simp only[bM,ej,fK]at ak;obtain⟨⟨⟨I,J⟩,ao⟩,lL⟩:=ak;subst I;simp only[ep]at he;cases he;split at ao
  ·rename_i f aL;have de:=KR ao;obtain⟨bk,KM,z2,z3⟩:=Ki aD aL w;rw[<-de]at z2;obtain⟨_,me⟩:=KQ w ν z2;obtain⟨g1,g2⟩:=hr.newBox (hr.new _ (uj rfl)) (gQ rfl) ⟨el,fun e=>by have:=hB e;subst this;simpa using lL⟩ (by rw[na (tq me)];exact me);rw[nD (tq me)]at g1 g2;refine kj (v:= .pointer (some ⟨w.heap.size,0,none⟩)) (w':=w.alloc (.cells bk.cells el)) ?_ (cG _ _ _ (g1.put (d:=some d) (by simpa[hi]using J) (p:= .ptr κ 0) ?_))
   ·simp only[execOp,Instr.alloc,newVar,newRow,e2,KM,run_newObj,e4,fH];rfl
   ·simpa only[aH]using g2
  ·cases ao
 ·rename_i sz x y t o' hp;simp only[bM,ej]at ak;obtain⟨⟨⟨I,J⟩,ao⟩,aO⟩:=ak;subst I;split at J
  ·rename_i f aL;simp only[ej]at J;simp only[ep]at he;split at he
   ·rename_i k off af;split at he
    ·rename_i cs cO;cases he;obtain⟨c0,cN,c2,c3⟩:=aE;have rx:=ee hr ao;rw[af]at rx;simp only[aH]at rx;obtain⟨bl,cb,cn⟩:=rx;have ji:=ee hr aO;have uR:=uT ji cN;have sd:=o7 uR;obtain⟨gH,us,el,bR,cA,dE,dM,cP⟩:=hr.good.box k cs cO;rw[cb]at bR;cases bR;rw[nD c0]at dM;rw[na c0]at cP;have bf:=o7 cP;obtain⟨_,dq⟩:=uZ aD aL w;have uz:(a.eval hp).cells.size=sz:=by rw[c2]at sd;simpa using sd
     have eI:=run_storeCells_at (P:=P) bl off el.1 (a.eval hp).cells.toList 0 us w dM (by simp at bf⊢;omega) (zQ uR);simp only[Nat.add_zero]at eI;refine CO (w':=w.setRow bl (us.toList.take off++(a.eval hp).cells.toList++us.toList.drop (off+(a.eval hp).cells.toList.length)).toArray) ?_ (cG _ _ _ (hr.storeBox cO cb c0 ?_))
     ·simp only[execOp,Instr.storeAt,cn,Instr.sureAddr,storeVar,e2,fH,e4,dq,uz,J,ne_eq,not_true_eq_false,if_false,eI]
     ·simp only[oB];rw[sd];exact xY (xY (Cm off cP) uR) (zP _ cP)
    ·cases he
   ·rename_i af;generalize HO:bG st.t x=px at he;unfold qR at he;split at he
    ·rename_i dn k n i xg;split at he
     ·rename_i n' el hO xs aa;split at he
      ·rename_i xA;obtain⟨rfl,rfl⟩:=xA;split at he
       ·rename_i q bn;cases he;obtain⟨c0,cN,c2,c3,c4⟩:=aE;have rx:=ee hr ao;rw[HO]at rx;have ji:=ee hr aO;have uR:=uT ji cN;have sd:=o7 uR;obtain⟨_,dq⟩:=uZ aD aL w;have uz:(a.eval hp).cells.size=sz:=by rw[c2]at sd;simpa using sd
        obtain⟨bl,off,l6,Bw,eI,ν',mR⟩:=hr.storeRow (P:=P) aa rx bn c0 uR (by simpa[uz]using c3) (fun e=>by have:=er List.length e;simp[uz]at this;omega);refine CO (w':=w.setRow bl l6) ?_ (cG _ _ _ mR);simp only[execOp,Instr.storeAt,Bw,Instr.sureAddr,storeVar,e2,fH,e4,dq,uz,J,ne_eq,not_true_eq_false,if_false,eI]
       ·cases he
      ·cases he
     ·cases he
    ·cases he
  ·cases J
 ·rename_i d sz el xs t len parts;simp only[bM,ej,fK]at ak;obtain⟨⟨⟨⟨⟨⟨I,J⟩,ao⟩,aO⟩,bp⟩,cj⟩,eu⟩:=ak;subst I;subst bp;split at ao
  ·rename_i eS aL;simp only[ej]at ao;subst ao;split at aO
   ·rename_i g aR;simp only[bM,ej,fK]at aO;obtain⟨rfl,gS⟩:=aO;simp only[ep]at he;cases he;obtain⟨us,g1,g2,g3⟩:=RV aD hr aL rfl aR eu aE cj;have kR:(w.alloc (.cells us el)).ownsRow w.heap.size el g.size (.slice (some ⟨w.heap.size,0,none⟩) xs.length xs.length) (xs.map (bG st.t)).length us.toList:=by
     refine⟨by simp[g3],.inr ⟨w.heap.size,xs.length,us,Ψ,cq _,heap_alloc_new w _,Ψ,?_,g3,?_⟩⟩
     ·simp only[maxLen];have:xs.length<=xs.length*g.size:=Nat.le_mul_of_pos_right _ gS;omega
     ·rw[List.take_of_length_le];simp[g3]
    obtain⟨ff,eW⟩:=hr.newRow (k:=κ) (xs:=xs.map (bG st.t)) (.inl (hr.new _ (uj rfl))) (World.grownBy_alloc w _ none) kR g2
     (by have:xs.length<=xs.length*g.size:=Nat.le_mul_of_pos_right _ gS;simp only[bN,List.length_map];omega) (gQ rfl)
    simp only[List.length_map]at ff eW;refine kj (v:= .slice (some ⟨w.heap.size,0,none⟩) xs.length xs.length) (w':=w.alloc (.cells us el)) ?_ (cG _ _ _ (ff.put (d:=some d) (by simpa[hi]using J) (p:= .slice g.size (.own κ) (xs.map (bG st.t))) eW));have aU:(parts.map fun(x:Nat×h7)=>(x.1,a.eval x.2))=(parts.toList.map fun(x:Nat×h7)=>(x.1,a.eval x.2)).toArray:=by apply Array.ext';simp
    simp only[execOp];refine CM ?_;rw[<-g1];congr 2
   ·cases aO
  ·cases ao
 ·rename_i d sz el x y o' hp t t';simp only[bM,ej,fK]at ak;obtain⟨⟨⟨⟨⟨⟨I,J⟩,ao⟩,aO⟩,bp⟩,cj⟩,eu⟩:=ak;subst I;subst ao;split at aO
  ·rename_i eS aL;simp only[ej]at aO;subst aO;split at bp
   ·rename_i g aR;simp only[bM,ej,fK]at bp;obtain⟨⟨rfl,gS⟩,ue⟩:=bp;have rx:=ee hr cj;have ji:=ee hr eu;have jU:∀v' w',(sx #[t,t] type #[a.eval o',a.eval hp]).run P w= .ok v' w'->(execOp a.eval ⟨some d,.call ⟨.builtin .append,⟨[o',hp]⟩,⟨[t,t]⟩⟩,type,pos,after,guard⟩).run P w= .ok (.value v') w':=by intro v' w' gD;simp only[execOp,resolve,invoke,builtin,e2,fH,e4,List.map_toArray,gY,List.map_nil];rw[gD];rfl
    obtain⟨eH,jQ,z,aj,aJ,bs,ch,fa,dd,l9,n4⟩:=(tC aD aR).ex;obtain⟨c1,gP,e8⟩:=hq aD aL;obtain rfl:=qs e8;simp only[ep]at he;split at he
    ·rename_i dn tag xs hO gN ys af bA;split at he
     ·rename_i e0;obtain⟨rfl,e0⟩:=e0;subst e0;rw[af]at rx;rw[bA]at ji;simp only[aH]at rx ji;obtain⟨⟨ax,qq,p6,cx1,⟨My,Mz⟩,cx4⟩,rxn,rxo,rxt⟩:=rx;obtain⟨⟨ay,kq,qX,cy1,⟨MA,MB⟩,cy4⟩,_⟩:=ji;split at he
      ·rename_i k;split at he
       ·rename_i ow aa;cases he;obtain⟨cN,c2,c3,c4⟩:=aE;subst c2;obtain⟨n0,k1,ff,eW,mw⟩:=rxo k rfl;obtain⟨v0,eY,bR,cA,dE,_⟩:=hr.good.own k ow aa;rw[ff]at bR;simp only[dZ,gA]at bR;obtain⟨rfl,rfl⟩:=bR;have mi:a.eval o'=k1:=mw cN.symm;by_cases gF:ys=[]
        ·subst gF;rw[qX,p6]at jU;have gD:=Ft (P:=P) (w:=w) (ty:=type) gP aj ax xs.length qq cx1 ay kq;refine kj (jU _ _ (by simpa using gD)) (cG _ _ ν ?_);have eI:{st with t:=put d (.slice ow.sz (.own k) (xs++[])) st.t,e:=cT k ⟨xs.length+([]:List ae).length,ow.el,ow.sz,none⟩ st.e}=({st with e:=cT k ⟨ow.n,ow.el,ow.sz,none⟩ st.e,t:=put d (.slice ow.sz (.own k) xs) st.t}:aS):=by simp[cN]
         rw[<-c3,eI];have jX:=hr.forgetRow aa;refine jX.put (d:=some d) (by simpa[hi]using J) (p:= .slice ow.sz (.own k) xs) ?_;simp only[aH];rw[<-c3]at cx4;exact⟨⟨ax,qq,rfl,cx1,⟨My,Mz⟩,cx4⟩,fun e=>(by cases e),(fun g e=>by cases e;exact⟨_,_,ff,eW,fun e=>by rw[<-p6];exact mw e⟩),fun _ _ e=>(by cases e),fun _ e=>(by cases e)⟩
        ·have hyp:0<ys.length:=by cases ys<;>simp at gF⊢
         rcases cy4 with cy4|⟨kG,mZ,gW,rfl,xN,l7⟩
         ·exact absurd cy4 gF
         ·have jC:=p0 l7;have rK:∀j u,gW[j]? =some u->w.cell? ((⟨kG,mZ,none⟩:Addr).add j)=some u:=fun j u aw=>by rw[nU];exact(tb xN aw).2
          have mJ:(xs.length+ys.length)*eH.bytes<=140737488355328:=by
           have mI:eH.bytes<=2048:=by rw[ch];exact ue
           have je:(xs.length+ys.length)*eH.bytes<=(xs.length+ys.length)*2048:=Nat.mul_le_mul_left _ mI;simp only[bN]at c4;omega
          have h2:xs.length+ys.length<=maxLen:=by simp only[bN]at c4;simp only[maxLen];omega
          rw[qX]at jU;have s6:eY.length=ow.n*ow.sz:=cA.1;have pM:z.cells.size=eH.size:=by rw[n4,bs]
          have xt:(∀cur,cZ->cur=(0:Nat))->(∃v' w',(sx #[t,t] type #[a.eval o',.slice (some ⟨kG,mZ,none⟩) ys.length kq]).run P w= .ok v' w'/\w'.ownsRow w.heap.size ow.el eH.size v' (xs.length+ys.length) (eY++gW)/\w.grownBy w' none/\cC w ν eH.size xs eY)->
            (⟨some d,.call ⟨.builtin .append,⟨[o',hp]⟩,⟨[t,t]⟩⟩,type,pos,after,guard⟩:Oper).wp P a w K Q:=by
           intro _ bI;obtain⟨v',w',f1,f2,f3,f4⟩:=bI;have ug:cC w ν eH.size (xs++ys) (eY++gW):=zN f4 (by rw[bs];exact l7);obtain⟨hD,fN⟩:=hr.newRow (k:=k) (xs:=xs++ys) (.inr ⟨ow,aa,by rw[cN];simp;omega⟩) f3 (by simpa using f2) ug (by simpa using c4) (n':=st.n) (o':=st.o)
            (fun j aw=>⟨aw,fun e=>by subst e;have:=(hr.new _ aw).2.1;rw[ff]at this;cases this⟩)
           refine kj (jU _ _ f1) (cG _ _ ((ν.withOwn k (xs++ys).length v').withRowOf k v' (xs++ys).length ((xs++ys).length*eH.size)) ?_);have:=hD.put (d:=some d) (by simpa[hi]using J) fN;simpa[bs,fk]using this
          rcases cA.2 with⟨jK,uO⟩|⟨bl,cap,cur,jK,uO,uP,Cb,Cc,E2,zF⟩
          ·
           have qC:xs=[]:=q1 Ω;have rU:eY=[]:=q1 (by rw[s6,uO];simp);subst qC;subst rU;refine xt (fun _ h=>h.elim) ?_;obtain⟨v',w',f1,f2,f3,_⟩:=run_append_own (P:=P) w w.heap.size t type ow.el eH z eH.size eH.bytes gP aj dd rfl rfl pM (by rw[bs];exact gS) (.slice none 0 0) 0 [] (World.ownsRow_nil w _ _ _)
            ⟨kG,mZ,none⟩ ys.length kq gW (by rw[jC,bs]) rK (xX l7) (by simpa using h2) (by simpa using mJ) (cq _)
           refine⟨v',w',by rw[mi,jK];exact f1,by simpa using f2,by simpa[nh]using f3,by simp[cC]⟩
          ·have YS:jI w ν.A bl 0 eY/\cC w ν eH.size xs eY/\True:=by
            rw[mi,jK]at p6;rcases cx4 with cx4|⟨ia,ah4,Kv,f1,f2,f3⟩
            ·subst cx4;have:eY=[]:=q1 (by rw[s6,cN];simp);subst this;exact⟨trivial,by simp[cC],trivial⟩
            ·subst f1;injection p6 with vx1 vx2 vx3;injection vx1 with vx1;injection vx1 with vx1 vx4;subst vx1;subst vx4;have heq:Kv=eY:=by
              apply List.ext_getElem?;intro j;have qA:Kv.length=eY.length:=by rw[p0 f3,s6,cN,c3]
              by_cases aw:j<Kv.length
              ·have I:=(tb f2 (cF aw)).2;rw[Nat.zero_add]at I;have J:=cA.cells (g:=bl) (by rw[jK];rfl) j eY[j] (cF Ω);rw[nU,Nat.zero_add,I]at J;rw[cF aw,cF Ω];exact J
              ·rw[List.getElem?_eq_none Ω,List.getElem?_eq_none Ω]
             subst heq;exact⟨f2,by rw[bs];exact f3,trivial⟩
           obtain⟨iM,hl,_⟩:=YS;by_cases ny:xs.length+ys.length<=cap
           ·have agG:cur.size=cap*ow.sz:=E2;have hmul:(xs.length+ys.length)*ow.sz<=cap*ow.sz:=Nat.mul_le_mul_right _ ny;rw[Nat.add_mul]at hmul;have f1:=run_append_room (P:=P) w t type ow.el eH gP aj bl xs.length cap cur uP ⟨kG,mZ,none⟩ ys.length kq gW (by rw[jC,bs]) rK (xX l7) ny (by rw[jC,bs,<-c3];omega);obtain⟨hD,fN⟩:=hr.inPlace aa (bl:=bl) (cap:=cap) (cur:=cur) (by rw[ff,<-jK]) uP Cc E2 (xs:=xs) (ys:=ys) (us:=eY) (ns:=gW) cN.symm zF (by rw[c3,<-bs];exact hl) (by rw[c3];exact l7) hyp (by rw[cN];exact ny) c4;refine kj (v:= .slice (some ⟨bl,0,none⟩) (ow.n+ys.length) cap) (w':=w.setRow bl (eY++gW++cur.toList.drop (ow.n*ow.sz+gW.length)).toArray) (jU _ _ ?_)
             (cG _ _ (ν.withRowOf k (.slice (some ⟨bl,0,none⟩) (ow.n+ys.length) cap) (ow.n+ys.length) ((ow.n+ys.length)*ow.sz)) ?_)
            ·rw[mi,jK,cN,f1,<-zF,cN,c3,bs]
            ·have:=hD.put (d:=some d) (by simpa[hi]using J) fN;simpa[cN,c3,fk]using this
           ·refine xt (fun _ h=>h.elim) ?_;obtain⟨v',w',f1,f2,f3⟩:=run_append_arg_grows (P:=P) w t type ow.el eH z eH.size eH.bytes gP aj dd rfl rfl pM (by rw[bs];exact gS) ⟨bl,0,none⟩ xs.length cap eY (by rw[s6,cN,c3,bs])
             (fun j u aw=>by rw[nU];exact(tb iM aw).2) ⟨kG,mZ,none⟩ ys.length kq gW (by rw[jC,bs]) rK Ω h2 mJ
            exact⟨v',w',by rw[mi,jK,cN];exact f1,f2,f3,hl⟩
       ·cases he
      ·cases he;have D6:=rxn rfl;have qC:xs=[]:=by rw[D6]at p6;injection p6 with _ aJ;exact q1 aJ.symm
       subst qC;have xy:(dP.app d g.size el x y).makes st=true:=by simp only[dP.makes,af]
       have pM:z.cells.size=eH.size:=by rw[n4,bs]
       rw[qX,D6]at jU;have la:∀(v':Value) (w':World) (gW:List Value),(sx #[t,t] type #[.slice none 0 0,.slice ay ys.length kq]).run P w= .ok v' w'->w'.ownsRow w.heap.size el g.size v' ys.length gW->w.grownBy w' none->cC w ν g.size ys gW->
         (⟨some d,.call ⟨.builtin .append,⟨[o',hp]⟩,⟨[t,t]⟩⟩,type,pos,after,guard⟩:Oper).wp P a w K Q:=by
        intro v' w' gW f1 f2 f3 f4;obtain⟨hD,fN⟩:=hr.newRow (k:=κ) (xs:=ys) (.inl (hr.new _ (uj xy))) f3 f2 f4 aE (gQ xy);exact kj (jU _ _ f1) (cG _ _ _ (hD.put (d:=some d) (by simpa[hi]using J) fN))
       by_cases gF:ys=[]
       ·subst gF;exact la _ w [] (Ft gP aj none 0 0 (cq _) ay kq) (World.ownsRow_nil w _ _ _) (aeR w _) (by simp[cC])
       ·rcases cy4 with cy4|⟨kG,mZ,gW,rfl,xN,l7⟩
        ·exact absurd cy4 gF
        ·have jC:=p0 l7;have rK:∀j u,gW[j]? =some u->w.cell? ((⟨kG,mZ,none⟩:Addr).add j)=some u:=fun j u aw=>by rw[nU];exact(tb xN aw).2
         have mJ:ys.length*eH.bytes<=140737488355328:=by
          have I:eH.bytes<=2048:=by rw[ch];exact ue
          have J:ys.length*eH.bytes<=ys.length*2048:=Nat.mul_le_mul_left _ I;simp only[bN]at aE;omega
         have h2:ys.length<=maxLen:=by simp only[bN]at aE;simp only[maxLen];omega
         obtain⟨v',w',f1,f2,f3,_⟩:=run_append_own (P:=P) w w.heap.size t type el eH z eH.size eH.bytes gP aj dd rfl rfl pM (by rw[bs];exact gS) (.slice none 0 0) 0 [] (World.ownsRow_nil w _ _ _)
          ⟨kG,mZ,none⟩ ys.length kq gW (by rw[jC,bs]) rK (xX l7) (by simpa using h2) (by simpa using mJ) (cq _)
         exact la v' w' gW f1 (by rw[<-bs];simpa using f2) (by simpa[nh]using f3) l7
      ·cases he
     ·cases he
    ·cases he
   ·cases bp
  ·cases aO
 ·rename_i d key sz el xs t len parts;simp only[bM,ej,fK]at ak;obtain⟨⟨⟨⟨⟨⟨I,J⟩,ao⟩,aO⟩,bp⟩,cj⟩,eu⟩:=ak;subst I;subst bp;split at ao
  ·rename_i eS aL;simp only[ej]at ao;subst ao;split at aO
   ·rename_i g aR;simp only[bM,ej,fK]at aO;obtain⟨rfl,gS⟩:=aO;simp only[ep]at he;cases he;obtain⟨us,g1,g2,g3⟩:=RV aD hr aL rfl aR eu aE cj;have kR:(w.alloc (.cells us el)).ownsRow w.heap.size el g.size (.slice (some ⟨w.heap.size,0,none⟩) xs.length xs.length) (xs.map (bG st.t)).length us.toList:=by
     refine⟨by simp[g3],.inr ⟨w.heap.size,xs.length,us,Ψ,cq _,heap_alloc_new w _,Ψ,?_,g3,?_⟩⟩
     ·simp only[maxLen];have:xs.length<=xs.length*g.size:=Nat.le_mul_of_pos_right _ gS;omega
     ·rw[List.take_of_length_le];simp[g3]
    obtain⟨ff,eW⟩:=hr.newRowM (k:=κ) (xs:=xs.map (bG st.t)) (.inl (hr.new _ (uj rfl))) (World.grownBy_alloc w _ none) kR g2
     (by have:xs.length<=xs.length*g.size:=Nat.le_mul_of_pos_right _ gS;simp only[bN,List.length_map];omega) (gQ rfl)
    simp only[List.length_map]at ff eW;refine kj (v:= .slice (some ⟨w.heap.size,0,none⟩) xs.length xs.length) (w':=w.alloc (.cells us el)) ?_ (cG _ _ _ (ff.put (d:=some d) (by simpa[hi]using J) (p:= .row g.size κ xs.length) (eW ⟨_,_,rfl⟩)));have aU:(parts.map fun(x:Nat×h7)=>(x.1,a.eval x.2))=(parts.toList.map fun(x:Nat×h7)=>(x.1,a.eval x.2)).toArray:=by apply Array.ext';simp
    simp only[execOp];refine CM ?_;rw[<-g1];congr 2
   ·cases aO
  ·cases ao
 ·rename_i d key sz el x y o' hp t t';simp only[bM,ej,fK]at ak;obtain⟨⟨⟨⟨⟨⟨I,J⟩,ao⟩,aO⟩,bp⟩,cj⟩,eu⟩:=ak;subst I;subst ao;split at aO
  ·rename_i eS aL;simp only[ej]at aO;subst aO;split at bp
   ·rename_i g aR;simp only[bM,ej,fK]at bp;obtain⟨⟨rfl,gS⟩,ue⟩:=bp;have rx:=ee hr cj;have ji:=ee hr eu;have jU:∀v' w',(sx #[t,t] type #[a.eval o',a.eval hp]).run P w= .ok v' w'->(execOp a.eval ⟨some d,.call ⟨.builtin .append,⟨[o',hp]⟩,⟨[t,t]⟩⟩,type,pos,after,guard⟩).run P w= .ok (.value v') w':=by intro v' w' gD;simp only[execOp,resolve,invoke,builtin,e2,fH,e4,List.map_toArray,gY,List.map_nil];rw[gD];rfl
    obtain⟨eH,jQ,z,aj,aJ,bs,ch,fa,dd,l9,n4⟩:=(tC aD aR).ex;obtain⟨c1,gP,e8⟩:=hq aD aL;obtain rfl:=qs e8;have pM:z.cells.size=eH.size:=by rw[n4,bs]
    simp only[ep]at he;split at he
    ·
     rename_i ys aM;cases he;unfold l3 at aM;split at aM
     ·rename_i dn xs hO gN aeJ af bA;split at aM
      ·rename_i e0;obtain⟨rfl,e0⟩:=e0;subst e0;cases aM;rw[af]at rx;rw[bA]at ji;simp only[aH]at rx ji;obtain⟨⟨ax,qq,p6,cx1,⟨My,Mz⟩,cx4⟩,rxn,rxo,rxt⟩:=rx;obtain⟨⟨ay,kq,qX,cy1,⟨MA,MB⟩,cy4⟩,_⟩:=ji;have D6:=rxn trivial;have xy:(dP.appm d key g.size el x y).makes st=true:=by simp only[dP.makes,af]
       rw[qX,D6]at jU;have la:∀(v':Value) (w':World) (gW:List Value),(sx #[t,t] type #[.slice none 0 0,.slice ay ys.length kq]).run P w= .ok v' w'->w'.ownsRow w.heap.size el g.size v' ys.length gW->w.grownBy w' none->cC w ν g.size ys gW->
         (⟨some d,.call ⟨.builtin .append,⟨[o',hp]⟩,⟨[t,t]⟩⟩,type,pos,after,guard⟩:Oper).wp P a w K Q:=by
        intro v' w' gW f1 f2 f3 f4;obtain⟨hD,fN⟩:=hr.newRowM (k:=κ) (xs:=ys) (.inl (hr.new _ (uj xy))) f3 f2 f4 aE.1 (gQ xy);exact kj (jU _ _ f1) (cG _ _ _ (hD.put (d:=some d) (by simpa[hi]using J) (fN (EY f2 (by cases ys<;>simp at aE⊢)))))
       by_cases gF:ys=[]
       ·subst gF;exact la _ w [] (Ft gP aj none 0 0 (cq _) ay kq) (World.ownsRow_nil w _ _ _) (aeR w _) (by simp[cC])
       ·rcases cy4 with cy4|⟨kG,mZ,gW,rfl,xN,l7⟩
        ·exact absurd cy4 gF
        ·have jC:=p0 l7;have rK:∀j u,gW[j]? =some u->w.cell? ((⟨kG,mZ,none⟩:Addr).add j)=some u:=fun j u aw=>by rw[nU];exact(tb xN aw).2
         have mJ:ys.length*eH.bytes<=140737488355328:=by
          have I:eH.bytes<=2048:=by rw[ch];exact ue
          have J:ys.length*eH.bytes<=ys.length*2048:=Nat.mul_le_mul_left _ I;simp only[bN]at aE;omega
         have h2:ys.length<=maxLen:=by simp only[bN]at aE;simp only[maxLen];omega
         obtain⟨v',w',f1,f2,f3,_⟩:=run_append_own (P:=P) w w.heap.size t type el eH z eH.size eH.bytes gP aj dd rfl rfl pM (by rw[bs];exact gS) (.slice none 0 0) 0 [] (World.ownsRow_nil w _ _ _)
          ⟨kG,mZ,none⟩ ys.length kq gW (by rw[jC,bs]) rK (xX l7) (by simpa using h2) (by simpa using mJ) (cq _)
         exact la v' w' gW f1 (by rw[<-bs];simpa using f2) (by simpa[nh]using f3) l7
      ·cases aM
     ·split at aM
      ·split at aM
       ·split at aM<;>cases aM
       ·cases aM
      ·cases aM
     ·cases aM
    ·
     rename_i k xs ys aM;cases he;unfold l3 at aM;split at aM
     ·split at aM<;>cases aM
     ·rename_i dn bb n hO gN aeJ af bA;split at aM
      ·rename_i e0;obtain⟨rfl,e0⟩:=e0;subst e0;split at aM
       ·rename_i n' eS tw xs' aa;split at aM
        ·rename_i ik;obtain⟨rfl,rfl,rfl⟩:=ik;cases aM;rw[af]at rx;rw[bA]at ji;simp only[aH]at rx ji;obtain⟨⟨bx,qq,p6⟩,rxl,n0,k1,ff,eW,mw⟩:=rx;obtain⟨⟨ay,kq,qX,cy1,⟨MA,MB⟩,cy4⟩,_⟩:=ji;obtain⟨v0,eY,bR,cA,dE,dM⟩:=hr.good.own k _ aa;rw[ff]at bR;simp only[dZ,gA]at bR cA;obtain⟨rfl,rfl⟩:=bR;have mi:a.eval o'=k1:=mw rfl;obtain⟨cP,mv,tj⟩:=dM xs rfl;simp only at cP mv;have s6:eY.length=xs.length*g.size:=by rw[cP];exact cA.1
         have oi:xs.length=n0:=cP;by_cases gF:ys=[]
         ·subst gF;rw[qX,p6]at jU;have me:n0<=qq:=by
           rcases cA.2 with⟨jK,uO⟩|⟨bl,cap,cur,jK,uO,uP,Cb,_⟩
           ·rw[uO];exact Nat.zero_le _
           ·rw[<-mi,p6]at jK;injection jK with _ _ e;rw[e];exact Cb
          have gD:=Ft (P:=P) (w:=w) (ty:=type) gP aj (some ⟨bx,0,none⟩) n0 qq me ay kq;refine kj (jU _ _ (by simpa using gD)) (cG _ _ ν ?_);have ha:∀eM,look eM (cT k ⟨n0,eS,g.size,some xs⟩ st.e)=look eM st.e:=fun eM=>by
           rw[iQ];split
           ·rename_i e;subst e;rw[aa]
           ·rfl
          have jX:bX C {st with e:=cT k ⟨n0,eS,g.size,some xs⟩ st.e} a w ν:=
           ⟨⟨hr.good.alt,hr.good.box,hr.good.inj,fun g o aR=>hr.good.own g o (by rw[<-ha g];exact aR),fun g eM n n' v v' bl bB a2=>hr.good.oinj g eM n n' v v' bl (by rw[<-ha g];exact bB) (by rw[<-ha eM];exact a2),
           fun g j n v bl bB=>hr.good.obx g j n v bl (by rw[<-ha g];exact bB),hr.good.one,fun bl ah=>hr.good.otr bl (ah.imp id (fun⟨g,n,v,bB,a2⟩=>⟨g,n,v,by rw[<-ha g];exact bB,a2⟩))⟩,hr.fr,hr.defers,hr.size,hr.slot,hr.new,hr.ext,hr.obk⟩
          have ao:=jX.put (d:=some d) (by simpa[hi]using J) (p:= .row g.size k n0) (v:= .slice (some ⟨bx,0,none⟩) n0 qq) (by simp only[aH];exact⟨⟨_,_,rfl⟩,rxl,_,_,ff,cq _,fun _=>by rw[<-p6];exact mi⟩)
          simpa[oi,fk]using ao
         ·have hyp:0<ys.length:=by cases ys<;>simp at gF⊢
          rcases cy4 with cy4|⟨kG,mZ,gW,rfl,xN,l7⟩
          ·exact absurd cy4 gF
          ·have jC:=p0 l7;have rK:∀j u,gW[j]? =some u->w.cell? ((⟨kG,mZ,none⟩:Addr).add j)=some u:=fun j u aw=>by rw[nU];exact(tb xN aw).2
           have mJ:(xs.length+ys.length)*eH.bytes<=140737488355328:=by
            have mI:eH.bytes<=2048:=by rw[ch];exact ue
            have je:(xs.length+ys.length)*eH.bytes<=(xs.length+ys.length)*2048:=Nat.mul_le_mul_left _ mI;simp only[bN]at aE;omega
           have h2:xs.length+ys.length<=maxLen:=by simp only[bN]at aE;simp only[maxLen];omega
           have ug:cC w ν g.size (xs++ys) (eY++gW):=zN mv l7;rw[qX,mi]at jU;have xt:(∃v' w',(sx #[t,t] type #[k1,.slice (some ⟨kG,mZ,none⟩) ys.length kq]).run P w= .ok v' w'/\w'.ownsRow w.heap.size eS eH.size v' (xs.length+ys.length) (eY++gW)/\w.grownBy w' none)->
             (⟨some d,.call ⟨.builtin .append,⟨[o',hp]⟩,⟨[t,t]⟩⟩,type,pos,after,guard⟩:Oper).wp P a w K Q:=by
            intro bI;obtain⟨v',w',f1,f2,f3⟩:=bI;obtain⟨hD,fN⟩:=hr.newRowM (k:=k) (xs:=xs++ys) (el:=eS) (sz:=g.size) (.inr ⟨_,aa,by simp;omega⟩) f3 (by rw[<-bs];simpa using f2) ug (by simpa using aE) (n':=st.n) (o':=st.o)
             (fun j aw=>⟨aw,fun e=>by subst e;have:=(hr.new _ aw).2.1;rw[ff]at this;cases this⟩)
            refine kj (jU _ _ f1) (cG _ _ (ν.withOwn k (xs++ys).length v') ?_);have:=hD.put (d:=some d) (by simpa[hi]using J) (fN (by simpa using EY f2 Ω));simpa[fk]using this
           rcases cA.2 with⟨jK,uO⟩|⟨bl,cap,cur,jK,uO,uP,Cb,Cc,E2,zF⟩
           ·
            have qC:xs=[]:=q1 Ω;have rU:eY=[]:=q1 (by rw[s6,qC];simp);subst qC;subst rU;refine xt ?_;obtain⟨v',w',f1,f2,f3,_⟩:=run_append_own (P:=P) w w.heap.size t type eS eH z eH.size eH.bytes gP aj dd rfl rfl pM (by rw[bs];exact gS) (.slice none 0 0) 0 [] (World.ownsRow_nil w _ _ _)
             ⟨kG,mZ,none⟩ ys.length kq gW (by rw[jC,bs]) rK (xX l7) (by simpa using h2) (by simpa using mJ) (cq _)
            exact⟨v',w',by rw[jK];exact f1,by simpa using f2,by simpa[nh]using f3⟩
           ·have hb:k1.ownBlock=some bl:=by rw[jK];rfl
            by_cases ny:xs.length+ys.length<=cap
            ·have hmul:(xs.length+ys.length)*g.size<=cap*g.size:=Nat.mul_le_mul_right _ ny;rw[Nat.add_mul]at hmul;have f1:=run_append_room (P:=P) w t type eS eH gP aj bl xs.length cap cur uP ⟨kG,mZ,none⟩ ys.length kq gW (by rw[jC,bs]) rK (xX l7) ny (by rw[jC,bs];omega);generalize BK:(cur.toList.take (xs.length*eH.size)++gW++cur.toList.drop (xs.length*eH.size+gW.length)).toArray=kW at f1;have j8:(w.setRow bl kW).heap[bl]? =some (.cells kW eS (0,0)):=setRow_heap w bl cur kW eS _ uP;have aG:(eY++gW).length=(xs++ys).length*g.size:=by rw[j2,s6,jC,j2,Nat.add_mul]
             have bp:cur.toList.take (xs.length*eH.size)=eY:=by rw[oi,bs];exact zF
             have fE:kW.size=cap*g.size:=by rw[<-BK];simp only[List.size_toArray,j2,pe,hg,Array.length_toList];rw[bs];omega
             have nz:kW.toList.take ((xs++ys).length*g.size)=eY++gW:=by rw[<-BK,bp];simp only[<-aG];rw[List.take_append_of_le_length (cq _),j4]
             obtain⟨hD,_,fN⟩:=hr.setRowM (w':=w.setRow bl kW) aa rfl ff hb (v':= .slice (some ⟨bl,0,none⟩) (xs.length+ys.length) cap) rfl (xs':=xs++ys) (us:=eY++gW) (.inr (by simp;omega)) rfl rfl rfl (fun j aw=>setRow_other w bl j kW aw) (setRow_size w bl kW)
              ⟨aG,.inr ⟨bl,cap,kW,Ψ,Nat.zero_le _,j8,by simpa using ny,Cc,fE,nz⟩⟩ ug
             replace fN:=fN (by simpa using aE);refine kj (v:= .slice (some ⟨bl,0,none⟩) (xs.length+ys.length) cap) (w':=w.setRow bl kW) (jU _ _ ?_) (cG _ _ (ν.withOwn k (xs++ys).length (.slice (some ⟨bl,0,none⟩) (xs.length+ys.length) cap)) ?_)
             ·rw[jK,<-oi];exact f1
             ·have:=hD.put (d:=some d) (by simpa[hi]using J) fN;simpa[fk]using this
            ·refine xt ?_;obtain⟨v',w',f1,f2,f3⟩:=run_append_arg_grows (P:=P) w t type eS eH z eH.size eH.bytes gP aj dd rfl rfl pM (by rw[bs];exact gS) ⟨bl,0,none⟩ xs.length cap eY (by rw[s6,bs])
              (fun j u aw=>by have:=cA.cells hb j u aw;exact this) ⟨kG,mZ,none⟩ ys.length kq gW (by rw[jC,bs]) rK Ω h2 mJ
             exact⟨v',w',by rw[jK,<-oi];exact f1,f2,f3⟩
        ·cases aM
       ·cases aM
      ·cases aM
     ·cases aM
    ·cases he
   ·cases bp
  ·cases aO
 ·rename_i sz x y t o' hp;simp only[bM,ej]at ak;obtain⟨⟨⟨I,J⟩,ao⟩,aO⟩:=ak;subst I;split at J
  ·rename_i f aL;simp only[ej]at J;simp only[ep]at he;generalize HO:bG st.t x=px at he;unfold qR at he;split at he
   ·rename_i dn k n i xg;split at he
    ·rename_i n' el hO xs aa;split at he
     ·rename_i xA;obtain⟨rfl,rfl⟩:=xA;split at he
      ·rename_i q bn;cases he;obtain⟨c0,cN,c2,c3,c4⟩:=aE;have rx:=ee hr ao;rw[HO]at rx;have ji:=ee hr aO;have uR:=uT ji cN;have sd:=o7 uR;obtain⟨_,dq⟩:=uZ aD aL w;have uz:(a.eval hp).cells.size=sz:=by rw[c2]at sd;simpa using sd
       obtain⟨bl,off,l6,Bw,eI,ν',mR⟩:=hr.storeRow (P:=P) aa rx bn c0 uR (by simpa[uz]using c3) (fun e=>by have:=er List.length e;simp[uz]at this;omega);refine CO (w':=w.setRow bl l6) ?_ (cG _ _ _ mR);simp only[execOp,Instr.storeAt,Bw,Instr.sureAddr,storeVar,e2,fH,e4,dq,uz,J,ne_eq,not_true_eq_false,if_false,eI]
      ·cases he
     ·cases he
    ·cases he
   ·cases he
  ·cases J
 ·rename_i d el x y o' hp t t';exact Lg aD hr (d:=d) (el:=el) (x:=x) (y:=y) (by simpa only[qO]using ak) (by simpa only[ep]using he) aE cG
 ·rename_i d key sz el z x t o' hp;simp only[bM,ej,fK]at ak;obtain⟨⟨⟨⟨⟨I,J⟩,ao⟩,aO⟩,bp⟩,cj⟩:=ak;subst I;split at ao
  ·rename_i eS aL;simp only[ej]at ao;subst ao;split at aO
   ·rename_i g aR;simp only[bM,ej,fK]at aO;obtain⟨⟨⟨rfl,gS⟩,ue⟩,de⟩:=aO;obtain rfl:=KR de;have rx:=ee hr bp;have ji:=ee hr cj;simp only[ep]at he;split at he
    ·rename_i hc n af;cases he;obtain⟨y7,jC⟩:=aE;obtain⟨m,rfl⟩:=Int.eq_ofNat_of_zero_le y7;rw[af]at rx ji;simp only[aH]at rx ji;obtain⟨eH,jQ,bk,aj,aJ,bs,ch,fa,dd,l9,n4⟩:=(tC aD aR).ex;obtain⟨c1,gP,e8⟩:=hq aD aL;obtain rfl:=qs e8;have h2:m<=bN:=by simp only[bN]at jC⊢;omega
     have mJ:eH.bytes*m<=281474976710656:=by have I:eH.bytes*m<=2048*m:=Nat.mul_le_mul_right _ Ω;simp only[bN]at h2;omega
     obtain⟨Zg,Ya⟩:=KQ w ν l9;obtain⟨w',g1,g2,g3⟩:=run_make_full (P:=P) w w.heap.size t el eH bk eH.size gP aj dd rfl hc hc m mJ (by simp only[maxLen];simp only[bN]at h2;omega) (cq _);have kR:w'.ownsRow w.heap.size el g.size (.slice (some ⟨w.heap.size,0,none⟩) m m) (List.replicate m g.zero).length (madeCells bk.cells (m*bk.cells.size)).toList:=by rw[bs,<-n4]at g2;rw[List.length_replicate,<-n4];exact g2
     obtain⟨ff,eW⟩:=hr.newRowM (k:=κ) (xs:=List.replicate m g.zero) (.inl (hr.new _ (uj rfl))) g3 kR (by rw[<-n4];exact P9 Zg Ω (zQ Ya) m) (by simpa using h2) (gQ rfl);simp only[List.length_replicate]at ff eW;simp only[Int.toNat_natCast]at cG;refine kj (v:= .slice (some ⟨w.heap.size,0,none⟩) m m) (w':=w') ?_ (cG _ _ _ (ff.put (d:=some d) (by simpa[hi]using J) (p:= .row g.size κ m) (eW ⟨_,_,rfl⟩)));simp only[execOp];refine CM ?_;rw[rx,ji];exact g1
    ·cases he
   ·cases aO
  ·cases ao
 ·cases ak
theorem Ln{N:Nat}{aZ:List (Nat×cJ)}{d:Nat}{key:aT Nat}{o:Oper}(h:qO N aZ (.mkmap d key) o=true):key≠some 861:=by
 rintro rfl;obtain⟨dst,op,type,pos,after,guard⟩:=o;generalize az:dP.mkmap d (some 861)=i at h;unfold qO at h;dsimp only at h;split at h<;>first|(cases az;done)|(cases h;done)|skip
 cases az;simp at h
theorem TN{N:Nat}{aZ:List (Nat×cJ)}{st:aS}{d:Nat}{key:aT Nat}{x:cM}{o:Oper}(h:qO N aZ (.range d key x) o=true):iw st key≠ .obj 861:=by
 intro e;obtain rfl:=EK e;obtain⟨dst,op,type,pos,after,guard⟩:=o;generalize az:dP.range d (some 861) x=i at h;unfold qO at h;dsimp only at h;split at h<;>first|(cases az;done)|(cases h;done)|skip
 cases az;simp at h
theorem ac5{P:bK}{aZ:List (Nat×cJ)}(aD:ez P aZ=true){C:ek}{st st':aS}{a:Act}{w:World}{ν:aP}(hr:bX C st a w ν){i:dP}{o:Oper}(ak:qO C.N aZ i o=true)
  {c:Prop} (he:lr st i=some (c,st')) (aE:c) {K:Act->World->Prop} {Q:Exit->Act->World->Prop} (cG:∀bU w' ν',bX C st' bU w' ν'->K bU w'):o.wp P a w K Q:=by
 have jh:pN st none->fresh st.n st.o (.loc st.n):=fun h=>wc (key:=none) h;have Br:∀j,fresh (st.n+1) st.o j->fresh st.n st.o j/\j≠ .loc st.n:=we (key:=none);cases i with
 |v d i=>exact iz (κ:= .loc 0) (n':=0) (o₁:=[]) aD hr ak (fun h=>by simp[dP.makes]at h) (fun h=>by simp[dP.makes]at h) (by simpa only[lr,ep]using he) aE cG
 |box d key x=>simp only[lr]at he;cases he;exact iz (κ:=iw st key) (n':=mW st key) (o₁:=mX st key) aD hr ak (fun _=>wc aE.1) (fun _=>we) (by simp only[ep]) aE.2 cG (hB:=EK)
 |alloc d key z=>simp only[lr]at he;cases he;exact iz (κ:=iw st key) (n':=mW st key) (o₁:=mX st key) aD hr ak (fun _=>wc aE) (fun _=>we) (by simp only[ep]) trivial cG (hB:=EK)
 |mks d key sz el z x=>
  simp only[lr]at he;split at he
  ·rename_i hc n af;cases he;exact iz (κ:=iw st key) (n':=mW st key) (o₁:=mX st key) aD hr ak (fun _=>wc aE.1) (fun _=>we) (by simp only[ep,af]) aE.2 cG
  ·cases he
 |apps d el x y=>exact Lg aD hr ak (by simpa only[lr]using he) aE cG
 |storeE sz x y=>exact iz (κ:= .loc 0) (n':=0) (o₁:=[]) aD hr ak (fun h=>by simp[dP.makes]at h) (fun h=>by simp[dP.makes]at h) (by simpa only[lr,ep]using he) aE cG
 |store sz x y=>exact iz (κ:= .loc 0) (n':=0) (o₁:=[]) aD hr ak (fun h=>by simp[dP.makes]at h) (fun h=>by simp[dP.makes]at h) (by simpa only[lr,ep]using he) aE cG
 |bsl d sz el xs=>simp only[lr]at he;cases he;exact iz (κ:= .loc st.n) (n':=st.n+1) (o₁:=st.o) aD hr ak (fun _=>jh aE.1) (fun _=>Br) (by simp only[ep]) aE.2 cG
 |bslm d key sz el xs=>simp only[lr]at he;cases he;exact iz (κ:=iw st key) (n':=mW st key) (o₁:=mX st key) aD hr ak (fun _=>wc aE.1) (fun _=>we) (by simp only[ep]) aE.2 cG
 |appm d key sz el x y=>
  simp only[lr]at he;split at he
  ·rename_i ys aM;cases he;exact iz (κ:=iw st key) (n':=mW st key) (o₁:=mX st key) aD hr ak (fun _=>wc aE.1) (fun _=>we) (by simp only[ep,aM]) aE.2 cG
  ·rename_i k xs ys aM;cases he;refine iz (κ:= .loc 0) (n':=0) (o₁:=[]) aD hr ak (fun h=>?_) (fun h=>?_) (by simp only[ep,aM]) aE cG;all_goals
    exfalso
    simp only[dP.makes]at h
    split at h
    ·rename_i af
     unfold l3 at aM
     rw[af]at aM
     split at aM
     ·split at aM<;>cases aM
     ·rename_i I _;cases I
     ·cases aM
    ·cases h
  ·cases he
 |mkmap d key=>simp only[lr]at he;cases he;exact iz (κ:=iw st key) (n':=mW st key) (o₁:=mX st key) aD hr ak (fun _=>wc aE) (fun _=>we) (by simp only[ep]) trivial cG (hB:=fun e=>Ln ak (EK e))
 |mput bT x k v=>exact iz (κ:= .loc 0) (n':=0) (o₁:=[]) aD hr ak (fun h=>by simp[dP.makes]at h) (fun h=>by simp[dP.makes]at h) (by simpa only[lr,ep]using he) aE cG
 |range d key x=>
  simp only[lr]at he;split at he
  ·rename_i m af;split at he
   ·rename_i cs cO;split at he
    ·rename_i cs' hm;cases he;exact iz (κ:=iw st key) (n':=mW st key) (o₁:=mX st key) aD hr ak (fun _=>wc aE) (fun _=>we) (by simp only[ep,af,cO,hm]) trivial cG (hB:=TN ak)
    ·cases he
   ·cases he
  ·cases he
 |app d sz el x y=>
  simp only[lr]at he;split at he
  ·rename_i dn tag xs hO gN ys af bA;split at he
   ·rename_i e0;split at he
    ·rename_i k;split at he
     ·rename_i ow aa;cases he;refine iz (κ:= .loc 0) (n':=0) (o₁:=[]) aD hr ak (fun h=>by simp[dP.makes,af]at h) (fun h=>by simp[dP.makes,af]at h) ?_ aE cG;simp only[ep,af,bA,e0,and_self,if_true,aa]
     ·cases he
    ·cases he;refine iz (κ:= .loc st.n) (n':=st.n+1) (o₁:=st.o) aD hr ak (fun _=>jh aE.1) (fun _=>Br) ?_ aE.2 cG;simp only[ep,af,bA,e0,and_self,if_true]
    ·cases he
   ·cases he
  ·cases he
structure dD where
 b:List (aC×List ae)
 e:List (aC×cV)
def fv(ν:aP)(s:dD)(bl:Nat):Prop:=(∃k,(look k s.b).isSome/\ν.bx k=some bl)\/(∃g n v,(look g s.e).isSome/\ν.ow g=some (n,v)/\v.ownBlock=some bl)
def pD(ν:aP)(s:dD):Prop:= ∀k,(look k s.b=none->ν.bx k=none)/\(look k s.e=none->ν.ow k=none)/\∀j b,¬ν.tr k j b
def ec(s:dD):List aC:=s.b.map (·.1)++s.e.map (·.1)
def hd(s:dD):Prop:=(∀m,look (.loc m) s.b=none)/\(∀m,look (.loc m) s.e=none)
def va(P:bK)(f:FuncId)(vs:Array Value)(w:World)(R:Ending->World->Prop):Prop:=((∃fn,P.funcs[f]? =some fn/\fn.body.isSome=true/\(fn.name== "runtime.NumGoroutine")=false)/\Calls P f vs w R)\/ ∃v w',(callFunc f vs).run P w= .ok (.value v) w'/\R (.returned v) w'
def b7(P:bK)(f:FuncId)(args:List ae)(s:dD)(Q:ae->dD->Prop):Prop:=
 ∀(w:World) (ν:aP) (vs:Array Value) (gl:nO w ν),Good (fv ν s) w ν s.b s.e->pD ν s->cc w ν args vs.toList->
  va P f vs w fun e w'=> ∃v r ai ν',e= .returned v/\Q r ai/\aH w' ν' r v/\Good (fun bl=>fv ν s bl\/w.heap.size<=bl) w' ν' ai.b ai.e/\pD ν' ai/\hd ai/\ni ⟨w,ν,fv ν s,0,ec s,gl,[]⟩ w' ν'
def yM(κ:aT Nat)(ν:aP)(s:dD):Prop:= ∀k,(look k s.b=none->ν.bx k=none)/\(look k s.e=none->ν.ow k=none)/\∀j b,ν.tr k j b->∃m,κ=some m/\k= .loc m
theorem pD.k{ν:aP}{s:dD}(h:pD ν s):yM none ν s:=fun k=>⟨(h k).1,(h k).2.1,fun j b ah=>absurd ah ((h k).2.2 j b)⟩
def FnK(P:bK)(f:FuncId)(κ:Nat)(args:List ae)(s:dD)(Q:ae->dD->Prop):Prop:=
 ∀(w:World) (ν:aP) (vs:Array Value) (gl:nO w ν),Good (fv ν s) w ν s.b s.e->pD ν s->cc w ν args vs.toList->
  va P f vs w fun e w'=> ∃v r ai ν',e= .returned v/\Q r ai/\aH w' ν' r v/\Good (fun bl=>fv ν s bl\/w.heap.size<=bl) w' ν' ai.b ai.e/\yM (some κ) ν' ai/\hd ai/\ni ⟨w,ν,fv ν s,0,ec s,gl,[]⟩ w' ν'
def b6(P:bK)(f:FuncId)(args:List ae)(r:ae):Prop:=b7 P f args ⟨[],[]⟩ fun cE ai=>cE=r/\ai=⟨[],[]⟩
theorem v8{α:Type}{k:aC}{x:α}:∀{l:List (aC×α)},look k l=some x->(k,x)∈l
 |[],h=>by simp[look]at h
 |(i,y)::r,h=>by
  simp only[look]at h;split at h
  ·rename_i e;subst e;cases h;simp
  ·exact List.mem_cons_of_mem _ (v8 h)
theorem uM{s:dD}{k:aC}(h:(look k s.b).isSome\/(look k s.e).isSome):k∈ec s:=by
 unfold ec;rcases h with h|h<;>obtain⟨x,af⟩:=e5.1 h<;>have:=v8 af
 ·exact lY _ (lZ.2 ⟨_,this,rfl⟩)
 ·exact j3 _ (lZ.2 ⟨_,this,rfl⟩)
section
open Classical
noncomputable def aP.cut(ν:aP)(S:aC->Prop):aP:={A:=ν.A,bx:=fun k=>if S k then ν.bx k else none,ow:=fun k=>if S k then ν.ow k else none,tr:=fun k j b=>S k/\ν.tr k j b}
theorem aP.cut_bx{ν:aP}{S:aC->Prop}{k:aC}(h:S k):(ν.cut S).bx k=ν.bx k:=by simp[aP.cut,h]
theorem aP.cut_ow{ν:aP}{S:aC->Prop}{k:aC}(h:S k):(ν.cut S).ow k=ν.ow k:=by simp[aP.cut,h]
theorem aP.cut_no{ν:aP}{S:aC->Prop}{k:aC}(h:¬S k):(ν.cut S).bx k=none/\(ν.cut S).ow k=none/\∀j b,¬(ν.cut S).tr k j b:=by simp[aP.cut,h]
theorem aP.cut_some{ν:aP}{S:aC->Prop}{k:aC}{b:Nat}(h:(ν.cut S).bx k=some b):S k/\ν.bx k=some b:=by
 by_cases aq:S k
 ·exact⟨aq,by rw[aP.cut_bx aq]at h;exact h⟩
 ·rw[(aP.cut_no aq).1]at h;cases h
theorem aP.cut_someO{ν:aP}{S:aC->Prop}{k:aC}{b:Nat×Value}(h:(ν.cut S).ow k=some b):S k/\ν.ow k=some b:=by
 by_cases aq:S k
 ·exact⟨aq,by rw[aP.cut_ow aq]at h;exact h⟩
 ·rw[(aP.cut_no aq).2.1]at h;cases h
theorem nO.cut{w:World}{ν:aP}(h:nO w ν)(S:aC->Prop):nO w (ν.cut S):=h
theorem mB.cut(S:aC->Prop)(w:World)(ν:aP):mB S w ν w (ν.cut S):=⟨fun _ _ h=>⟨h,rfl⟩,fun k b aa h=>by rw[aP.cut_bx aa];exact h,fun g n u aR h=>⟨n,u,by rw[aP.cut_ow aR];exact h,.inl ⟨rfl,rfl⟩⟩,fun _ _ _=>rfl,fun _ _ _ aa h=>⟨aa,h⟩⟩
end
def o9(S:aC->Prop)(fY b:List (aC×List ae)):Prop:= ∀k cs,look k fY=some cs->look k b=some cs/\S k/\kinL S cs
def p3(S:aC->Prop)(gr e:List (aC×cV)):Prop:= ∀k o,look k gr=some o->look k e=some o/\S k/\cB S o
theorem Good.cut{pr QX:Nat->Prop}{w:World}{ν:aP}{b fY:List (aC×List ae)}{e gr:List (aC×cV)}(h:Good pr w ν b e){S:aC->Prop}(ah:o9 S fY b)(he:p3 S gr e)
  (nx:∀bl,pr bl->(∃k,(look k fY).isSome/\(ν.cut S).bx k=some bl)\/(∃g n v,(look g gr).isSome/\(ν.cut S).ow g=some (n,v)/\v.ownBlock=some bl)->QX bl):Good QX w (ν.cut S) fY gr:=by
 have ud:∀k,(look k fY).isSome->(look k b).isSome/\S k:=fun k aa=>by obtain⟨cs,cO⟩:=e5.1 aa;have:=ah k cs cO;exact⟨by simp[this.1],this.2.1⟩
 have DS:∀k,(look k gr).isSome->(look k e).isSome/\S k:=fun k aa=>by obtain⟨cs,cO⟩:=e5.1 aa;have:=he k cs cO;exact⟨by simp[this.1],this.2.1⟩
 refine⟨h.alt,fun k cs aa=>?_,fun k bb bl I J ao aO=>?_,fun g o aR=>?_,fun g eM n n' v v' bl I J ao aO bp cj=>?_,fun g k n v bl I J ao aO bp=>?_,fun k=>?_,fun bl aD k j aw=>?_⟩
 ·obtain⟨g1,g2,g3⟩:=ah k cs aa;obtain⟨bl,us,el,f1,f2,f3,f4,f5⟩:=h.box k cs g1;have iI:(ν.cut S).bx k=some bl:=by rw[aP.cut_bx g2];exact f1
  exact⟨bl,us,el,iI,nx bl f2 (.inl ⟨k,by simp[aa],iI⟩),f3,f4,JK (mB.cut S w ν) g3 f5⟩
 ·obtain⟨bB,a2⟩:=ud k I;obtain⟨cb,cn⟩:=ud bb J;exact h.inj k bb bl bB cb (aP.cut_some ao).2 (aP.cut_some aO).2
 ·obtain⟨g1,g2,g3⟩:=he g o aR;obtain⟨v,us,f1,f2,f3,f4⟩:=h.own g o g1;have nv:(ν.cut S).ow g=some (o.n,v):=by rw[aP.cut_ow g2];exact f1
  exact⟨v,us,nv,f2,fun bl fl=>⟨nx bl (f3 bl fl).1 (.inr ⟨g,o.n,v,by simp[aR],nv,fl⟩),(f3 bl fl).2⟩,
   fun xs af=>⟨(f4 xs af).1,Fh (mB.cut S w ν) _ _ _ (g3 xs af) (f4 xs af).2.1,(f4 xs af).2.2⟩⟩
 ·obtain⟨bB,a2⟩:=DS g I;obtain⟨cb,cn⟩:=DS eM J;exact h.oinj g eM n n' v v' bl bB cb (aP.cut_someO ao).2 (aP.cut_someO aO).2 bp cj
 ·obtain⟨bB,a2⟩:=DS g I;obtain⟨cb,cn⟩:=ud k J;exact h.obx g k n v bl bB cb (aP.cut_someO ao).2 aO (aP.cut_some bp).2
 ·by_cases aq:S k
  ·rw[aP.cut_bx aq,aP.cut_ow aq];exact h.one k
  ·exact .inl (aP.cut_no aq).1
 ·refine h.otr bl ?_ k j aw.2;rcases aD with⟨bb,bB,a2⟩|⟨g,n,v,bB,a2,a3⟩
  ·exact .inl ⟨bb,(ud bb bB).1,(aP.cut_some a2).2⟩
  ·exact .inr ⟨g,n,v,(DS g bB).1,(aP.cut_someO a2).2,a3⟩
structure hH (ob:List aC) (st st':aS):Prop where
 t:∀x∈st'.t,get x.1 st.t=x.2/\kin (fun k=> ¬fresh st'.n st'.o k) x.2
 b:o9 (fun k=> ¬fresh st'.n st'.o k) st'.b st.b
 e:p3 (fun k=> ¬fresh st'.n st'.o k) st'.e st.e
 o:∀m∈ob,m∈st'.o
theorem Ha:∀(i:Nat) (l:List (Nat×ae)),get i l= .junk\/(i,get i l)∈l
 |_,[]=>.inl rfl
 |i,(j,p)::r=>by
  by_cases h:j=i
  ·subst h;right;simp[get]
  ·rcases Ha i r with I|I
   ·left;simp[get,h,I]
   ·right;simp[get,h];right;exact I
theorem bX.weaker{C:ek}{st st':aS}{a:Act}{w:World}{ν:aP}(h:bX C st a w ν)(hw:hH C.ob st st'):bX C st' a w (ν.cut fun k=> ¬fresh st'.n st'.o k):=by
 refine⟨h.good.cut hw.b hw.e (fun bl aU _=>aU),⟨h.fr.os,h.fr.tape,h.fr.output,h.fr.size,h.fr.block,h.fr.keep,h.fr.fresh,fun n b ah=>?_,h.fr.obn,fun m n u hm=>?_,h.fr.obr,fun k j bb eo b I J=>h.fr.trd k j bb eo b I.2 J.2,fun k j b ah=>h.fr.trb k j b ah.2,fun k j b ah=>?_,h.fr.sh,fun j n u b aj aJ=>h.fr.nrow j n u b (aP.cut_someO aj).2 aJ⟩,h.defers,h.size,fun i=>?_,fun k aa=>aP.cut_no (fun aK=>aK aa),fun x af=>⟨qM (mB.cut _ w ν) _ _ (nB (fun k aa aL=>aL.2 (hw.o k aa)) _ (h.ext x af).2) (h.ext x af).1,(h.ext x af).2⟩,fun m hm aL=>aL.2 (hw.o m hm)⟩
 ·rw[aP.cut_bx (fun bI=>bI.2 (hw.o _ (h.fr.obn n b ah)))];exact h.fr.obj n b ah
 ·rw[aP.cut_ow (fun bI=>bI.2 (hw.o _ (h.fr.obr m n u hm)))];exact h.fr.row m n u hm
 ·rw[aP.cut_bx ah.1,aP.cut_ow ah.1];exact h.fr.trn k j b ah.2
 ·rcases Ha i st'.t with aw|hm
  ·rw[aw];simp[aH]
  ·obtain⟨I,J⟩:=hw.t _ hm;simp only at I;have:=h.slot i;rw[I]at this;exact qM (mB.cut _ w ν) _ _ J this
mutual
def bC:ae->ae
 | .slice sz _ xs=>.slice sz .no (bz xs)
 | .agg cs=>.agg (bz cs)
 | .tuple vs=>.tuple (bz vs)
 | .eptr x=>.eptr (bC x)
 | .iface t x=>.iface t (bC x)
 | .func f ds=>.func f (bz ds)
 |p=>p
def bz:List ae->List ae
 |[]=>[]
 |x::xs=>bC x::bz xs
end
theorem lT:∀xs,(bz xs).length=xs.length
 |[]=>rfl
 |x::xs=>by simp[bz,lT xs]
mutual
theorem DF{t:Bool}{w:World}{A:Nat->Nat->Prop}:∀(p:ae) (F:Nat->Prop) (v:Value),ca t w A F p v->ca t w A F (bC p) v
 | .int _ _,_,_,h=>by simpa only[bC]using h
 | .bool _,_,_,h=>by simpa only[bC]using h
 | .str _,_,_,h=>by simpa only[bC]using h
 | .slice sz tag xs,F,v,h=>by
  simp only[ca,bC]at h⊢;obtain⟨a,cap,I,J,ao,aO⟩:=h;refine⟨a,cap,by rw[lT];exact I,by rw[lT];exact J,by rw[lT];exact ao,?_⟩;rcases aO with rfl|⟨b,off,us,G,aj,aJ,bs,ch,fa,dd⟩
  ·exact .inl rfl
  ·exact .inr ⟨b,off,us,G,aj,aJ,bs,ch,fa,NA sz xs G us dd⟩
 | .agg cs,F,v,h=>by simp only[ca,bC]at h⊢;obtain⟨us,I,J⟩:=h;exact⟨us,I,NB cs F _ J⟩
 | .junk,_,_,h=>by simp[ca]at h
 | .ptr _ _,_,_,h=>by simp[ca]at h
 | .eptr _,_,_,h=>by simp[ca]at h
 | .iface _ _,_,_,h=>by simp[ca]at h
 | .nilp,_,_,h=>by simp[ca]at h
 | .tuple _,_,_,h=>by simp[ca]at h
 | .func _ _,_,_,h=>by simp[ca]at h
 | .gmap _,_,_,h=>by simp[ca]at h
 | .row _ _ _,_,_,h=>by simp[ca]at h
 | .rptr _ _ _ _ _,_,_,h=>by simp[ca]at h
 | .hdm _ _,_,_,h=>by simp[ca]at h
 | .hdi _ _ _,_,_,h=>by simp[ca]at h
 | .cst _,_,_,h=>by simp[ca]at h
theorem NB{t:Bool}{w:World}{A:Nat->Nat->Prop}:∀(cs:List ae) (F:Nat->Prop) (us:List Value),jA t w A F cs us->jA t w A F (bz cs) us
 |[],_,_,h=>by simpa only[bz]using h
 |c::cs,F,us,h=>by simp only[jA,bz]at h⊢;obtain⟨u,br,fR,fS,I,J,⟨bp,cj⟩,eu⟩:=h;exact⟨u,br,fR,fS,I,J,⟨DF c fR u bp,cj⟩,NB cs fS br eu⟩
theorem NA{t:Bool}{w:World}{A:Nat->Nat->Prop}(sz:Nat):∀(cs:List ae) (F:Nat->Prop) (us:List Value),iG t w A F sz cs us->iG t w A F sz (bz cs) us
 |[],_,_,h=>by simpa only[bz]using h
 |c::cs,F,us,h=>by simp only[iG,bz]at h⊢;obtain⟨u,br,fR,fS,I,J,⟨bp,cj⟩,eu⟩:=h;exact⟨u,br,fR,fS,I,J,⟨DF c fR u bp,cj⟩,NA sz cs fS br eu⟩
end
theorem AY{t:Bool}{w:World}{A:Nat->Nat->Prop}{F:Nat->Prop}{sz:Nat}{tag:h9}(gN:h9){xs:List ae}(v:Value)(h:ca t w A F (.slice sz tag xs) v):ca t w A F (.slice sz gN (bz xs)) v:=by have:=DF _ F v h;simp only[bC,ca]at this⊢;exact this
mutual
theorem wx{w:World}{ν:aP}:∀(p:ae) (v:Value),aH w ν p v->aH w ν (bC p) v
 | .junk,_,h=>by simpa only[bC]using h
 | .int k n,_,h=>by simpa only[bC]using h
 | .bool b,_,h=>by simpa only[bC]using h
 | .str s,_,h=>by simpa only[bC]using h
 | .slice sz tag xs,v,h=>by
  simp only[aH,bC]at h⊢;obtain⟨⟨a,cap,I,J,ao,aO⟩,bp,cj⟩:=h;refine⟨⟨a,cap,by rw[lT];exact I,by rw[lT];exact J,by rw[lT];exact ao,?_⟩,fun e=>(by cases e),fun g e=>(by cases e),fun _ _ e=>(by cases e),fun _ e=>(by cases e)⟩;rcases aO with rfl|⟨b,off,us,aO,cj,eu⟩
  ·exact .inl rfl
  ·exact .inr ⟨b,off,us,aO,cj,RD sz xs us eu⟩
 | .agg cs,v,h=>by simp only[aH,bC]at h⊢;obtain⟨us,I,J⟩:=h;exact⟨us,I,RH cs _ J⟩
 | .ptr key off,v,h=>by simpa only[bC]using h
 | .iface t x,v,h=>by simp only[aH,bC]at h⊢;obtain⟨u,I,J⟩:=h;exact⟨u,I,wx x u J⟩
 | .eptr x,v,h=>by simp only[aH,bC]at h⊢;obtain⟨b,off,u,I,J,ao⟩:=h;exact⟨b,off,u,I,wx x u J,ao⟩
 | .nilp,_,h=>by simpa only[bC]using h
 | .tuple vs,v,h=>by simp only[aH,bC]at h⊢;obtain⟨us,I,J⟩:=h;exact⟨us,I,Fl vs _ J⟩
 | .func f ds,v,h=>by simp only[aH,bC]at h⊢;obtain⟨us,I,J⟩:=h;exact⟨us,I,Fl ds _ J⟩
 | .gmap key,v,h=>by simpa only[bC]using h
 | .row _ _ _,v,h=>by simpa only[bC]using h
 | .rptr _ _ _ _ _,v,h=>by simpa only[bC]using h
 | .cst _,v,h=>by simpa only[bC]using h
theorem RH{w:World}{ν:aP}:∀(cs:List ae) (us:List Value),cl w ν cs us->cl w ν (bz cs) us
 |[],_,h=>by simpa only[bz]using h
 |c::cs,us,h=>by simp only[cl,bz]at h⊢;obtain⟨u,br,I,J,ao⟩:=h;exact⟨u,br,I,⟨wx c u J.1,J.2⟩,RH cs br ao⟩
theorem Fl{w:World}{ν:aP}:∀(cs:List ae) (us:List Value),cc w ν cs us->cc w ν (bz cs) us
 |[],_,h=>by simpa only[bz]using h
 |c::cs,us,h=>by simp only[cc,bz]at h⊢;obtain⟨u,br,I,J,ao⟩:=h;exact⟨u,br,I,wx c u J,Fl cs br ao⟩
theorem RD{w:World}{ν:aP}(sz:Nat):∀(xs:List ae) (us:List Value),cC w ν sz xs us->cC w ν sz (bz xs) us
 |[],_,h=>by simpa only[bz]using h
 |x::xs,us,h=>by simp only[cC,bz]at h⊢;obtain⟨u,br,I,⟨J,ao,aO⟩,bp⟩:=h;exact⟨u,br,I,⟨wx x u J,ao,aO⟩,RD sz xs br bp⟩
end
def au(s:dD)(k:aC):Prop:=(look k s.b).isSome=true\/(look k s.e).isSome=true
def bg{α β:Type}(s:List (aC×β)):List (aC×α)->List (aC×α)
 |[]=>[]
 |(k,x)::r=>match look k s with
  |some _=>bg s r
  |none=>(k,x)::bg s r
theorem r0{α β:Type}(s:List (aC×β))(k:aC):∀l:List (aC×α),look k (bg s l)=if(look k s).isSome then none else look k l
 |[]=>by simp[bg,look]
 |(i,x)::r=>by
  simp only[bg];by_cases e:i=k
  ·subst e;cases h:look i s with
   |some y=>simp[r0 s i r,h]
   |none=>simp[look]
  ·cases h:look i s with
   |some y=>simp[r0 s k r,look,e]
   |none=>simp[look,e,r0 s k r]
theorem mo{α:Type}(k:aC):∀l c6:List (aC×α),look k (l++c6)=match look k l with|some x=>some x|none=>look k c6
 |[],c6=>by simp[look]
 |(i,x)::r,c6=>by
  by_cases e:i=k
  ·simp[look,e]
  ·simp[look,e,mo k r c6]
def after(st:aS)(s ai:dD)(d:aT Nat)(r:ae):aS:={t:=fk d r st.t,b:=bg s.b st.b++ai.b,e:=bg s.e st.e++ai.e,n:=st.n,o:=st.o++ec ai}
section
open Classical
noncomputable def aP.join(ν ν':aP)(s ai:dD):aP:={A:=ν'.A,bx:=fun k=>if(look k s.b).isSome\/(look k ai.b).isSome then ν'.bx k else ν.bx k,ow:=fun k=>if(look k s.e).isSome\/(look k ai.e).isSome then ν'.ow k else ν.ow k,tr:=fun k j b=>ν.tr k j b\/ν'.tr k j b}
end
theorem bX.callK{C:ek}{st:aS}{a:Act}{w w':World}{ν ν':aP}(h:bX C st a w ν){s ai:dD}(ah:o9 (au s) s.b st.b)(he:p3 (au s) s.e st.e)(j9:hd s)
  (aR:Good (fun bl=>fv (ν.cut (au s)) s bl\/w.heap.size<=bl) w' ν' ai.b ai.e) {κ:aT Nat} (af:yM κ ν' ai) (Eg:∀m,κ=some m->ν.bx (.loc m)=none/\ν.ow (.loc m)=none/\∀j b,¬ν.tr (.loc m) j b) {n':Nat} {o':List aC} (gQ:∀k,fresh n' o' k->fresh st.n (st.o++ec ai) k/\∀m,κ=some m->k≠ .loc m) (rM:hd ai) (aL:ni ⟨w,ν.cut (au s),fv (ν.cut (au s)) s,0,ec s,h.fr.gl.cut _,[]⟩ w' ν')
  (HI:∀m,(look (.obj m) ai.b).isSome->(look (.obj m) s.b).isSome\/ .obj m∉st.o) (b4:∀m,(look (.obj m) ai.e).isSome->(look (.obj m) s.e).isSome\/ .obj m∉st.o) (d:aT Nat) (aF:hi C.N d=true) {r:ae} {v:Value} (hr:aH w' ν' r v):
  bX C {after st s ai d r with n:=n',o:=o'} (a.put d v) w' (ν.join ν' s ai):=by
 have vT:∀k,(look k s.b).isSome->(look k st.b).isSome:=fun k aa=>by obtain⟨cs,cO⟩:=e5.1 aa;simp[(ah k cs cO).1]
 have gE:∀k,(look k s.e).isSome->(look k st.e).isSome:=fun k aa=>by obtain⟨cs,cO⟩:=e5.1 aa;simp[(he k cs cO).1]
 have Y6:∀k,(look k ai.b).isSome->¬(look k s.b).isSome->ν.bx k=none:=fun k aa aK=>by
  cases k with
  |loc m=>rw[rM.1 m]at aa;cases aa
  |obj m=>exact(h.new (.obj m) ⟨trivial,(HI m aa).resolve_left aK⟩).1
 have Y7:∀k,(look k ai.e).isSome->¬(look k s.e).isSome->ν.ow k=none:=fun k aa aK=>by
  cases k with
  |loc m=>rw[rM.2 m]at aa;cases aa
  |obj m=>exact(h.new (.obj m) ⟨trivial,(b4 m aa).resolve_left aK⟩).2.1
 have Z0:∀k,(look k s.b).isSome->(ν.join ν' s ai).bx k=ν'.bx k:=fun k aa=>by simp[aP.join,aa]
 have Px:∀k,(look k ai.b).isSome->(ν.join ν' s ai).bx k=ν'.bx k:=fun k aa=>by simp[aP.join,aa]
 have Py:∀k,ν.bx k≠none->¬(look k s.b).isSome->(ν.join ν' s ai).bx k=ν.bx k:=fun k I J=>by have ao:¬(look k ai.b).isSome:=fun ao=>I (Y6 k ao J);simp[aP.join,J,ao]
 have Z1:∀k,(look k s.e).isSome->(ν.join ν' s ai).ow k=ν'.ow k:=fun k aa=>by simp[aP.join,aa]
 have Ir:∀k,(look k ai.e).isSome->(ν.join ν' s ai).ow k=ν'.ow k:=fun k aa=>by simp[aP.join,aa]
 have Is:∀k,ν.ow k≠none->¬(look k s.e).isSome->(ν.join ν' s ai).ow k=ν.ow k:=fun k I J=>by have ao:¬(look k ai.e).isSome:=fun ao=>I (Y7 k ao J);simp[aP.join,J,ao]
 have S7:∀k b,ν'.bx k=some b->(look k ai.b).isSome:=fun k b aa=>by
  cases aG:look k ai.b with
  |some _=>rfl
  |none=>rw[(af k).1 aG]at aa;cases aa
 have S8:∀k b,ν'.ow k=some b->(look k ai.e).isSome:=fun k b aa=>by
  cases aG:look k ai.e with
  |some _=>rfl
  |none=>rw[(af k).2.1 aG]at aa;cases aa
 have ak:l1 w ν w' (ν.join ν' s ai):=by
  refine⟨fun b o aW=>aL.keep b o aW,fun k b _ aa=>?_,fun g n u _ aR=>?_,fun b o aW=>aL.sh b o aW,fun _ _ _ _ h=>.inl h⟩
  ·by_cases aq:(look k s.b).isSome
   ·rw[Z0 k aq];cases k with
    |loc m=>rw[j9.1 m]at aq;cases aq
    |obj m=>exact aL.obj m b (by rw[aP.cut_bx (.inl aq)];exact aa)
   ·rw[Py k (by rw[aa];simp) aq];exact aa
  ·by_cases aq:(look g s.e).isSome
   ·rw[Z1 g aq];cases g with
    |loc m=>rw[j9.2 m]at aq;cases aq
    |obj m=>exact aL.row m n u (by rw[aP.cut_ow (.inr aq)];exact aR)
   ·rw[Is g (by rw[aR];simp) aq];exact⟨n,u,aR,.inl ⟨rfl,rfl⟩⟩
 have gR:l1 w' ν' w' (ν.join ν' s ai):=⟨fun b o aW=>⟨aW,rfl⟩,fun k b _ aa=>by rw[Px k (S7 k b aa)];exact aa,fun g n u _ aa=>⟨n,u,by rw[Ir g (S8 g _ aa)];exact aa,.inl ⟨rfl,rfl⟩⟩,fun _ _ _=>rfl,fun _ _ _ _ h=>.inr h⟩
 have np:∀bl,fv (ν.cut (au s)) s bl->C.pr bl/\bl<w.heap.size:=by
  intro bl fl;rcases fl with⟨k,I,J⟩|⟨g,n,u,I,J,ao⟩
  ·have aO:=(aP.cut_some J).2;obtain⟨cs,cO⟩:=e5.1 (vT k I);obtain⟨gH,us,el,g1,g2,_⟩:=h.good.box k cs cO;rw[aO]at g1;cases g1;exact⟨g2,h.good.boxLt cO aO⟩
  ·have aO:=(aP.cut_someO J).2;obtain⟨o,D7⟩:=e5.1 (gE g I);obtain⟨v',us,g1,g2,g3,_⟩:=h.good.own g o D7;rw[aO]at g1;cases g1;exact⟨(g3 bl ao).1,h.good.ownLt D7 aO ao⟩
 have OR:∀bl,fv (ν.cut (au s)) s bl\/w.heap.size<=bl->C.pr bl:=fun bl fl=>by
  rcases fl with fl|fl
  ·exact(np bl fl).1
  ·exact .inr (Nat.le_trans h.fr.size fl)
 have Zk:∀k cs bl,look k st.b=some cs->¬(look k s.b).isSome->ν.bx k=some bl->¬fv (ν.cut (au s)) s bl:=by
  intro k cs bl I J ao aO;rcases aO with⟨bb,bB,a2⟩|⟨g,n,u,bB,a2,a3⟩
  ·have:=h.good.inj k bb bl (by simp[I]) (vT bb bB) ao (aP.cut_some a2).2;subst this;exact J bB
  ·exact h.good.obx g k n u bl (gE g bB) (by simp[I]) (aP.cut_someO a2).2 a3 ao
 have Zl:∀g o n u bl,look g st.e=some o->¬(look g s.e).isSome->ν.ow g=some (n,u)->u.ownBlock=some bl->¬fv (ν.cut (au s)) s bl:=by
  intro g o n u bl I J ao aO bp;rcases bp with⟨bb,bB,a2⟩|⟨eM,n',eA,bB,a2,a3⟩
  ·exact h.good.obx g bb n u bl (by simp[I]) (vT bb bB) ao aO (aP.cut_some a2).2
  ·have:=h.good.oinj g eM n n' u eA bl (by simp[I]) (gE eM bB) ao (aP.cut_someO a2).2 aO a3;subst this;exact J bB
 have Mj:∀k cs,look k (bg s.b st.b++ai.b)=some cs->(¬(look k s.b).isSome/\look k st.b=some cs)\/look k ai.b=some cs:=by
  intro k cs aa;rw[mo,r0]at aa;by_cases aq:(look k s.b).isSome
  ·simp only[aq,if_true]at aa;exact .inr aa
  ·simp only[aq]at aa;cases aG:look k st.b with
   |some x=>simp[aG]at aa;subst aa;exact .inl ⟨aq,rfl⟩
   |none=>simp[aG]at aa;exact .inr aa
 have Mk:∀k cs,look k (bg s.e st.e++ai.e)=some cs->(¬(look k s.e).isSome/\look k st.e=some cs)\/look k ai.e=some cs:=by
  intro k cs aa;rw[mo,r0]at aa;by_cases aq:(look k s.e).isSome
  ·simp only[aq,if_true]at aa;exact .inr aa
  ·simp only[aq]at aa;cases aG:look k st.e with
   |some x=>simp[aG]at aa;subst aa;exact .inl ⟨aq,rfl⟩
   |none=>simp[aG]at aa;exact .inr aa
 have x7:∀bl,fv (ν.cut (au s)) s bl\/w.heap.size<=bl->∀gH,gH<w.heap.size->¬fv (ν.cut (au s)) s gH->bl≠gH:=by
  intro bl I gH J ao e;subst e;rcases I with I|I
  ·exact ao I
  ·omega
 have Iv:∀bl,bl<w.heap.size->¬fv (ν.cut (au s)) s bl->w'.heap[bl]? =w.heap[bl]?:=fun bl I J=>aL.block bl I J;have isB:∀k bl,(look k (bg s.b st.b++ai.b)).isSome->(ν.join ν' s ai).bx k=some bl->(¬(look k s.b).isSome/\(look k st.b).isSome/\ν.bx k=some bl)\/((look k ai.b).isSome/\ν'.bx k=some bl):=by
  intro k bl aa iI;obtain⟨cs,cO⟩:=e5.1 aa;rcases Mj k cs cO with⟨I,J⟩|I
  ·obtain⟨gH,us,el,g1,_⟩:=h.good.box k cs J;rw[Py k (by rw[g1];simp) I]at iI;exact .inl ⟨I,by simp[J],iI⟩
  ·rw[Px k (by simp[I])]at iI;exact .inr ⟨by simp[I],iI⟩
 have Ej:∀k x,(look k (bg s.e st.e++ai.e)).isSome->(ν.join ν' s ai).ow k=some x->(¬(look k s.e).isSome/\(look k st.e).isSome/\ν.ow k=some x)\/((look k ai.e).isSome/\ν'.ow k=some x):=by
  intro k x aa iI;obtain⟨cs,cO⟩:=e5.1 aa;rcases Mk k cs cO with⟨I,J⟩|I
  ·obtain⟨v',us,g1,_⟩:=h.good.own k cs J;rw[Is k (by rw[g1];simp) I]at iI;exact .inl ⟨I,by simp[J],iI⟩
  ·rw[Ir k (by simp[I])]at iI;exact .inr ⟨by simp[I],iI⟩
 have AB:∀k bl,¬(look k s.b).isSome->(look k st.b).isSome->ν.bx k=some bl->bl<w.heap.size/\¬fv (ν.cut (au s)) s bl:=by intro k bl I J ao;obtain⟨cs,cO⟩:=e5.1 J;exact⟨h.good.boxLt cO ao,Zk k cs bl cO I ao⟩
 have x1:∀k n u bl,¬(look k s.e).isSome->(look k st.e).isSome->ν.ow k=some (n,u)->u.ownBlock=some bl->bl<w.heap.size/\¬fv (ν.cut (au s)) s bl:=by intro k n u bl I J ao aO;obtain⟨cs,cO⟩:=e5.1 J;exact⟨h.good.ownLt cO ao aO,Zl k cs n u bl cO I ao aO⟩
 have CY:∀k bl,(look k ai.b).isSome->ν'.bx k=some bl->fv (ν.cut (au s)) s bl\/w.heap.size<=bl:=by intro k bl I J;obtain⟨cs,cO⟩:=e5.1 I;obtain⟨gH,us,el,g1,g2,_⟩:=aR.box k cs cO;rw[J]at g1;cases g1;exact g2
 have Fo:∀k n u bl,(look k ai.e).isSome->ν'.ow k=some (n,u)->u.ownBlock=some bl->fv (ν.cut (au s)) s bl\/w.heap.size<=bl:=by intro k n u bl I J ao;obtain⟨cs,cO⟩:=e5.1 I;obtain⟨v',us,g1,g2,g3,_⟩:=aR.own k cs cO;rw[J]at g1;cases g1;exact(g3 bl ao).1
 have aW:∀bl o,ν'.A bl o->bl<w.heap.size->¬fv (ν.cut (au s)) s bl->ν.A bl o:=by
  intro bl o I J ao;rcases aL.fresh bl o I with aO|aO|aO
  ·exact aO
  ·exact absurd aO ao
  ·simp only at aO;omega
 have mR:bX C {t:=st.t,b:=bg s.b st.b++ai.b,e:=bg s.e st.e++ai.e,n:=n',o:=o'} a w' (ν.join ν' s ai):=by
  refine h.over ak rfl ⟨aR.alt,fun k cs aa=>?_,fun k bb bl I J ao aO=>?_,fun g o eO=>?_,fun g eM n n' u eA bl I J ao aO bp cj=>?_,fun g k n u bl I J ao aO bp=>?_,fun k=>?_,fun bl aD k j fo=>?_⟩
   ⟨aL.os.trans h.fr.os,aL.tape.trans h.fr.tape,aL.output.trans h.fr.output,Nat.le_trans h.fr.size aL.size,fun k aa hm=>?_,fun b o rB=>?_,fun b o rB=>?_,fun n b aK=>ak.bx _ _ trivial (h.fr.obj n b aK),h.fr.obn,
    fun m n u hm=>Cq (h.fr.row m n u hm) (fun n u=>ak.ow _ n u trivial),h.fr.obr,fun k j bb eo b I J=>?_,fun k j b ah=>?_,fun k j b ah=>?_,fun b o aW=>(ak.sh b o (h.fr.keep b o aW).1).trans (h.fr.sh b o aW),fun j n u b aj aJ=>h.fr.nrow j n u b (by simpa[aP.join,j9.2 j,rM.2 j]using aj) aJ⟩ (fun k aa=>?_) (fun m hm=>qu (cq _) (fun _ h=>lY _ h) (gQ m hm).1)
  ·rcases Mj k cs aa with⟨I,J⟩|I
   ·obtain⟨bl,us,el,g1,g2,g3,g4,g5⟩:=h.good.box k cs J;obtain⟨cb,cn⟩:=AB k bl I (by simp[J]) g1;exact⟨bl,us,el,ak.bx _ _ trivial g1,g2,fun o rB=>g3 o (aW bl o rB cb cn),by rw[Iv bl cb cn];exact g4,pZ ak g5⟩
   ·obtain⟨bl,us,el,g1,g2,g3,g4,g5⟩:=aR.box k cs I;exact⟨bl,us,el,gR.bx _ _ trivial g1,OR bl g2,g3,g4,pZ gR g5⟩
  ·rcases isB k bl I ao with⟨bB,a2,a3⟩|⟨bB,a2⟩<;>rcases isB bb bl J aO with⟨cb,cn,gd⟩|⟨cb,cn⟩
   ·exact h.good.inj k bb bl a2 cn a3 gd
   ·obtain⟨cN,c2⟩:=AB k bl bB a2 a3;exact absurd rfl (x7 bl (CY bb bl cb cn) bl cN c2)
   ·obtain⟨cN,c2⟩:=AB bb bl cb cn gd;exact absurd rfl (x7 bl (CY k bl bB a2) bl cN c2)
   ·exact aR.inj k bb bl bB cb a2 cn
  ·rcases Mk g o eO with⟨I,J⟩|I
   ·obtain⟨u,us,g1,g2,g3,g4⟩:=h.good.own g o J;refine⟨u,us,by rw[Is g (by rw[g1];simp) I];exact g1,⟨g2.1,?_⟩,fun bl fl=>?_,se ak (fun bl fl j rB=>?_) g4⟩
    ·rcases g2.2 with aJ|⟨ia,cap,cur,f1,f2,f3,f4⟩
     ·exact .inl aJ
     ·obtain⟨cb,cn⟩:=x1 g _ u ia I (by simp[J]) g1 (by rw[f1];rfl);exact .inr ⟨ia,cap,cur,f1,f2,by rw[Iv ia cb cn];exact f3,f4⟩
    ·obtain⟨cb,cn⟩:=x1 g _ u bl I (by simp[J]) g1 fl;exact⟨(g3 bl fl).1,fun j rB=>(g3 bl fl).2 j (aW bl j rB cb cn)⟩
    ·obtain⟨cb,cn⟩:=x1 g _ u bl I (by simp[J]) g1 fl;exact aW bl j rB cb cn
   ·obtain⟨u,us,g1,g2,g3,g4⟩:=aR.own g o I;exact⟨u,us,by rw[Ir g (by simp[I])];exact g1,g2,fun bl fl=>⟨OR bl (g3 bl fl).1,(g3 bl fl).2⟩,se gR (fun _ _ _ h=>h) g4⟩
  ·rcases Ej g _ I ao with⟨bB,a2,a3⟩|⟨bB,a2⟩<;>rcases Ej eM _ J aO with⟨cb,cn,gd⟩|⟨cb,cn⟩
   ·exact h.good.oinj g eM n n' u eA bl a2 cn a3 gd bp cj
   ·obtain⟨cN,c2⟩:=x1 g n u bl bB a2 a3 bp;exact absurd rfl (x7 bl (Fo eM n' eA bl cb cn cj) bl cN c2)
   ·obtain⟨cN,c2⟩:=x1 eM n' eA bl cb cn gd cj;exact absurd rfl (x7 bl (Fo g n u bl bB a2 bp) bl cN c2)
   ·exact aR.oinj g eM n n' u eA bl bB cb a2 cn bp cj
  ·rcases Ej g _ I ao with⟨bB,a2,a3⟩|⟨bB,a2⟩<;>rcases isB k bl J bp with⟨cb,cn,gd⟩|⟨cb,cn⟩
   ·exact h.good.obx g k n u bl a2 cn a3 aO gd
   ·obtain⟨cN,c2⟩:=x1 g n u bl bB a2 a3 aO;exact absurd rfl (x7 bl (CY k bl cb cn) bl cN c2)
   ·obtain⟨cN,c2⟩:=AB k bl cb cn gd;exact absurd rfl (x7 bl (Fo g n u bl bB a2 aO) bl cN c2)
   ·exact aR.obx g k n u bl bB cb a2 aO cn
  ·
   cases iI:(ν.join ν' s ai).bx k with
   |none=>exact .inl rfl
   |some bl=>
    right;cases nv:(ν.join ν' s ai).ow k with
    |none=>rfl
    |some x=>
     exfalso;have aj:(ν.bx k=some bl/\¬(look k s.b).isSome/\¬(look k ai.b).isSome)\/ν'.bx k=some bl:=by
      by_cases aq:(look k s.b).isSome\/(look k ai.b).isSome
      ·right;simpa[aP.join,aq]using iI
      ·left;simp only[not_or]at aq;exact⟨by simpa[aP.join,aq.1,aq.2]using iI,aq.1,aq.2⟩
     have aJ:(ν.ow k=some x/\¬(look k s.e).isSome/\¬(look k ai.e).isSome)\/ν'.ow k=some x:=by
      by_cases aq:(look k s.e).isSome\/(look k ai.e).isSome
      ·right;simpa[aP.join,aq]using nv
      ·left;simp only[not_or]at aq;exact⟨by simpa[aP.join,aq.1,aq.2]using nv,aq.1,aq.2⟩
     rcases aj with⟨bB,a2,a3⟩|bB<;>rcases aJ with⟨cb,cn,gd⟩|cb
     ·rcases h.good.one k with bI|bI
      ·rw[bI]at bB;cases bB
      ·rw[bI]at cb;cases cb
     ·have Bk:=S8 k x cb;have e0:(look k s.e).isSome:=by
       cases k with
       |loc m=>rw[rM.2 m]at Bk;cases Bk
       |obj m=>
        rcases b4 m Bk with bI|bI
        ·exact bI
        ·rw[(h.new (.obj m) ⟨trivial,bI⟩).1]at bB;cases bB
      obtain⟨o,D7⟩:=e5.1 (gE k e0);obtain⟨v',us,g1,_⟩:=h.good.own k o D7;rcases h.good.one k with bI|bI
      ·rw[bI]at bB;cases bB
      ·rw[bI]at g1;cases g1
     ·have Hy:=S7 k bl bB;have e0:(look k s.b).isSome:=by
       cases k with
       |loc m=>rw[rM.1 m]at Hy;cases Hy
       |obj m=>
        rcases HI m Hy with bI|bI
        ·exact bI
        ·rw[(h.new (.obj m) ⟨trivial,bI⟩).2.1]at cb;cases cb
      obtain⟨cs,cO⟩:=e5.1 (vT k e0);obtain⟨gH,us,el,g1,_⟩:=h.good.box k cs cO;rcases h.good.one k with bI|bI
      ·rw[bI]at g1;cases g1
      ·rw[bI]at cb;cases cb
     ·rcases aR.one k with bI|bI
      ·rw[bI]at bB;cases bB
      ·rw[bI]at cb;cases cb
  ·have OC:∀k j,ν'.tr k j bl->w.heap.size<=bl:=fun k j bI=>by
    rcases(aL.trb k j bl bI).1 with a2|a2
    ·obtain⟨m,_,hm⟩:=(af k).2.2 j bl bI;rw[hm]at a2;cases a2
    ·exact a2
   have hold:fv (ν.cut (au s)) s bl->¬ν.tr k j bl:=by
    rintro(⟨bb,bB,a2⟩|⟨g,n,u,bB,a2,a3⟩) bI
    ·exact h.good.otr bl (.inl ⟨bb,vT bb bB,(aP.cut_some a2).2⟩) k j bI
    ·exact h.good.otr bl (.inr ⟨g,n,u,gE g bB,(aP.cut_someO a2).2,a3⟩) k j bI
   have j8:fv (ν.cut (au s)) s bl\/w.heap.size<=bl->¬ν.tr k j bl:=by
    rintro(I|I) bI
    ·exact hold I bI
    ·have:=(h.fr.trb k j bl bI).2;omega
   rcases aD with⟨bb,bB,a2⟩|⟨g,n,u,bB,a2,a3⟩
   ·rcases isB bb bl bB a2 with⟨cb,cn,gd⟩|⟨cb,cn⟩
    ·rcases fo with fo|fo
     ·exact h.good.otr bl (.inl ⟨bb,cn,gd⟩) k j fo
     ·have:=(AB bb bl cb cn gd).1;have:=OC k j fo;omega
    ·rcases fo with fo|fo
     ·exact j8 (CY bb bl cb cn) fo
     ·exact aR.otr bl (.inl ⟨bb,cb,cn⟩) k j fo
   ·rcases Ej g _ bB a2 with⟨cb,cn,gd⟩|⟨cb,cn⟩
    ·rcases fo with fo|fo
     ·exact h.good.otr bl (.inr ⟨g,n,u,cn,gd,a3⟩) k j fo
     ·have:=(x1 g n u bl cb cn gd a3).1;have:=OC k j fo;omega
    ·rcases fo with fo|fo
     ·exact j8 (Fo g n u bl cb cn a3) fo
     ·exact aR.otr bl (.inr ⟨g,n,u,cb,cn,a3⟩) k j fo
  ·have bS:k<w.heap.size:=Nat.lt_of_lt_of_le aa h.fr.size;rw[Iv k bS fun fl=>by
    rcases(np k fl).1 with I|I
    ·exact hm I
    ·omega]
   exact h.fr.block k aa hm
  ·obtain⟨cI,dr⟩:=h.fr.keep b o rB;obtain⟨gM,jF⟩:=aL.keep b o cI;exact⟨gM,jF.trans dr⟩
  ·rcases aL.fresh b o rB with aO|aO|aO
   ·exact h.fr.fresh b o aO
   ·exact .inr (np b aO).1
   ·exact .inr (.inr (Nat.le_trans h.fr.size aO))
  ·rcases I with I|I<;>rcases J with J|J
   ·exact h.fr.trd k j bb eo b I J
   ·have bB:=(h.fr.trb k j b I).2;have a2:=(aL.trb bb eo b J).1;rcases a2 with a2|a2
    ·obtain⟨m,_,hm⟩:=(af bb).2.2 eo b J;rw[hm]at a2;cases a2
    ·simp only at a2;omega
   ·have bB:=(h.fr.trb bb eo b J).2;have a2:=(aL.trb k j b I).1;rcases a2 with a2|a2
    ·obtain⟨m,_,hm⟩:=(af k).2.2 j b I;rw[hm]at a2;cases a2
    ·simp only at a2;omega
   ·exact aL.trd k j bb eo b I J
  ·rcases ah with ah|ah
   ·exact⟨(h.fr.trb k j b ah).1,Nat.lt_of_lt_of_le (h.fr.trb k j b ah).2 aL.size⟩
   ·refine⟨.inr ?_,(aL.trb k j b ah).2⟩;rcases(aL.trb k j b ah).1 with a2|a2
    ·obtain⟨m,_,hm⟩:=(af k).2.2 j b ah;rw[hm]at a2;cases a2
    ·exact Nat.le_trans h.fr.size a2
  ·have key:ν.bx k=none/\ν.ow k=none/\¬(look k ai.b).isSome/\¬(look k ai.e).isSome:=by
    rcases ah with ah|ah
    ·obtain⟨t1,t2⟩:=h.fr.trn k j b ah;refine⟨t1,t2,fun bI=>?_,fun bI=>?_⟩
     ·cases k with
      |loc m=>rw[rM.1 m]at bI;cases bI
      |obj m=>
       rcases HI m bI with bp|bp
       ·obtain⟨cs,cO⟩:=e5.1 (vT _ bp);obtain⟨gH,us,el,g1,_⟩:=h.good.box _ cs cO;rw[t1]at g1;cases g1
       ·exact(h.new (.obj m) ⟨trivial,bp⟩).2.2 j b ah
     ·cases k with
      |loc m=>rw[rM.2 m]at bI;cases bI
      |obj m=>
       rcases b4 m bI with bp|bp
       ·obtain⟨cs,cO⟩:=e5.1 (gE _ bp);obtain⟨gH,us,g1,_⟩:=h.good.own _ cs cO;rw[t2]at g1;cases g1
       ·exact(h.new (.obj m) ⟨trivial,bp⟩).2.2 j b ah
    ·obtain⟨m,hm,rfl⟩:=(af k).2.2 j b ah;obtain⟨t1,t2,_⟩:=Eg m hm;exact⟨t1,t2,by simp[rM.1 m],by simp[rM.2 m]⟩
   obtain⟨t1,t2,t3,t4⟩:=key;have t5:¬(look k s.b).isSome:=fun bI=>by obtain⟨cs,cO⟩:=e5.1 (vT _ bI);obtain⟨gH,us,el,g1,_⟩:=h.good.box _ cs cO;rw[t1]at g1;cases g1
   have t6:¬(look k s.e).isSome:=fun bI=>by obtain⟨cs,cO⟩:=e5.1 (gE _ bI);obtain⟨gH,us,g1,_⟩:=h.good.own _ cs cO;rw[t2]at g1;cases g1
   exact⟨by simp[aP.join,t3,t5,t1],by simp[aP.join,t4,t6,t2]⟩
  ·
   simp only at aa;obtain⟨aa,YN⟩:=gQ k aa;have OK:(∀j b,¬ν.tr k j b)->∀j b,¬(ν.join ν' s ai).tr k j b:=fun I j b ah=>by
    rcases ah with ah|ah
    ·exact I j b ah
    ·obtain⟨m,hm,e⟩:=(af k).2.2 j b ah;exact YN m hm e
   cases k with
   |loc m=>obtain⟨gy,fx,iR⟩:=h.new (.loc m) (qu (cq _) (fun _ h=>lY _ h) aa);exact⟨by simp[aP.join,j9.1 m,rM.1 m,gy],by simp[aP.join,j9.2 m,rM.2 m,fx],OK iR⟩
   |obj m=>
    simp only[fresh,hv,not_or,true_and]at aa;obtain⟨gy,fx,iR⟩:=h.new (.obj m) ⟨trivial,aa.1⟩;have bR:¬(look (.obj m) ai.b).isSome:=fun bI=>aa.2 (uM (.inl bI));have cA:¬(look (.obj m) ai.e).isSome:=fun bI=>aa.2 (uM (.inr bI));have dE:¬(look (.obj m) s.b).isSome:=fun bI=>by obtain⟨cs,cO⟩:=e5.1 (vT _ bI);obtain⟨gH,us,el,g1,_⟩:=h.good.box _ cs cO;rw[gy]at g1;cases g1
    have dM:¬(look (.obj m) s.e).isSome:=fun bI=>by obtain⟨cs,cO⟩:=e5.1 (gE _ bI);obtain⟨v',us,g1,_⟩:=h.good.own _ cs cO;rw[fx]at g1;cases g1
    exact⟨by simp[aP.join,bR,dE,gy],by simp[aP.join,cA,dM,fx],OK iR⟩
 exact mR.put aF (uU gR hr)
end
end Go.Pv
