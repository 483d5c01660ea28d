/- A call, by its contract. -/
import Derived.Deep.AppendSrc
import Derived.Laws.OwnMore
import Derived.Test.YtlnndmgfngfeiaaGreatDoorV1
set_option linter.all false
set_option maxHeartbeats 4000000
set_option maxRecDepth 4000
open Bool renaming and_eq_true->bF,false_eq_true->kE
open ByteArray renaming size->MH
open Go renaming Operand->ix,Program->b3,TypeId->fT
open Go.Builtin renaming append_->sX
open Go.Result renaming andThen_ok->e8
open Go.Sem renaming run_bind->e4,run_pure->fO
open Go.Value renaming cells->mf,int->mP,ownBlock->nC
open Go.World.grownBy renaming refl->aiO
open List renaming append_assoc->iI,cons_append->ds,eq_nil_of_length_eq_zero->n5,getElem?_append_left->rE,getElem?_eq_getElem->cS,getElem?_eq_some_iff->eV,length_append->fU,length_cons->ga,length_drop->hG,length_map->pR,length_pos_iff->sY,length_take->n7,map_cons->ek,map_nil->mQ,mem_append->fM,mem_append_left->rF,mem_map->n8,nil_append->eW,take_length->kH,take_of_length_le->rH
open Nat renaming le_refl->c7,zero_add->n9,zero_le->o3
open Option renaming isSome_iff_exists->fG,isSome_none->um,map_some->oa
open Option.some renaming injEq->dH
open Prod.mk renaming injEq->gz
open _root_ renaming ByteArray->kF,False->dD,Option->a1,UInt8->ah,beq_iff_eq->dK,congrArg->dZ,decide_eq_true_eq->ea,if_neg->bo,if_pos->bP
namespace Go.Pv
section
open Go Go.RowKit
theorem cv.inPlace{C:eI}{st:a6}{a:Act}{w:World}{ν:aW}(h:cv C st a w ν){k:aO}{o:dU}(aa:look k st.e=some o){bl cap:Nat}{cur:Array Value}(aK:ν.ow k=some (o.n,.slice (some ⟨bl,0,none⟩) o.n cap))
  (xR:w.heap[bl]? =some (.cells cur o.el (0,0))) (r7:cap<=maxLen) (ef:cur.size=cap*o.sz) {xs ys:List al} {us ns:List Value} (oK:xs.length=o.n) (ki:cur.toList.take (o.n*o.sz)=us) (aH:cR w ν o.sz xs us) (IY:cR w ν o.sz ys ns)
  (gW:0<ys.length) (nS:o.n+ys.length<=cap) (gg:xs.length+ys.length<=bs):
  cv C {st with e:=dd k ⟨o.n+ys.length,o.el,o.sz,none⟩ st.e} a (w.setRow bl (us++ns++cur.toList.drop (o.n*o.sz+ns.length)).toArray)
   (ν.withRowOf k (.slice (some ⟨bl,0,none⟩) (o.n+ys.length) cap) (o.n+ys.length) ((o.n+ys.length)*o.sz))/\
  aT (w.setRow bl (us++ns++cur.toList.drop (o.n*o.sz+ns.length)).toArray) (ν.withRowOf k (.slice (some ⟨bl,0,none⟩) (o.n+ys.length) cap) (o.n+ys.length) ((o.n+ys.length)*o.sz))
   (.slice o.sz (.own k) (xs++ys)) (.slice (some ⟨bl,0,none⟩) (o.n+ys.length) cap):=by
 have js:=ri IY;have q5:=ri aH;rw[oK]at q5;have hmul:(o.n+ys.length)*o.sz<=cap*o.sz:=Nat.mul_le_mul_right _ nS;rw[Nat.add_mul]at hmul;obtain⟨v0,eT,cz,db,eo,_⟩:=h.good.own k o aa;rw[aK]at cz;cases cz;obtain⟨dC,dc⟩:=eo bl rfl;generalize p9:w.setRow bl (us++ns++cur.toList.drop (o.n*o.sz+ns.length)).toArray=w';have ks:∀j,j≠bl->w'.heap[j]? =w.heap[j]?:=fun j aD=>by rw[<-p9];exact setRow_other w bl j _ aD
 have lC:w'.heap[bl]? =some (.cells (us++ns++cur.toList.drop (o.n*o.sz+ns.length)).toArray o.el (0,0)):=by rw[<-p9];exact setRow_heap w bl cur _ o.el _ xR
 have JG:w'.heap.size=w.heap.size:=by rw[<-p9];exact setRow_size w bl _
 have mB:∀j,j<o.n*o.sz->w'.cell? ⟨bl,j,none⟩=w.cell? ⟨bl,j,none⟩:=by intro j aD;simp only[World.cell?,lC,xR,um,kE,if_false];rw[List.getElem?_toArray,iI,rE Ω,<-ki,List.getElem?_take,bP aD];simp
 have az:lW w ν w' (ν.withRowOf k (.slice (some ⟨bl,0,none⟩) (o.n+ys.length) cap) (o.n+ys.length) ((o.n+ys.length)*o.sz)):=by
  refine⟨fun b j bq=>⟨.inl bq,?_⟩,fun j b _ aD=>aD,fun g n u _ iL=>?_,fun b j bq=>?_,fun _ _ _ _ h=>h⟩;rotate_left 2
  ·by_cases e:b=bl
   ·subst e;simp only[shape,lC,xR,List.size_toArray,fU,hG,Array.length_toList];congr 2;omega
   ·exact yJ (ks b e)
  ·by_cases e:b=bl
   ·subst e;exact mB j (dc j bq)
   ·exact World.cell?_of_block (ks b e)
  ·by_cases e:g=k
   ·subst e;rw[aK]at iL;cases iL;exact⟨o.n+ys.length,.slice (some ⟨bl,0,none⟩) (o.n+ys.length) cap,by simp[aW.withRowOf],.inr Ω⟩
   ·exact⟨n,u,by simp[aW.withRowOf,e,iL],.inl ⟨rfl,rfl⟩⟩
 have kP:∀g,(look g (dd k ⟨o.n+ys.length,o.el,o.sz,none⟩ st.e)).isSome->g=k\/(g≠k/\(look g st.e).isSome/\(ν.withRowOf k (.slice (some ⟨bl,0,none⟩) (o.n+ys.length) cap) (o.n+ys.length) ((o.n+ys.length)*o.sz)).ow g=ν.ow g):=by
  intro g kr;by_cases e:g=k
  ·exact .inl e
  ·rw[jG,bo (Ne.symm e)]at kr;exact .inr ⟨e,kr,by simp[aW.withRowOf,e]⟩
 have akx:bl<w.heap.size:=(Array.getElem?_eq_some_iff.1 xR).1;have B1:∀j u,(us++ns)[j]? =some u->w'.cell? ⟨bl,j,none⟩=some u:=by intro j u aD;have fJ:=(eV.1 aD).1;simp only[World.cell?,lC,um,kE,if_false];rw[List.getElem?_toArray,rE fJ];exact aD
 refine⟨h.over az rfl ⟨fun b j bq=>?_,fun j dV aD=>?_,h.good.inj,fun g o' eL=>?_,fun g eP n n' u fe b I J aA aS bG cq=>?_,fun g j n u b I J aA aS bG=>?_,fun j=>?_,fun b ao=>h.good.otr b ?_⟩
  ⟨by rw[<-p9];exact h.fr.os,by rw[<-p9];exact h.fr.tape,by rw[<-p9];exact h.fr.output,by rw[JG];exact h.fr.size,fun j aD hm=>?_,fun b j bq=>?_,fun b j bq=>?_,h.fr.obj,h.fr.obn,fun m n u hm=>Dt (h.fr.row m n u hm) (fun n u=>az.ow _ n u trivial),h.fr.obr,h.fr.trd,fun k j b ao=>⟨(h.fr.trb k j b ao).1,by rw[JG];exact(h.fr.trb k j b ao).2⟩,fun bz j b ao=>?_,fun b o bq=>(az.sh b o (h.fr.keep b o bq).1).trans (h.fr.sh b o bq),fun j n u b aB aU=>(by
   by_cases e:aO.loc j=k
   ·subst e;simp only[aW.withRowOf,if_true,dH,gz]at aB;rw[<-aB.2]at aU;have b1:b=bl:=by simpa[nC]using aU.symm
    subst b1;exact h.fr.nrow j _ _ b aK rfl
   ·simp only[aW.withRowOf,bo e]at aB;exact h.fr.nrow j n u b aB aU)⟩ (fun m hm=>?_),?_⟩
 ·rw[JG];rcases bq with bq|⟨bq,_⟩
  ·exact h.good.alt b j bq
  ·simp only[nC,dH]at bq;omega
 ·obtain⟨b,bI,eO,g1,g2,g3,g4,g5⟩:=h.good.box j dV aD;have cD:b≠bl:=fun e=>h.good.obx k j o.n _ bl (by simp[aa]) (by simp[aD]) aK rfl (by rw[<-e];exact g1);refine⟨b,bI,eO,g1,g2,fun i bq=>?_,by rw[ks b cD];exact g4,pz az g5⟩;rcases bq with bq|⟨bq,_⟩
  ·exact g3 i bq
  ·simp only[nC,dH]at bq;exact cD bq.symm
 ·simp only at eL;rw[jG]at eL;by_cases e:k=g
  ·rw[bP e]at eL;cases eL;subst e;refine⟨.slice (some ⟨bl,0,none⟩) (o.n+ys.length) cap,us++ns,by simp[aW.withRowOf],⟨by rw[fU,q5,js,Nat.add_mul],.inr ⟨bl,cap,_,rfl,o3 _,lC,nS,r7,?_,?_⟩⟩,fun b ao=>⟨?_,fun j bq=>?_⟩,fun ys bB=>by cases bB⟩
   ·simp only[List.size_toArray,fU,hG,Array.length_toList];omega
   ·have aG:(us++ns).length=(o.n+ys.length)*o.sz:=by rw[fU,q5,js,Nat.add_mul]
    simp only[<-aG];rw[List.take_append_of_le_length (c7 _),kH]
   ·simp only[nC,dH]at ao;subst ao;exact dC
   ·simp only[nC,dH]at ao;subst ao;rcases bq with bq|⟨_,bq⟩
    ·have:=dc j bq;simp only;rw[Nat.add_mul];omega
    ·exact bq
  ·rw[bo e]at eL;obtain⟨v0,eT,aB,aU,b1,dN⟩:=h.good.own g o' eL;have cD:∀b,v0.ownBlock=some b->b≠bl:=fun b ao Ii=>e (h.good.oinj k g o.n o'.n _ v0 bl (by simp[aa]) (by simp[eL]) aK aB rfl (by rw[<-Ii];exact ao));have wb:∀b,v0.ownBlock=some b->∀j,(ν.withRowOf k (.slice (some ⟨bl,0,none⟩) (o.n+ys.length) cap) (o.n+ys.length) ((o.n+ys.length)*o.sz)).A b j->ν.A b j:=fun b ao j bq=>by
    rcases bq with bq|⟨bq,_⟩
    ·exact bq
    ·simp only[nC,dH]at bq;exact absurd bq.symm (cD b ao)
   refine⟨v0,eT,by simp[aW.withRowOf,Ne.symm e,aB],⟨aU.1,?_⟩,fun b ao=>⟨(b1 b ao).1,fun j bq=>(b1 b ao).2 j (wb b ao j bq)⟩,rj az wb dN⟩;rcases aU.2 with aU|⟨hT,xv,mq,f1,f2,f3,f4⟩
   ·exact .inl aU
   ·exact .inr ⟨hT,xv,mq,f1,f2,by rw[ks hT (cD hT (by rw[f1];rfl))];exact f3,f4⟩
 ·rcases kP g I with rfl|⟨hn,fS,jb⟩<;>rcases kP eP J with rfl|⟨m1,m2,m3⟩
  ·rfl
  ·exfalso;simp only[aW.withRowOf,if_true,dH,gz]at aA;rw[m3]at aS;rw[<-aA.2]at bG;simp only[nC,dH]at bG;subst bG;exact m1 (h.good.oinj eP g n' o.n fe _ bl m2 (by simp[aa]) aS aK cq rfl)
  ·exfalso;simp only[aW.withRowOf,if_true,dH,gz]at aS;rw[jb]at aA;rw[<-aS.2]at cq;simp only[nC,dH]at cq;subst cq;exact hn (h.good.oinj g eP n o.n u _ bl fS (by simp[aa]) aA aK bG rfl)
  ·rw[jb]at aA;rw[m3]at aS;exact h.good.oinj g eP n n' u fe b fS m2 aA aS bG cq
 ·rcases kP g I with rfl|⟨hn,fS,jb⟩
  ·simp only[aW.withRowOf,if_true,dH,gz]at aA;rw[<-aA.2]at aS;simp only[nC,dH]at aS;subst aS;exact h.good.obx g j o.n _ bl (by simp[aa]) J aK rfl bG
  ·rw[jb]at aA;exact h.good.obx g j n u b fS J aA aS bG
 ·by_cases e:j=k
  ·subst e;rcases h.good.one j with I|I
   ·exact .inl I
   ·rw[I]at aK;cases aK
  ·rcases h.good.one j with I|I
   ·exact .inl I
   ·exact .inr (by simp[aW.withRowOf,e,I])
 ·rcases ao with ao|⟨g,n,u,b4,a2,a3⟩
  ·exact .inl ao
  ·rcases kP g b4 with rfl|⟨hn,fS,jb⟩
   ·simp only[aW.withRowOf,if_true,dH,gz]at a2;rw[<-a2.2]at a3;exact .inr ⟨g,_,_,by simp[aa],aK,a3⟩
   ·exact .inr ⟨g,n,u,fS,by rw[<-jb];exact a2,a3⟩
 ·rw[ks j fun e=>by subst e;exact dC.elim hm (fun g2=>Ω)];exact h.fr.block j aD hm
 ·obtain⟨cE,dj⟩:=h.fr.keep b j bq;exact⟨.inl cE,(az.A b j cE).2.trans dj⟩
 ·rcases bq with bq|⟨bq,_⟩
  ·exact h.fr.fresh b j bq
  ·simp only[nC,dH]at bq;subst bq;exact .inr dC
 ·obtain⟨t1,t2⟩:=h.fr.trn bz j b ao;have cD:bz≠k:=fun e=>by subst e;rw[t2]at aK;cases aK
  exact⟨t1,by simp[aW.withRowOf,cD,t2]⟩
 ·obtain⟨cE,dj,gD⟩:=h.new m hm;refine⟨cE,?_,gD⟩;have:m≠k:=fun e=>by subst e;rw[dj]at aK;cases aK
  simp[aW.withRowOf,this,dj]
 ·simp only[aT];refine⟨⟨some ⟨bl,0,none⟩,cap,by simp[oK],by simp;omega,⟨r7,by simpa using gg⟩,.inr ⟨bl,0,us++ns,rfl,yk _ 0 fun j u aD=>?_,AA (AB az aH) (AB az IY)⟩⟩,fun e=>(by cases e),fun g e=>?_,fun _ _ e=>(by cases e),fun _ e=>(by cases e)⟩
  ·have fJ:=(eV.1 aD).1;rw[n9];refine⟨.inr ⟨rfl,?_⟩,B1 j u aD⟩;rw[fU,q5,js]at fJ;rw[Nat.add_mul];exact fJ
  ·cases e;exact⟨o.n+ys.length,.slice (some ⟨bl,0,none⟩) (o.n+ys.length) cap,by simp[aW.withRowOf],by simp[oK],fun _=>rfl⟩
theorem GN{P:b3}{w:World}{t ty e:fT}{i:TypeInfo}(aI:P.underlying t=some (.slice e))(aE:P.info? e=some i)(b:a1 Addr)(n cap:Nat)(aJ:n<=cap)(x:a1 Addr)(c:Nat):
  (sX #[t,t] ty #[.slice b n cap,.slice x 0 c]).run P w= .ok (.slice b n cap) w:=by
 cases b<;>cases x<;>simp[sX,run_underlying aI,sizeOf,typeInfo,aE,Builtin.lenOf,aJ,Builtin.firstCells,loadCells,loadCellsFrom,storeCells]
inductive dL where
 |v (d:Nat) (i:fP)
 |box (d:Nat) (key:a1 Nat) (x:cY)
 |alloc (d:Nat) (key:a1 Nat) (zero:al)
 |store (sz:Nat) (x y:cY)
 |bsl (d:Nat) (sz el:Nat) (xs:List cY)
 |app (d:Nat) (sz el:Nat) (x y:cY)
 |bslm (d:Nat) (key:a1 Nat) (sz el:Nat) (xs:List cY)
 |appm (d:Nat) (key:a1 Nat) (sz el:Nat) (x y:cY)
 |mkmap (d:Nat) (key:a1 Nat)
 |mput (b7:j5) (x k v:cY)
 |range (d:Nat) (key:a1 Nat) (x:cY)
 |storeE (sz:Nat) (x y:cY)
 |mks (d:Nat) (key:a1 Nat) (sz el:Nat) (z:al) (x:cY)
 |apps (d el:Nat) (x y:cY)
def iO(st:a6):a1 Nat->aO
 |none=>.loc st.n
 |some m=>.obj m
def qh(st:a6):a1 Nat->Prop
 |none=>.loc st.n∉st.o
 |some m=>.obj m∉st.o
def nq(st:a6):a1 Nat->Nat
 |none=>st.n+1
 |some _=>st.n
def nr(st:a6):a1 Nat->List aO
 |none=>st.o
 |some m=>.obj m::st.o
theorem wH{st:a6}{key:a1 Nat}(h:qh st key):fresh st.n st.o (iO st key):=by cases key<;>simp[iO,fresh,qh]at h⊢ <;>exact h
theorem wI{st:a6}{key:a1 Nat}:∀j,fresh (nq st key) (nr st key) j->fresh st.n st.o j/\j≠iO st key:=by
 intro j aD;cases key<;>cases j<;>simp[fresh,nq,nr,iO]at aD⊢
 ·exact⟨⟨Ω,aD.2⟩,Ω⟩
 ·exact aD
 ·exact aD
 ·exact⟨aD.2,aD.1⟩
def qQ(sz:Nat):List al->Prop
 |[]=>True
 |p::b2=>(eG p=true/\(cells p).length=sz)/\qQ sz b2
def ra(b7:j5)(k v:al):List al->a1 (List al)
 | .hdm clock borns::kvs=>if yi b7 k=false then none else match vf b7 k v kvs with
  |some (some wA)=>some (.hdm clock borns::wA)
  |some none=>some (.hdm (clock+1) (borns++[clock])::(kvs++[k,v]))
  |none=>none
 |_=>none
def Dj(m:aO):List al->a1 (List al)
 | .hdm clock _::_=>some [.hdi clock [] clock,.gmap m]
 |_=>none
def mn(st:a6)(sz el:Nat)(x y:al):a1 ((a1 (aO×List al))×List al):=
 match x,y with
 | .slice dn .nil _,.slice ia _ ys=>if dn=sz/\ia=sz then some (none,ys)else none
 | .row dn k n,.slice ia _ ys=>if dn=sz/\ia=sz then
   match look k st.e with
   |some ⟨n',eO,uc,some xs⟩=>if n'=n/\eO=el/\uc=sz then some (some (k,xs),ys)else none
   |_=>none
  else none
 |_,_=>none
def rk:al->Nat->List al->al
 | .agg dV,f,cs=>.agg (oV dV f cs)
 |_,_,[q]=>q
 |_,_,_=>.junk
def rq(st:a6)(sz:Nat)(p v:al):a1 (Prop×a6):=
 match p with
 | .rptr dn k n i f=>match look k st.e with
  |some ⟨n',el,ia,some xs⟩=>if n'=n/\ia=dn then
    match xs[i]? with
    |some q=>some (eG q=true/\eG v=true/\(cells v).length=sz/\f+sz<=(cells q).length/\0<sz,{st with e:=dd k ⟨n',el,ia,some (xs.set i (rk q f (cells v)))⟩ st.e})
    |none=>none
   else none
  |_=>none
 |_=>none
def fW(s:List ah):List al:=s.map fun c=>.int .u8 c.toNat
def Bl(st:a6)(d el:Nat)(x y:al):a1 (Prop×a6):=
 match x,y with
 | .row sz k n,.str s=>match look k st.e with
  |some ⟨n',eO,dn,some xs⟩=>if n'=n/\eO=el/\dn=1/\sz=1 then some (xs.length+s.length<=bs,
    {st with t:=put d (.row 1 k (xs.length+s.length)) st.t,e:=dd k ⟨xs.length+s.length,el,1,some (xs++fW s)⟩ st.e})else none
  |_=>none
 | .slice sz .nil _,.str s=>if sz=1 then some ((.obj 862∉st.o)/\s≠[]/\s.length<=bs,
   {t:=put d (.row 1 (.obj 862) s.length) st.t,b:=st.b,e:=dd (.obj 862) ⟨s.length,el,1,some (fW s)⟩ st.e,n:=st.n,o:= .obj 862::st.o})else none
 |_,_=>none
def lO(st:a6):dL->a1 (Prop×a6)
 | .mks d key sz el z x=>match bQ st.t x with
  | .int _ n=>some (qh st key/\0<=n/\n<=bs,
    {t:=put d (.row sz (iO st key) n.toNat) st.t,b:=st.b,e:=dd (iO st key) ⟨n.toNat,el,sz,some (List.replicate n.toNat z)⟩ st.e,n:=nq st key,o:=nr st key})
  |_=>none
 | .bslm d key sz el xs=>some (qh st key/\qQ sz (xs.map (bQ st.t)),
   {t:=put d (.row sz (iO st key) xs.length) st.t,b:=st.b,e:=dd (iO st key) ⟨xs.length,el,sz,some (xs.map (bQ st.t))⟩ st.e,n:=nq st key,o:=nr st key})
 | .appm d key sz el x y=>match mn st sz el (bQ st.t x) (bQ st.t y)with
  |some (none,ys)=>some (qh st key/\ys.length<=bs/\ys≠[],
    {t:=put d (.row sz (iO st key) ys.length) st.t,b:=st.b,e:=dd (iO st key) ⟨ys.length,el,sz,some ys⟩ st.e,n:=nq st key,o:=nr st key})
  |some (some (k,xs),ys)=>some (xs.length+ys.length<=bs,{st with t:=put d (.row sz k (xs.length+ys.length)) st.t,e:=dd k ⟨xs.length+ys.length,el,sz,some (xs++ys)⟩ st.e})
  |none=>none
 | .mkmap d key=>some (qh st key,{t:=put d (.gmap (iO st key)) st.t,b:=dd (iO st key) [.hdm 0 []] st.b,e:=st.e,n:=nq st key,o:=nr st key})
 | .mput b7 x k v=>match bQ st.t x with
  | .gmap m=>match look m st.b with
   |some cs=>match ra b7 (bQ st.t k) (bQ st.t v) cs with
    |some cs'=>some (True,{st with b:=dd m cs' st.b})
    |none=>none
   |none=>none
  |_=>none
 | .range d key x=>match bQ st.t x with
  | .gmap m=>match look m st.b with
   |some cs=>match Dj m cs with
    |some cs'=>some (qh st key,{t:=put d (.ptr (iO st key) 0) st.t,b:=dd (iO st key) cs' st.b,e:=st.e,n:=nq st key,o:=nr st key})
    |none=>none
   |none=>none
  |_=>none
 | .v d i=>match gH st i with
  |some (c,p)=>some (c,{st with t:=put d p st.t})
  |none=>none
 | .storeE sz x y=>rq st sz (bQ st.t x) (bQ st.t y)
 | .apps d el x y=>Bl st d el (bQ st.t x) (bQ st.t y)
 | .box d key x=>some (qh st key/\eG (bQ st.t x)=true,
   {t:=put d (.ptr (iO st key) 0) st.t,b:=dd (iO st key) (cells (bQ st.t x)) st.b,e:=st.e,n:=nq st key,o:=nr st key})
 | .alloc d key z=>some (qh st key,{t:=put d (.ptr (iO st key) 0) st.t,b:=dd (iO st key) (cells z) st.b,e:=st.e,n:=nq st key,o:=nr st key})
 | .store sz x y=>match bQ st.t x with
  | .ptr k off=>match look k st.b with
   |some cs=>some (iH cs=true/\eG (bQ st.t y)=true/\(cells (bQ st.t y)).length=sz/\off+sz<=cs.length,{st with b:=dd k (oV cs off (cells (bQ st.t y))) st.b})
   |none=>none
  |p=>rq st sz p (bQ st.t y)
 | .bsl d sz el xs=>some (qh st none/\qQ sz (xs.map (bQ st.t)),
   {st with t:=put d (.slice sz (.own (.loc st.n)) (xs.map (bQ st.t))) st.t,e:=dd (.loc st.n) ⟨xs.length,el,sz,none⟩ st.e,n:=st.n+1})
 | .app d sz el x y=>match bQ st.t x,bQ st.t y with
  | .slice dn tag xs,.slice ia _ ys=>if dn=sz/\ia=sz then
    match tag with
    | .own k=>match look k st.e with
     |some o=>some (o.n=xs.length/\o.el=el/\o.sz=sz/\xs.length+ys.length<=bs,
       {st with t:=put d (.slice sz (.own k) (xs++ys)) st.t,e:=dd k ⟨xs.length+ys.length,el,sz,none⟩ st.e})
     |none=>none
    | .nil=>some (qh st none/\ys.length<=bs,{st with t:=put d (.slice sz (.own (.loc st.n)) ys) st.t,e:=dd (.loc st.n) ⟨ys.length,el,sz,none⟩ st.e,n:=st.n+1})
    |_=>none
   else none
  |_,_=>none
def ei(κ:aO)(n':Nat)(o':List aO)(st:a6):dL->a1 (Prop×a6)
 | .mks d _ sz el z x=>match bQ st.t x with
  | .int _ n=>some (0<=n/\n<=bs,
    {t:=put d (.row sz κ n.toNat) st.t,b:=st.b,e:=dd κ ⟨n.toNat,el,sz,some (List.replicate n.toNat z)⟩ st.e,n:=n',o:=o'})
  |_=>none
 | .bslm d _ sz el xs=>some (qQ sz (xs.map (bQ st.t)),
   {t:=put d (.row sz κ xs.length) st.t,b:=st.b,e:=dd κ ⟨xs.length,el,sz,some (xs.map (bQ st.t))⟩ st.e,n:=n',o:=o'})
 | .appm d _ sz el x y=>match mn st sz el (bQ st.t x) (bQ st.t y)with
  |some (none,ys)=>some (ys.length<=bs/\ys≠[],
    {t:=put d (.row sz κ ys.length) st.t,b:=st.b,e:=dd κ ⟨ys.length,el,sz,some ys⟩ st.e,n:=n',o:=o'})
  |some (some (k,xs),ys)=>some (xs.length+ys.length<=bs,{st with t:=put d (.row sz k (xs.length+ys.length)) st.t,e:=dd k ⟨xs.length+ys.length,el,sz,some (xs++ys)⟩ st.e})
  |none=>none
 | .mkmap d _=>some (True,{t:=put d (.gmap κ) st.t,b:=dd κ [.hdm 0 []] st.b,e:=st.e,n:=n',o:=o'})
 | .mput b7 x k v=>match bQ st.t x with
  | .gmap m=>match look m st.b with
   |some cs=>match ra b7 (bQ st.t k) (bQ st.t v) cs with
    |some cs'=>some (True,{st with b:=dd m cs' st.b})
    |none=>none
   |none=>none
  |_=>none
 | .range d _ x=>match bQ st.t x with
  | .gmap m=>match look m st.b with
   |some cs=>match Dj m cs with
    |some cs'=>some (True,{t:=put d (.ptr κ 0) st.t,b:=dd κ cs' st.b,e:=st.e,n:=n',o:=o'})
    |none=>none
   |none=>none
  |_=>none
 | .v d i=>match gH st i with
  |some (c,p)=>some (c,{st with t:=put d p st.t})
  |none=>none
 | .storeE sz x y=>rq st sz (bQ st.t x) (bQ st.t y)
 | .apps d el x y=>Bl st d el (bQ st.t x) (bQ st.t y)
 | .box d _ x=>some (eG (bQ st.t x)=true,{t:=put d (.ptr κ 0) st.t,b:=dd κ (cells (bQ st.t x)) st.b,e:=st.e,n:=n',o:=o'})
 | .alloc d _ z=>some (True,{t:=put d (.ptr κ 0) st.t,b:=dd κ (cells z) st.b,e:=st.e,n:=n',o:=o'})
 | .store sz x y=>match bQ st.t x with
  | .ptr k off=>match look k st.b with
   |some cs=>some (iH cs=true/\eG (bQ st.t y)=true/\(cells (bQ st.t y)).length=sz/\off+sz<=cs.length,{st with b:=dd k (oV cs off (cells (bQ st.t y))) st.b})
   |none=>none
  |p=>rq st sz p (bQ st.t y)
 | .bsl d sz el xs=>some (qQ sz (xs.map (bQ st.t)),
   {st with t:=put d (.slice sz (.own κ) (xs.map (bQ st.t))) st.t,e:=dd κ ⟨xs.length,el,sz,none⟩ st.e,n:=n',o:=o'})
 | .app d sz el x y=>match bQ st.t x,bQ st.t y with
  | .slice dn tag xs,.slice ia _ ys=>if dn=sz/\ia=sz then
    match tag with
    | .own k=>match look k st.e with
     |some o=>some (o.n=xs.length/\o.el=el/\o.sz=sz/\xs.length+ys.length<=bs,
       {st with t:=put d (.slice sz (.own k) (xs++ys)) st.t,e:=dd k ⟨xs.length+ys.length,el,sz,none⟩ st.e})
     |none=>none
    | .nil=>some (ys.length<=bs,{st with t:=put d (.slice sz (.own κ) ys) st.t,e:=dd κ ⟨ys.length,el,sz,none⟩ st.e,n:=n',o:=o'})
    |_=>none
   else none
  |_,_=>none
def wN:Nat->List cY->List (Nat×ix)->Bool
 |_,[],[]=>true
 |i,x::xs,(j,o)::os=>i==j&&dX x o&&wN (i+1) xs os
 |_,_,_=>false
def dL.bok(κ:aO):dL->Prop
 | .mkmap _ _| .range _ _ _=>κ≠ .obj 861
 | .alloc _ key _| .box _ key _=>κ= .obj 861->key=some 861
 |_=>True
theorem F4{st:a6}{key:a1 Nat}(h:iO st key= .obj 861):key=some 861:=by cases key<;>simp[iO]at h⊢;exact h
def rl(N:Nat)(bu:List (Nat×dt))(i:dL)(o:Oper):Bool:=
 match i,o.op with
 | .mkmap d key,.makeMap _ none=>o.dst==some d&&decide (d<N)&&key !=some 861
 | .mput b7 x k v,.mapUpdate t mb kz oP=>o.dst==none&&(match dJ bu t with|some ⟨_,_,.map ec _,_⟩=>yj bu b7 ec|_=>false)&&dX x mb&&dX k kz&&dX v oP
 | .mput b7 x k v,.insert t mb kz oP=>o.dst==none&&(match dJ bu t with|some ⟨_,_,.map ec _,_⟩=>yj bu b7 ec|_=>false)&&dX x mb&&dX k kz&&dX v oP
 | .range d key x,.range t mb=>o.dst==some d&&decide (d<N)&&(match dJ bu t with|some ⟨_,_,.map _ _,_⟩=>true|_=>false)&&dX x mb&&key !=some 861
 | .v d i,op=>o.dst==some d&&decide (d<N)&&DJ bu i op
 | .box d key x,.box el o'=>o.dst==some d&&decide (d<N)&&dX x o'&&(key !=some 861||el==DF)
 | .alloc d key z,.alloc el=>o.dst==some d&&decide (d<N)&&(match dJ bu el with|some f=>AV z f.zero|none=>false)&&(key !=some 861||el==DF)
 | .store sz x y,.store t o' hC=>o.dst==none&&(match dJ bu t with|some f=>f.size==sz|none=>false)&&dX x o'&&dX y hC
 | .bsl d sz el xs,.buildSlice t len parts=>o.dst==some d&&decide (d<N)&&(match dJ bu t with|some ⟨_,_,.slice eO,_⟩=>el==eO|_=>false)&&(match dJ bu el with|some f=>f.size==sz&&decide (0<sz)|none=>false)
   &&len==xs.length&&decide (len*sz<=16777216)&&wN 0 xs parts.toList
 | .app d sz el x y,.call ⟨.builtin .append,⟨[o',hC]⟩,⟨[t,eH]⟩⟩=>o.dst==some d&&decide (d<N)&&t==eH&&(match dJ bu t with|some ⟨_,_,.slice eO,_⟩=>el==eO|_=>false)
   &&(match dJ bu el with|some f=>f.size==sz&&decide (0<sz)&&decide (f.bytes<=2048)|none=>false)&&dX x o'&&dX y hC
 | .bslm d _ sz el xs,.buildSlice t len parts=>o.dst==some d&&decide (d<N)&&(match dJ bu t with|some ⟨_,_,.slice eO,_⟩=>el==eO|_=>false)&&(match dJ bu el with|some f=>f.size==sz&&decide (0<sz)|none=>false)
   &&len==xs.length&&decide (len*sz<=16777216)&&wN 0 xs parts.toList
 | .appm d _ sz el x y,.call ⟨.builtin .append,⟨[o',hC]⟩,⟨[t,eH]⟩⟩=>o.dst==some d&&decide (d<N)&&t==eH&&(match dJ bu t with|some ⟨_,_,.slice eO,_⟩=>el==eO|_=>false)
   &&(match dJ bu el with|some f=>f.size==sz&&decide (0<sz)&&decide (f.bytes<=2048)|none=>false)&&dX x o'&&dX y hC
 | .storeE sz x y,.store t o' hC=>o.dst==none&&(match dJ bu t with|some f=>f.size==sz|none=>false)&&dX x o'&&dX y hC
 | .apps d el x y,.call ⟨.builtin .append,⟨[o',hC]⟩,⟨[t,eH]⟩⟩=>o.dst==some d&&decide (d<N)&&(match dJ bu t with|some ⟨_,_,.slice eO,_⟩=>el==eO|_=>false)&&(match dJ bu eH with|some ⟨_,_,.str,_⟩=>true|_=>false)
   &&(match dJ bu el with|some f=>f.size==1&&decide (f.bytes<=2048)|none=>false)&&dX x o'&&dX y hC
 | .mks d _ sz el z x,.makeSlice t o' hC=>o.dst==some d&&decide (d<N)&&(match dJ bu t with|some ⟨_,_,.slice eO,_⟩=>el==eO|_=>false)
   &&(match dJ bu el with|some f=>f.size==sz&&decide (0<sz)&&decide (f.bytes<=2048)&&AV z f.zero|none=>false)&&dX x o'&&dX x hC
 |_,_=>false
theorem UU{w:World}{ν:aW}{C:eI}{st:a6}{a:Act}(hr:cv C st a w ν){sz:Nat}:
  ∀(xs:List cY) (i:Nat) (os:List (Nat×ix)) (pre:List al) (us:Array Value) (vs:List Value),wN i xs os=true->qQ sz (xs.map (bQ st.t))->us.toList.take (i*sz)=vs->cR w ν sz pre vs->i=pre.length->us.size=(i+xs.length)*sz->
  ∃bI:Array Value,Instr.fill (fun i=>some (i*sz,sz)) us (os.map fun(x:Nat×ix)=>(x.1,a.eval x.2))=some bI/\cR w ν sz (pre++xs.map (bQ st.t)) bI.toList/\bI.size=us.size
 |[],i,[],pre,us,vs,_,_,aK,h,aE,au=>by refine⟨us,by simp[Instr.fill],?_,rfl⟩;have aG:=ri h;have:us.toList.take (i*sz)=us.toList:=rH (by simp at au⊢;omega);rw[this]at aK;simpa[aK]using h
 |[],_,_::_,_,_,_,dS,_,_,_,_,_=>by simp[wN]at dS
 |_::_,_,[],_,_,_,dS,_,_,_,_,_=>by simp[wN]at dS
 |x::xs,i,(j,o)::os,pre,us,vs,dS,bM,aK,h,aE,au=>by
  simp only[wN,bF,dK]at dS;obtain⟨⟨rfl,I⟩,J⟩:=dS;simp only[ek,qQ]at bM;obtain⟨⟨JH,hlen⟩,bM⟩:=bM;have ad:=dY hr I;have l2:=vr ad JH;have tD:=pA l2;have da:(a.eval o).cells.size=sz:=by rw[hlen]at tD;simpa using tD
  have hmul:i*sz+sz<=us.size:=by rw[au,ga,show i+(xs.length+1)=(i+1)+xs.length from by omega,Nat.add_mul,Nat.succ_mul];omega
  have lD:=IB (w:=w) (ν:=ν) (a.eval o).cells.toList 0 (i*sz) us (by simp[da];omega);have sk:cR w ν sz (pre++[bQ st.t x]) (vs++(a.eval o).cells.toList):=by refine AA h ?_;simp only[cR];exact⟨a.eval o,[],Ψ,⟨ad,da,AE l2⟩,rfl⟩
  have pj:vs.length=i*sz:=by rw[<-aK];simp;omega
  obtain⟨bI,g1,g2,g3⟩:=UU hr xs (i+1) os (pre++[bQ st.t x]) (((a.eval o).cells.toList.zipIdx 0).foldl (fun cs (x:Value×Nat)=>cs.setIfInBounds (i*sz+x.2) x.1) us) (vs++(a.eval o).cells.toList) J bM
   (by
    rw[lD];simp only[Nat.add_zero];rw[aK];have:(vs++(a.eval o).cells.toList).length=(i+1)*sz:=by rw[fU,pj,Nat.succ_mul];simp[da]
    rw[<-this,List.take_append_of_le_length (c7 _),kH]) sk (by simp[aE])
   (by have bK:=dZ List.length lD;simp only[Array.length_toList,fU,n7,hG,da]at bK;rw[bK,au,ga,show i+(xs.length+1)=i+1+xs.length from by omega];rw[au,ga,show i+(xs.length+1)=i+1+xs.length from by omega]at hmul;omega)
  refine⟨bI,?_,by simpa using g2,?_⟩
  ·simp only[ek,Instr.fill];rw[bo (by simp[da];omega),<-g1];congr 1;rw[<-Array.foldl_toList];simp
  ·rw[g3];have bK:=dZ List.length lD;simp only[Array.length_toList,fU,n7,hG,da]at bK;rw[bK];omega
theorem ag6{P:b3}(w:World)(t pF ty e:fT)(i:TypeInfo)(aI:P.underlying t=some (.slice e))(hu:P.underlying pF=some .string)(aE:P.info? e=some i)(EP:i.size=1)
  (g yH Lz:Nat) (cur:Array Value) (aR:w.heap[g]? =some (.cells cur e (0,0))) (s:kF) (nS:yH+s.size<=Lz) (q2:yH+s.size<=cur.size):
  (sX #[t,pF] ty #[.slice (some ⟨g,0,none⟩) yH Lz,.string s]).run P w=
   .ok (.slice (some ⟨g,0,none⟩) (yH+s.size) Lz) (w.setRow g (cur.toList.take yH++byteCells s++cur.toList.drop (yH+s.size)).toArray):=by
 have Cs:=Src.ofString (P:=P) w hu s;have eA:=run_storeCells_at P g yH e (byteCells s) 0 cur w aR (by simpa[byteCells_length]using q2) Cs.one;simp only[Nat.add_zero,byteCells_length]at eA;simp[sX,run_underlying aI,run_underlying hu,sizeOf,typeInfo,aE,EP,Cs.len,nS,Cs.cells,Addr.add_lit,eA]
theorem UR{P:b3}(w:World)(t pF ty e:fT)(i:TypeInfo)(z:Value)(aI:P.underlying t=some (.slice e))(hu:P.underlying pF=some .string)(aE:P.info? e=some i)(cp:i.zero=some z)(EP:i.size=1)(qd:z.cells.size=1)
  (v:Value) (n:Nat) (xs:List Value) (kt:w.ownsRow 0 e 1 v n xs) (s:kF) (cap:Nat) (base:a1 Addr) (aK:v= .slice base n cap) (r7:cap<n+s.size) (zz:n+s.size<=maxLen) (nc:(n+s.size)*i.bytes<=140737488355328):
  ∃v' w',(sX #[t,pF] ty #[v,.string s]).run P w= .ok v' w'/\w'.ownsRow w.heap.size e 1 v' (n+s.size) (xs++byteCells s)/\w.grownBy w' none:=by
 subst aK;have Cs:=Src.ofString (P:=P) w hu s;have oK:xs.length=n:=by simpa using kt.1
 have hold:(Builtin.firstCells i.size n (.slice base n cap)).run P w.drew= .ok xs.toArray w.drew:=by
  rw[EP];rcases kt.2 with⟨aB,rfl⟩|⟨g,xv,cur,aB,akw,aR,x8,zF,da,JM⟩
  ·injection aB with aB aU b1;subst aB;have:xs=[]:=n5 oK;subst this;exact run_firstCells_none w.drew 1 0 0 cap
  ·have Eo:=aB;injection aB with aB aU b1;subst aB;refine run_firstCells_some w.drew 1 n _ n cap xs Ω fun j u aD=>?_;have:=kt.cells (g:=g) rfl j u aD;simpa using this
 have hr:=run_append_grow_src (P:=P) w t pF ty e i z aI aE cp base n cap xs hold (.string s) s.size (byteCells s) (by rw[EP];exact Cs) r7 (by simp only[maxLen]at zz;omega) (growslice_fits Ω nc);have iK:=grownCap_ge w (n+s.size) cap e;have zF:grownCap w (n+s.size) cap e<=maxLen:=grownCap_le_maxLen w (n+s.size) cap e zz;refine⟨_,_,hr,⟨by simp[byteCells_length,oK],.inr ⟨w.heap.size,_,_,rfl,c7 _,heap_alloc_new w.drew _,iK,zF,?_,?_⟩⟩,⟨rfl,rfl,rfl,Ψ,fun k aa _=>heap_alloc_old w.drew _ aa⟩⟩
 ·simp only[Array.size_append,List.size_toArray,size_zeroCells,qd,fU,byteCells_length,oK];omega
 ·simp only[Array.toList_append,List.toList_toArray];rw[List.take_left' (by simp[byteCells_length,oK])]
theorem Lo(w:World)(ν:aW):∀s:List ah,cR w ν 1 (fW s) (s.map fun c=>mP .u8 c.toNat)
 |[]=>by simp[fW,cR]
 |c::s=>by have:=Lo w ν s;simp only[fW,ek,cR]at this⊢;exact⟨.int .u8 c.toNat,_,rfl,⟨by simp[aT],rfl,by intro x ad;simp[mf]at ad;subst ad;rfl⟩,this⟩
theorem kD{P:b3}{o:Oper}{a:Act}{w w':World}{v:Value}{K:Act->World->Prop}{Q:Exit->Act->World->Prop}(h:(execOp a.eval o).run P w= .ok (.value v) w')(aa:K (a.put o.dst v) w'):o.wp P a w K Q:=by unfold Oper.wp;rw[h];exact aa
theorem DQ{P:b3}{o:Oper}{a:Act}{w w':World}{K:Act->World->Prop}{Q:Exit->Act->World->Prop}(h:(execOp a.eval o).run P w= .ok .skip w')(aa:K (a.put o.dst undef) w'):o.wp P a w K Q:=by unfold Oper.wp;rw[h];exact aa
theorem DL{P:b3}{w w':World}{x:Sem Value}{v:Value}(h:x.run P w= .ok v w'):(do pure (Next.value (<-x)):Sem Next).run P w= .ok (.value v) w':=by simp[h]
theorem US{P:b3}{bu:List (Nat×dt)}(aI:e7 P bu=true){C:eI}{st:a6}{a:Act}{w:World}{ν:aW}(hr:cv C st a w ν){t el:Nat}{f g:dt}(aY:dJ bu t=some f)(aa:f.kind= .slice el)(aR:dJ bu el=some g)
  {xs:List cY} {os:List (Nat×ix)} (dS:wN 0 xs os=true) (ef:qQ g.size (xs.map (bQ st.t))) (hlen:xs.length*g.size<=16777216):
  ∃us:Array Value,(Instr.buildSlice t xs.length (os.map fun(x:Nat×ix)=>(x.1,a.eval x.2)).toArray).run P w= .ok (.slice (some ⟨w.heap.size,0,none⟩) xs.length xs.length) (w.alloc (.cells us el))/\
   cR w ν g.size (xs.map (bQ st.t)) us.toList/\us.size=xs.length*g.size:=by
 obtain⟨d,aP,e5⟩:=hD aI aY;rw[aa]at e5;obtain rfl:=qT e5;obtain⟨_,au⟩:=vA aI aR w;obtain⟨z,adw,RC,akS⟩:=LX aI aR w;have aJ:¬xs.length*g.size>2 ^ 24:=Ω
 let init:Array Value:=if xs.length*g.size=0 then(Array.range (xs.length*g.size)).map ((#[]:Array Value)[· %(#[]:Array Value).size]!)else(Array.range (xs.length*g.size)).map (z.cells[· %z.cells.size]!)
 have Q0:init.size=xs.length*g.size:=by simp only[init];split<;>simp
 obtain⟨bI,g1,g2,g3⟩:=UU (a:=a) hr xs 0 os [] init [] dS ef Ψ (by simp[cR]) rfl (by rw[Q0];simp);refine⟨bI,?_,by simpa using g2,by rw[g3,Q0]⟩;simp only[init]at g1;by_cases bK:xs.length*g.size=0
 ·rw[bP bK]at g1;rw[bK]at g1;have BR:¬(0:Nat)>2 ^ 24:=by decide
  simp only[Instr.buildSlice,e4,run_underlying aP,e8,au,if_false,fO,bK,if_true,BR,g1,newRow,run_newObj];rfl
 ·rw[bo bK]at g1;simp only[Instr.buildSlice,e4,run_underlying aP,e8,au,aJ,if_false,fO,bK,adw,g1,newRow,run_newObj];rfl
theorem CX{P:b3}{w:World}{ν:aW}{b7:j5}{t:fT}(aP:uq P b7 t){k v:al}{fj Mw:Value}(aa:aT w ν k fj)(aK:aT w ν v Mw):
  ∀(borns:List Nat) (kvs:List al) (us:List Value) (i:Nat) (r:a1 (List al)),cw w ν kvs us->kvs.length=2*borns.length->vf b7 k v kvs=some r->
  match r with
  |none=>ib P w b7 t fj (ft borns us) i none
  |some wA=> ∃j u bI e,ib P w b7 t fj (ft borns us) i (some (i+j,u))/\cw w ν wA bI/\wA.length=kvs.length/\(ft borns us)[j]? =some e/\e.key=fj/\Instr.sameBits 10000 e.key fj=true/\ft borns bI=(ft borns us).modify j (fun e=>{e with key:=fj,val:=Mw})
 |[],[],us,i,r,h,_,hm=>by simp only[vf]at hm;cases hm;simp only[cw]at h;subst h;simpa[ft]using ib.nil P w b7 t fj i
 |[],_::_,_,_,_,_,aG,_=>by simp at aG
 |b::ev,[],_,_,_,_,aG,_=>by simp at aG
 |b::ev,[_],_,_,_,_,aG,_=>by simp at aG;omega
 |b::ev,bz::v'::kvs,us,i,r,h,aG,hm=>by
  simp only[cw]at h;obtain⟨ik,AQ,rfl,I,hF,pH,rfl,J,aA⟩:=h;simp only[vf]at hm;simp only[ft];cases bA:u3 b7 k bz with
  |none=>simp[bA]at hm
  |some hT=>
   obtain⟨s1,s2⟩:=Sa aP aa I bA;simp only[bA]at hm;cases hT with
   |true=>simp only[dH]at hm;subst hm;obtain⟨rfl,AH⟩:=s2 rfl;refine⟨0,hF,ik::Mw::pH,⟨ik,hF,b⟩,ib.hit (e:=⟨ik,hF,b⟩) s1,?_,Ψ,Ψ,rfl,AH,by simp[ft]⟩;simp only[cw];exact⟨_,_,rfl,aa,_,_,rfl,aK,aA⟩
   |false=>
    simp only at hm;have bp:=fun dh dA=>CX aP aa aK ev kvs pH (i+1) dh aA (by simp at aG;omega) dA;split at hm
    ·rename_i dh dA;cases hm;obtain⟨j,u,bI,e,g1,g2,g3,g4,g5,g6,g7⟩:=bp _ dA;refine⟨j+1,u,ik::hF::bI,e,ib.miss (e:=⟨ik,hF,b⟩) s1 (by rw[show i+(j+1)=i+1+j from by omega];exact g1),?_,by simp[g3],by simpa using g4,g5,g6,by simp[ft,g7]⟩;simp only[cw];exact⟨_,_,rfl,I,_,_,rfl,J,g2⟩
    ·rename_i dA;cases hm;exact ib.miss (e:=⟨ik,hF,b⟩) s1 (bp _ dA)
    ·cases hm
theorem Il:∀(borns:List Nat) (us:List Value) (b:Nat) (k v:Value),us.length=2*borns.length->ft (borns++[b]) (us++[k,v])=ft borns us++[⟨k,v,b⟩]
 |[],us,b,k,v,h=>by have:us=[]:=n5 (by simpa using h);subst this;simp[ft]
 |fN::ev,[],b,k,v,h=>by simp at h
 |fN::ev,[_],b,k,v,h=>by simp at h;omega
 |fN::ev,bz::v'::us,b,k,v,h=>by simp only[ds,ft,Il ev us b k v (by simp at h;omega)]
theorem Ls{w:World}{ν:aW}:∀{b2 bD:List al} {vs us:List Value},cw w ν b2 vs->cw w ν bD us->cw w ν (b2++bD) (vs++us)
 |[],bD,vs,us,h,cx=>by simp only[cw]at h;subst h;simpa using cx
 |p::b2,bD,vs,us,h,cx=>by simp only[cw]at h;obtain⟨u,bI,rfl,I,J⟩:=h;simp only[ds,cw];exact⟨u,_,rfl,I,Ls J cx⟩
theorem GJ{w:World}{ν:aW}:∀{b2:List al} {vs:List Value},cw w ν b2 vs->vs.length=b2.length
 |[],vs,h=>by simp only[cw]at h;subst h;rfl
 |p::b2,vs,h=>by simp only[cw]at h;obtain⟨u,bI,rfl,_,J⟩:=h;simp[GJ J]
theorem Du{P:b3}{w:World}{r:Nat}{o o':Obj}(ao:w.heap[r]? =some o)(aJ:∀c e f,o≠ .cells c e f:=by simp):(setObj r o').run P w= .ok () {w with heap:=w.heap.setIfInBounds r o'}:=by simp only[setObj,Sem.run,ao]
def dL.makes(st:a6):dL->Bool
 | .box _ _ _| .alloc _ _ _| .bsl _ _ _ _| .bslm _ _ _ _ _| .mkmap _ _| .range _ _ _| .mks _ _ _ _ _ _=>true
 | .appm _ _ _ _ x _=>match bQ st.t x with
  | .slice _ .nil _=>true
  |_=>false
 | .app _ _ _ x _=>match bQ st.t x with
  | .slice _ .nil _=>true
  |_=>false
 |_=>false
theorem cv.forgetRow{C:eI}{st:a6}{a:Act}{w:World}{ν:aW}(hr:cv C st a w ν){k:aO}{ow:dU}(aa:look k st.e=some ow):cv C {st with e:=dd k ⟨ow.n,ow.el,ow.sz,none⟩ st.e} a w ν:=by
 have iC:∀g,(look g (dd k ⟨ow.n,ow.el,ow.sz,none⟩ st.e)).isSome->(look g st.e).isSome:=fun g aR=>by
  rw[jG]at aR;split at aR
  ·rename_i e;subst e;simp[aa]
  ·exact aR
 refine⟨⟨hr.good.alt,hr.good.box,hr.good.inj,fun g o aR=>?_,fun g eP n n' v v' bl b4 a2=>hr.good.oinj g eP n n' v v' bl (iC g b4) (iC eP a2),fun g j n v bl b4=>hr.good.obx g j n v bl (iC g b4),hr.good.one,fun bl ao=>hr.good.otr bl (ao.imp id (fun⟨g,n,v,b4,a2⟩=>⟨g,n,v,iC g b4,a2⟩))⟩,hr.fr,hr.defers,hr.size,hr.slot,hr.new,hr.ext,hr.obk⟩;simp only at aR;rw[jG]at aR;split at aR
 ·rename_i e;subst e;cases aR;obtain⟨v,us,cz,db,eo,_⟩:=hr.good.own k ow aa;exact⟨v,us,cz,db,eo,fun xs ad=>by cases ad⟩
 ·exact hr.good.own g o aR
theorem Gh{w:World}{base el sz n:Nat}{v:Value}{us:List Value}(h:w.ownsRow base el sz v n us)(aJ:0<n):∃b cap,v= .slice (some ⟨b,0,none⟩) n cap:=by
 rcases h.2 with⟨aB,aU⟩|⟨hT,cap,cur,f1,_⟩
 ·omega
 ·exact⟨_,_,f1⟩
theorem UF{w:World}{ν:aW}{sz:Nat}:∀{xs:List al} {us:List Value} {i:Nat} {q iQ:al} {fe:Value},cR w ν sz xs us->xs[i]? =some q->aT w ν iQ fe->fe.cells.size=sz->(∀c∈fe.cells.toList,c.oneCell'=true)->cR w ν sz (xs.set i iQ) (us.take (i*sz)++fe.cells.toList++us.drop (i*sz+sz))
 |[],_,_,_,_,_,_,bA,_,_,_=>by simp at bA
 |x::xs,us,0,q,iQ,fe,h,bA,hr,au,az=>by
  simp only[cR]at h;obtain⟨u,bI,rfl,⟨I,J,aA⟩,bG⟩:=h;have aG:u.cells.toList.length=sz:=by simpa using J
  simp only[List.set_cons_zero,cR];refine⟨fe,bI,?_,⟨hr,au,az⟩,bG⟩;simp[<-aG]
 |x::xs,us,i+1,q,iQ,fe,h,bA,hr,au,az=>by
  simp only[cR]at h;obtain⟨u,bI,rfl,⟨I,J,aA⟩,bG⟩:=h;have aG:u.cells.toList.length=sz:=by simpa using J
  have bp:=UF bG (by simpa using bA) hr au az;simp only[List.set_cons_succ,cR];refine⟨u,_,?_,⟨I,J,aA⟩,bp⟩;have e:(i+1)*sz+sz=u.cells.toList.length+(i*sz+sz):=by rw[aG,Nat.succ_mul];omega
  rw[Ve _ _ _ _ aG,e,<-List.drop_drop];simp
theorem ag4{w:World}{ν:aW}{q:al}{v:Value}(bA:aT w ν q v)(au:eG q=true){cs:List al}{us:List Value}(aH:cK w ν cs us){f:Nat}(aY:f+us.length<=v.cells.size)(cD:us≠[]):
  ∃v',aT w ν (rk q f cs) v'/\v'.cells.toList=v.cells.toList.take f++us++v.cells.toList.drop (f+us.length)/\v'.cells.size=v.cells.size/\∀c∈v'.cells.toList,c.oneCell'=true:=by
 have hlen:=pA aH;have j9:=vr bA au;by_cases bM:∃dV,q= .agg dV
 ·obtain⟨dV,rfl⟩:=bM;simp only[aT]at bA;obtain⟨vs,rfl,gh⟩:=bA;simp only[mf]at aY⊢;have lC:cK w ν (oV dV f cs) (vs.toList.take f++us++vs.toList.drop (f+us.length)):=by unfold oV;rw[hlen];exact yz (yz (Dp f gh) aH) (AD _ gh)
  refine⟨.agg (vs.toList.take f++us++vs.toList.drop (f+us.length)).toArray,by simp only[rk,aT];exact⟨_,rfl,by simpa using lC⟩,by simp[mf],?_,fun c nd=>?_⟩
  ·simp[mf];omega
  ·exact AE lC c (by simpa[mf]using nd)
 ·have zB:∀cs,q≠ .agg cs:=fun cs e=>bM ⟨cs,e⟩;obtain⟨I,J⟩:=Lt bA au zB;rw[J]at aY⊢;match us,cD,aH with
  |u::bI,_,aH=>
   simp at aY;obtain⟨rfl,rfl⟩:f=0/\bI=[]:=⟨Ω,List.length_eq_zero_iff.1 Ω⟩;match cs,aH,hlen with
   |[c],aH,_=>
    simp only[cK]at aH;obtain⟨me,eT,aB,⟨abU,QM⟩,_⟩:=aH;cases aB;have hu:u.cells= #[u]:=by cases u<;>first|rfl|cases QM
    have JC:rk q 0 [c]=c:=by cases q<;>first|rfl|exact absurd rfl (zB _)
    rw[JC];refine⟨u,abU,by simp[hu],by simp[hu],fun c nd=>?_⟩;rw[hu]at nd;simp at nd;subst nd;exact QM
theorem ahv{α:Type}(A us:List α)(a f sz N:Nat)(I:f+us.length<=sz)(J:a+sz<=N)(aA:N<=A.length):
  ((A.take (a+f)++us++A.drop (a+f+us.length)).toArray.toList).take N=(A.take N).take a++((((A.take N).drop a).take sz).take f++us++(((A.take N).drop a).take sz).drop (f+us.length))++(A.take N).drop (a+sz):=by
 have aB:(A.take N).take a++(((A.take N).drop a).take sz).take f=A.take (a+f):=by rw[List.take_take (i:=f),Nat.min_eq_left (show f<=sz by omega),<-List.take_add,List.take_take,Nat.min_eq_left Ω]
 have aU:(((A.take N).drop a).take sz).drop (f+us.length)++(A.take N).drop (a+sz)=(A.take N).drop (a+f+us.length):=by
  have aG:f+us.length<=(((A.take N).drop a).take sz).length:=by simp;omega
  have mY:(A.take N).drop (a+sz)=((A.take N).drop a).drop sz:=by rw[List.drop_drop]
  rw[mY,<-List.drop_append_of_le_length aG,List.take_append_drop,List.drop_drop];congr 1;omega
 have b1:(A.take N).drop (a+f+us.length)=(A.drop (a+f+us.length)).take (N-(a+f+us.length)):=by rw[List.drop_take]
 have aG:(A.take (a+f)++us).length=a+f+us.length:=by simp;omega
 simp only[iI]at*;rw[aU,b1,<-iI (List.take a _),aB];have oB:N=(A.take (a+f)++us).length+(N-(a+f+us.length)):=by rw[aG];omega
 rw[<-iI,<-iI];conv=>lhs;rw[oB,List.take_length_add_append]
theorem cv.storeRow{P:b3}{C:eI}{st:a6}{a:Act}{w:World}{ν:aW}(h:cv C st a w ν){k:aO}{n el sz:Nat}{xs:List al}(aa:look k st.e=some ⟨n,el,sz,some xs⟩){i f:Nat}{u:Value}(ad:aT w ν (.rptr sz k n i f) u){q:al}(bA:xs[i]? =some q)(au:eG q=true)
  {cs:List al} {us:List Value} (aH:cK w ν cs us) (aY:f+us.length<=(cells q).length) (cD:us≠[]):
  ∃bl off mq,u= .pointer (some ⟨bl,off,none⟩)/\(storeCells ⟨bl,off,none⟩ us).run P w= .ok () (w.setRow bl mq)/\∃ν',cv C {st with e:=dd k ⟨n,el,sz,some (xs.set i (rk q f cs))⟩ st.e} a (w.setRow bl mq) ν':=by
 simp only[aT]at ad;obtain⟨_,aE,n',fe,I,J,aA⟩:=ad;obtain⟨v,eT,cz,db,eo,dC⟩:=h.good.own k _ aa;rw[I]at cz;simp only[dH,gz]at cz;obtain⟨rfl,rfl⟩:=cz;obtain⟨bl,ao,rfl⟩:=aA rfl;obtain⟨dc,lL,sB⟩:=dC xs rfl;simp only at dc lL;obtain⟨v,eU,e3,n1⟩:=GD i lL bA;have tD:=pA (vr eU au);have ac5:(cells q).length=sz:=by rw[<-tD];simpa using e3
 have E3:f+us.length<=sz:=by rw[<-ac5];exact aY
 have hmul:i*sz+sz<=n'*sz:=by have:=Nat.mul_le_mul_right sz (show i+1<=n' from aE);rwa[Nat.succ_mul]at this
 rcases db.2 with⟨aB,aU⟩|⟨g,cap,cur,rfl,qY,Jf,x8,zF,da,JM⟩
 ·rw[aB]at ao;simp[nC]at ao
 simp only[nC,dH]at ao;subst ao;simp only at JM da x8 Jf;have r7:n'*sz<=cur.size:=by rw[da];exact Nat.mul_le_mul_right sz x8
 have eA:=run_storeCells_at P g (i*sz+f) el us 0 cur w Jf Ω (AE aH);simp only[Nat.add_zero]at eA;refine⟨g,i*sz+f,_,rfl,eA,?_⟩;generalize xR:(cur.toList.take (i*sz+f)++us++cur.toList.drop (i*sz+f+us.length)).toArray=mq;obtain⟨v',jW,gv,C6,af0⟩:=ag4 eU au aH (f:=f) (by rw[e3];exact E3) cD;have kh:=UF lL bA jW (by rw[C6,e3]) af0;have hlen:eT.length=n'*sz:=db.1;have acU:mq.toList.take (n'*sz)=eT.take (i*sz)++v'.cells.toList++eT.drop (i*sz+sz):=by rw[<-xR,gv,n1,<-JM];exact ahv cur.toList us (i*sz) f sz (n'*sz) E3 hmul (by simpa using r7)
 have abS:mq.size=cap*sz:=by rw[<-xR,<-da];simp;omega
 have akK:(xs.set i (rk q f cs)).length=n':=by simp[dc]
 obtain⟨af1,_,_⟩:=h.setRowM (w':=w.setRow g mq) aa rfl I (bl:=g) rfl (v':= .slice (some ⟨g,0,none⟩) n' cap) rfl (xs':=xs.set i (rk q f cs)) (us:=eT.take (i*sz)++v'.cells.toList++eT.drop (i*sz+sz)) (.inl ⟨by simp[dc],rfl⟩) rfl rfl rfl (fun j aD=>setRow_other w g j mq aD) (setRow_size w g mq)
  ⟨by rw[ri kh],.inr ⟨g,cap,mq,by simp[dc],o3 _,setRow_heap w g cur mq el _ Jf,by simpa[dc]using x8,zF,abS,by simpa[dc]using acU⟩⟩ kh
 exact⟨_,by simpa[dc]using af1⟩
theorem aep(z:Array Value)(n:Nat)(h:0<z.size):(madeCells z ((n+1)*z.size)).toList=z.toList++(madeCells z (n*z.size)).toList:=by
 apply List.ext_getElem?;intro j;rw[List.getElem?_append];have he:(n+1)*z.size=n*z.size+z.size:=by rw[Nat.add_mul,Nat.one_mul]
 simp only[madeCells,Array.getElem?_toList,Array.length_toList,Array.getElem?_map];by_cases aD:j<z.size
 ·rw[bP aD,Array.getElem?_range,bP Ω];simp[Nat.mod_eq_of_lt aD,aD]
 ·rw[bo aD,Array.getElem?_range,Array.getElem?_range];by_cases aa:j<n*z.size+z.size
  ·rw[bP Ω,bP Ω];simp only[oa];rw[<-Nat.mod_eq_sub_mod Ω]
  ·rw[bo Ω,bo Ω]
theorem Sw{w:World}{ν:aW}{p:al}{z:Value}(hr:aT w ν p z)(h:0<z.cells.size)(az:∀c∈z.cells.toList,c.oneCell'=true):∀n,cR w ν z.cells.size (List.replicate n p) (madeCells z.cells (n*z.cells.size)).toList
 |0=>by simp[cR,madeCells]
 |n+1=>by rw[aep _ _ h];simp only[List.replicate_succ,cR];exact⟨z,_,rfl,⟨hr,rfl,az⟩,Sw hr h az n⟩
theorem M7{P:b3}{bu:List (Nat×dt)}(aI:e7 P bu=true){C:eI}{st st':a6}{a:Act}{w:World}{ν:aW}(hr:cv C st a w ν){d el:Nat}{x y:cY}{o:Oper}(az:rl C.N bu (.apps d el x y) o=true)
  {c:Prop} (he:Bl st d el (bQ st.t x) (bQ st.t y)=some (c,st')) (aH:c) {K:Act->World->Prop} {Q:Exit->Act->World->Prop} (dk:∀c1 w' ν',cv C st' c1 w' ν'->K c1 w'):o.wp P a w K Q:=by
 obtain⟨dst,op,type,pos,after,guard⟩:=o;generalize aE:dL.apps d el x y=i at az;unfold rl at az;dsimp only at az;split at az<;>first|(cases aE;done)|(cases az;done)|skip
 rename_i o' hC t eH;cases aE;simp only[bF,dK,ea]at az;obtain⟨⟨⟨⟨⟨⟨I,J⟩,aS⟩,au⟩,bG⟩,cq⟩,dW⟩:=az;subst I;split at aS
 ·rename_i eO aY;simp only[dK]at aS;subst aS;split at au
  ·rename_i E3;split at bG
   ·rename_i g aR;simp only[bF,dK,ea]at bG;obtain⟨mE,uP⟩:=bG;have rx:=dY hr cq;have ju:=dY hr dW;have kc:∀v' w',(sX #[t,eH] type #[a.eval o',a.eval hC]).run P w= .ok v' w'->(execOp a.eval ⟨some d,.call ⟨.builtin .append,⟨[o',hC]⟩,⟨[t,eH]⟩⟩,type,pos,after,guard⟩).run P w= .ok (.value v') w':=by intro v' w' hA;simp only[execOp,resolve,invoke,builtin,e4,fO,e8,List.map_toArray,ek,mQ];rw[hA];rfl
    obtain⟨ez,j7,z,aB,aU,b1,dN,hJ,hx,mw,ou⟩:=(uf aI aR).ex;obtain⟨dV,h1,e5⟩:=hD aI aY;obtain rfl:=qT e5;obtain⟨ajX,I6,ab9⟩:=hD aI E3;obtain rfl:=vT ab9;have qd:z.cells.size=1:=by rw[ou,mE]
    have wg:ez.size=1:=by rw[b1,mE]
    unfold Bl at he;split at he
    ·rename_i sz k n s ad bB;split at he
     ·rename_i n' eO dn xs aa;split at he
      ·rename_i k0;obtain⟨rfl,rfl,rfl,rfl⟩:=k0;cases he;rw[ad]at rx;rw[bB]at ju;simp only[aT]at rx ju;obtain⟨⟨bx,tj,qA⟩,rxl,n0,me,eU,e3,n1⟩:=rx;obtain⟨rA,k7⟩:=ju;obtain⟨v0,eT,cz,db,eo,dC⟩:=hr.good.own k _ aa;rw[eU]at cz;simp only[dH,gz]at cz db;obtain⟨rfl,rfl⟩:=cz;have mG:a.eval o'=me:=n1 rfl;obtain⟨dc,lL,sB⟩:=dC xs rfl;simp only at dc lL;have eQ:(⟨s.toArray⟩:kF).size=s.length:=by simp[MH]
       have B1:byteCells ⟨s.toArray⟩=s.map fun c=>mP .u8 c.toNat:=by simp[byteCells]
       have tJ:eT.length=xs.length:=by rw[dc];simpa using db.1
       have uR:cR w ν 1 (xs++fW s) (eT++byteCells ⟨s.toArray⟩):=by rw[B1];exact AA lL (Lo w ν s)
       have eE:(fW s).length=s.length:=by simp[fW]
       have nc:(xs.length+s.length)*ez.bytes<=140737488355328:=by
        have jn:ez.bytes<=2048:=by rw[dN];exact uP
        have nJ:(xs.length+s.length)*ez.bytes<=(xs.length+s.length)*2048:=Nat.mul_le_mul_left _ jn;simp only[bs]at aH;omega
       have lB:xs.length+s.length<=maxLen:=by simp only[bs]at aH;simp only[maxLen];omega
       rw[rA,mG]at kc;have xV:∀(base:a1 Addr) (cap:Nat),me= .slice base xs.length cap->n0<=cap->cap<xs.length+s.length->(⟨some d,.call ⟨.builtin .append,⟨[o',hC]⟩,⟨[t,eH]⟩⟩,type,pos,after,guard⟩:Oper).wp P a w K Q:=by
        intro base cap hu x8 r7;obtain⟨v',w',f1,f2,f3⟩:=UR (P:=P) w t eH type eO ez z h1 I6 aB hx wg qd me xs.length eT (by rw[dc];exact db) ⟨s.toArray⟩ cap base hu (by rw[eQ];exact r7) (by rw[eQ];exact lB) (by rw[eQ];exact nc);rw[eQ]at f2;obtain⟨jW,gv⟩:=hr.newRowM (k:=k) (xs:=xs++fW s) (el:=eO) (sz:=1) (.inr ⟨_,aa,by simp[eE];omega⟩) f3 (by rw[fU,eE];exact f2) uR (by rw[fU,eE];exact aH) (n':=st.n) (o':=st.o)
         (fun j aD=>⟨aD,fun e=>by subst e;have:=(hr.new _ aD).2.1;rw[eU]at this;cases this⟩)
        refine kD (kc _ _ f1) (dk _ _ (ν.withOwn k (xs++fW s).length v') ?_);have:=jW.put (d:=some d) (by simpa[hv]using J) (gv (by rw[fU,eE];exact Gh f2 Ω));simpa[fk,eE]using this
       rcases db.2 with⟨jX,vl⟩|⟨bl,cap,cur,jX,vl,vm,Dd,De,Gn,As⟩
       ·rw[<-mG,qA]at jX;cases jX
       ·have h6:me.ownBlock=some bl:=by rw[jX];rfl
        by_cases nS:xs.length+s.length<=cap
        ·have f1:=ag6 (P:=P) w t eH type eO ez h1 I6 aB wg bl xs.length cap cur vm ⟨s.toArray⟩ (by rw[eQ];exact nS) (by rw[eQ];omega);rw[eQ]at f1;generalize CC:(cur.toList.take xs.length++byteCells ⟨s.toArray⟩++cur.toList.drop (xs.length+s.length)).toArray=ld at f1;have lC:(w.setRow bl ld).heap[bl]? =some (.cells ld eO (0,0)):=setRow_heap w bl cur ld eO _ vm;have wk:(byteCells ⟨s.toArray⟩).length=s.length:=by rw[byteCells_length,eQ]
         have aG:(eT++byteCells ⟨s.toArray⟩).length=(xs++fW s).length*1:=by rw[fU,tJ,wk,fU,eE,Nat.mul_one]
         have bG:cur.toList.take xs.length=eT:=by rw[dc];simpa using As
         have gK:ld.size=cap*1:=by rw[<-CC];simp only[List.size_toArray,fU,n7,hG,Array.length_toList,wk];omega
         have nT:ld.toList.take ((xs++fW s).length*1)=eT++byteCells ⟨s.toArray⟩:=by rw[<-CC,bG,<-aG];exact List.take_left
         obtain⟨jW,_,gv⟩:=hr.setRowM (w':=w.setRow bl ld) aa rfl eU h6 (v':= .slice (some ⟨bl,0,none⟩) (xs.length+s.length) cap) rfl (xs':=xs++fW s) (us:=eT++byteCells ⟨s.toArray⟩)
          (by
           by_cases bK:s=[]
           ·subst bK;exact .inl ⟨by simp[fW,dc],by rw[jX];simp[dc]⟩
           ·exact .inr (by have:=sY.2 bK;simp[eE];omega)) rfl rfl rfl (fun j aD=>setRow_other w bl j ld aD) (setRow_size w bl ld)
          ⟨aG,.inr ⟨bl,cap,ld,by simp[eE],o3 _,lC,by simpa[eE]using nS,De,gK,nT⟩⟩ uR
         replace gv:=gv (by simpa[eE]using aH);refine kD (v:= .slice (some ⟨bl,0,none⟩) (xs.length+s.length) cap) (w':=w.setRow bl ld) (kc _ _ ?_) (dk _ _ (ν.withOwn k (xs++fW s).length (.slice (some ⟨bl,0,none⟩) (xs.length+s.length) cap)) ?_)
         ·rw[jX,<-dc];exact f1
         ·have:=jW.put (d:=some d) (by simpa[hv]using J) gv;simpa[fk,eE]using this
        ·exact xV _ cap (by rw[jX,<-dc]) Dd Ω
      ·cases he
     ·cases he
    ·rename_i sz xs s ad bB;split at he
     ·rename_i ef;obtain rfl:=ef;cases he;obtain⟨jo,hj,kN⟩:=aH;rw[ad]at rx;rw[bB]at ju;simp only[aT]at rx ju;have mG:=rx.2.1 trivial;obtain⟨rA,k7⟩:=ju;have eQ:(⟨s.toArray⟩:kF).size=s.length:=by simp[MH]
      have B1:byteCells ⟨s.toArray⟩=s.map fun c=>mP .u8 c.toNat:=by simp[byteCells]
      have uR:cR w ν 1 (fW s) (byteCells ⟨s.toArray⟩):=by rw[B1];exact Lo w ν s
      have eE:(fW s).length=s.length:=by simp[fW]
      have gW:0<s.length:=sY.2 hj;have nc:(0+s.length)*ez.bytes<=140737488355328:=by
       have jn:ez.bytes<=2048:=by rw[dN];exact uP
       have nJ:(0+s.length)*ez.bytes<=(0+s.length)*2048:=Nat.mul_le_mul_left _ jn;simp only[bs]at kN;omega
      have lB:0+s.length<=maxLen:=by simp only[bs]at kN;simp only[maxLen];omega
      rw[rA,mG]at kc;obtain⟨v',w',f1,f2,f3⟩:=UR (P:=P) w t eH type el ez z h1 I6 aB hx wg qd (.slice none 0 0) 0 [] ⟨rfl,.inl ⟨rfl,rfl⟩⟩ ⟨s.toArray⟩ 0 none rfl (by rw[eQ];omega) (by rw[eQ];exact lB) (by rw[eQ];exact nc);rw[eQ,n9,eW]at f2;have l3:fresh st.n st.o (.obj 862):=⟨trivial,jo⟩;obtain⟨jW,gv⟩:=hr.newRowM (k:= .obj 862) (xs:=fW s) (el:=el) (sz:=1) (.inl (hr.new _ l3)) f3 (by rw[eE];exact f2) uR (by rw[eE];exact kN) (n':=st.n) (o':= .obj 862::st.o)
       (fun j aD=>⟨⟨aD.1,fun h=>aD.2 (List.mem_cons_of_mem _ h)⟩,fun e=>by subst e;exact aD.2 Ψ⟩)
      refine kD (kc _ _ f1) (dk _ _ (ν.withOwn (.obj 862) (fW s).length v') ?_);have:=jW.put (d:=some d) (by simpa[hv]using J) (gv (by rw[eE];exact Gh f2 gW));simpa[fk,eE]using this
     ·cases he
    ·cases he
   ·cases bG
  ·cases au
 ·cases aS
theorem iS{P:b3}{bu:List (Nat×dt)}(aI:e7 P bu=true){C:eI}{st st':a6}{a:Act}{w:World}{ν:aW}(hr:cv C st a w ν){i:dL}{o:Oper}(az:rl C.N bu i o=true)
  {κ:aO} {n':Nat} {o₁:List aO} (uS:i.makes st=true->fresh st.n st.o κ) (hM:i.makes st=true->∀j,fresh n' o₁ j->fresh st.n st.o j/\j≠κ) {c:Prop} (he:ei κ n' o₁ st i=some (c,st')) (aH:c) {K:Act->World->Prop} {Q:Exit->Act->World->Prop} (dk:∀c1 w' ν',cv C st' c1 w' ν'->K c1 w') (hB:i.bok κ:=by first|trivial|(intro h;cases h)):o.wp P a w K Q:=by
 obtain⟨dst,op,type,pos,after,guard⟩:=o;unfold rl at az;dsimp only at az;split at az
 ·rename_i d key t;simp only[bF,dK,ea]at az;obtain⟨⟨rfl,J⟩,_⟩:=az;simp only[ei]at he;cases he;obtain⟨g1,g2⟩:=hr.newBox (hr.new _ (uS rfl)) (hM rfl) (cs:=[.hdm 0 []]) (us:= #[]) ⟨0,fun e=>absurd e hB⟩ (by simp only[h9];exact⟨by simp[cw],⟨rfl,Ψ,Ψ⟩⟩);refine kD (v:= .map (some w.heap.size)) (w':=w.alloc (.map #[] 0)) ?_ (dk _ _ _ (g1.put (d:=some d) (by simpa[hv]using J) (p:= .gmap κ) ?_))
  ·simp only[execOp,Instr.makeMap,Option.map_none,e4,run_newObj,e8,fO];rfl
  ·simp[aT,aW.withBox]
 ·rename_i b7 x k v t mb kz oP;simp only[bF,dK]at az;obtain⟨⟨⟨⟨rfl,I⟩,J⟩,aA⟩,aS⟩:=az;have rx:=dY hr J;have vu:=dY hr aA;have yG:=dY hr aS;split at I
  ·rename_i sz kY ec pc z aY;obtain⟨gd,hu,e5⟩:=hD aI aY;have fI:gd= .map ec pc:=by cases gd<;>simp[lv]at e5;obtain⟨rfl,rfl⟩:=e5;rfl
   subst fI;have l1:=J6 aI I;simp only[ei]at he;split at he
   ·rename_i m ad;rw[ad]at rx;simp only[aT]at rx;obtain⟨bl,ck,cr⟩:=rx;split at he
    ·rename_i cs da;split at he
     ·rename_i cs' hm;cases he;obtain⟨iy,us,el,cz,db,eo,dC,dc⟩:=hr.good.box m cs da;rw[ck]at cz;cases cz;unfold ra at hm;split at hm
      ·rename_i clock borns kvs;split at hm
       ·cases hm
       rename_i kO;simp only[iP]at dC;simp only[h9]at dc;have kq:=vw (P:=P) dC;have pf:=Lx (P:=P) (w:=w) l1 false vu (by simpa using kO);have bY:bl<w.heap.size:=(Array.getElem?_eq_some_iff.1 dC).1;have iZ:∀(o':Obj) (bI:Array Value) (dV:List al),(Instr.mapUpdate t (a.eval mb) (a.eval kz) (a.eval oP)).run P w= .ok () {w with heap:=w.heap.setIfInBounds bl o'}->iP dV bI el.1=o'->h9 w ν dV bI.toList->some dV=some cs'->
         (⟨none,.mapUpdate t mb kz oP,type,pos,after,guard⟩:Oper).wp P a w K Q:=by
        intro o' bI dV hA Cl kh h1;cases h1;refine DQ (w':={w with heap:=w.heap.setIfInBounds bl o'}) ?_ (dk _ _ _ (hr.setBox (w':={w with heap:=w.heap.setIfInBounds bl o'}) da ck (us:=bI) (el:=el) rfl rfl rfl (fun j aD=>?_) Ψ ?_ kh).1)
        ·simp only[execOp,hA,e4,e8,fO]
        ·exact Array.getElem?_setIfInBounds_ne (Ne.symm aD)
        ·rw[Cl];simp[bY]
       split at hm
       ·rename_i wA x5;obtain⟨j,u,bI,e,f1,f2,f3,f4,f5,f6,f7⟩:=CX l1 vu yG borns kvs us.toList 0 _ dc.1 dc.2.len x5;refine iZ (.map (ft borns bI).toArray clock) bI.toArray (.hdm clock borns::wA) ?_ (by simp[iP]) (by simp only[h9];exact⟨by simpa using f2,⟨by rw[f3];exact dc.2.len,dc.2.inc,dc.2.lt⟩⟩) hm;have JI:(Instr.keyThatStays (((ft borns us.toList).toArray[j]?.map (·.key)).getD (a.eval kz)) (a.eval kz)).run P w= .ok (a.eval kz) w:=by
         have:((ft borns us.toList).toArray[j]?.map (·.key)).getD (a.eval kz)=e.key:=by simp[f4]
         rw[this];simp[Instr.keyThatStays,f6]
        simp only[n9]at f1;simp only[Instr.mapUpdate,e4,run_underlying hu,e8,cr,kq,pf,f1.run l1,fO,JI,Du dC];rw[f7];simp
       ·rename_i x5;have f1:=CX l1 vu yG borns kvs us.toList 0 _ dc.1 dc.2.len x5;simp only at f1;have q5:us.toList.length=2*borns.length:=by rw[GJ dc.1,dc.2.len]
        refine iZ (.map ((ft borns us.toList).toArray.push ⟨a.eval kz,a.eval oP,clock⟩) (clock+1)) (us.toList++[a.eval kz,a.eval oP]).toArray (.hdm (clock+1) (borns++[clock])::(kvs++[bQ st.t k,bQ st.t v])) ?_ (by simp only[iP,Il borns us.toList clock _ _ q5];simp) ?_ hm
        ·simp only[Instr.mapUpdate,e4,run_underlying hu,e8,cr,kq,pf,f1.run l1,fO,Du dC]
        ·simp only[h9];refine⟨Ls dc.1 (by simp only[cw];exact⟨_,_,rfl,vu,_,_,rfl,yG,rfl⟩),⟨by simp[dc.2.len];omega,?_,?_⟩⟩
         ·rw[List.pairwise_append];exact⟨dc.2.inc,Ψ,fun x ad y bB=>by simp at bB;subst bB;exact dc.2.lt x ad⟩
         ·intro b ao;rcases fM.1 ao with ao|ao
          ·have:=dc.2.lt b ao;omega
          ·simp at ao;omega
       ·cases hm
      ·cases hm
     ·cases he
    ·cases he
   ·cases he
  ·cases I
 ·rename_i b7 x k v t mb kz oP;simp only[bF,dK]at az;obtain⟨⟨⟨⟨rfl,I⟩,J⟩,aA⟩,aS⟩:=az;have rx:=dY hr J;have vu:=dY hr aA;have yG:=dY hr aS;split at I
  ·rename_i sz kY ec pc z aY;obtain⟨gd,hu,e5⟩:=hD aI aY;have fI:gd= .map ec pc:=by cases gd<;>simp[lv]at e5;obtain⟨rfl,rfl⟩:=e5;rfl
   subst fI;have l1:=J6 aI I;simp only[ei]at he;split at he
   ·rename_i m ad;rw[ad]at rx;simp only[aT]at rx;obtain⟨bl,ck,cr⟩:=rx;split at he
    ·rename_i cs da;split at he
     ·rename_i cs' hm;cases he;obtain⟨iy,us,el,cz,db,eo,dC,dc⟩:=hr.good.box m cs da;rw[ck]at cz;cases cz;unfold ra at hm;split at hm
      ·rename_i clock borns kvs;split at hm
       ·cases hm
       rename_i kO;simp only[iP]at dC;simp only[h9]at dc;have kq:=vw (P:=P) dC;have pf:=Lx (P:=P) (w:=w) l1 false vu (by simpa using kO);have bY:bl<w.heap.size:=(Array.getElem?_eq_some_iff.1 dC).1;have iZ:∀(o':Obj) (bI:Array Value) (dV:List al),(Instr.mapUpdate t (a.eval mb) (a.eval kz) (a.eval oP)).run P w= .ok () {w with heap:=w.heap.setIfInBounds bl o'}->iP dV bI el.1=o'->h9 w ν dV bI.toList->some dV=some cs'->
         (⟨none,.mapUpdate t mb kz oP,type,pos,after,guard⟩:Oper).wp P a w K Q:=by
        intro o' bI dV hA Cl kh h1;cases h1;refine DQ (w':={w with heap:=w.heap.setIfInBounds bl o'}) ?_ (dk _ _ _ (hr.setBox (w':={w with heap:=w.heap.setIfInBounds bl o'}) da ck (us:=bI) (el:=el) rfl rfl rfl (fun j aD=>?_) Ψ ?_ kh).1)
        ·simp only[execOp,hA,e4,e8,fO]
        ·exact Array.getElem?_setIfInBounds_ne (Ne.symm aD)
        ·rw[Cl];simp[bY]
       split at hm
       ·rename_i wA x5;obtain⟨j,u,bI,e,f1,f2,f3,f4,f5,f6,f7⟩:=CX l1 vu yG borns kvs us.toList 0 _ dc.1 dc.2.len x5;refine iZ (.map (ft borns bI).toArray clock) bI.toArray (.hdm clock borns::wA) ?_ (by simp[iP]) (by simp only[h9];exact⟨by simpa using f2,⟨by rw[f3];exact dc.2.len,dc.2.inc,dc.2.lt⟩⟩) hm;have JI:(Instr.keyThatStays (((ft borns us.toList).toArray[j]?.map (·.key)).getD (a.eval kz)) (a.eval kz)).run P w= .ok (a.eval kz) w:=by
         have:((ft borns us.toList).toArray[j]?.map (·.key)).getD (a.eval kz)=e.key:=by simp[f4]
         rw[this];simp[Instr.keyThatStays,f6]
        simp only[n9]at f1;simp only[Instr.mapUpdate,e4,run_underlying hu,e8,cr,kq,pf,f1.run l1,fO,JI,Du dC];rw[f7];simp
       ·rename_i x5;have f1:=CX l1 vu yG borns kvs us.toList 0 _ dc.1 dc.2.len x5;simp only at f1;have q5:us.toList.length=2*borns.length:=by rw[GJ dc.1,dc.2.len]
        refine iZ (.map ((ft borns us.toList).toArray.push ⟨a.eval kz,a.eval oP,clock⟩) (clock+1)) (us.toList++[a.eval kz,a.eval oP]).toArray (.hdm (clock+1) (borns++[clock])::(kvs++[bQ st.t k,bQ st.t v])) ?_ (by simp only[iP,Il borns us.toList clock _ _ q5];simp) ?_ hm
        ·simp only[Instr.mapUpdate,e4,run_underlying hu,e8,cr,kq,pf,f1.run l1,fO,Du dC]
        ·simp only[h9];refine⟨Ls dc.1 (by simp only[cw];exact⟨_,_,rfl,vu,_,_,rfl,yG,rfl⟩),⟨by simp[dc.2.len];omega,?_,?_⟩⟩
         ·rw[List.pairwise_append];exact⟨dc.2.inc,Ψ,fun x ad y bB=>by simp at bB;subst bB;exact dc.2.lt x ad⟩
         ·intro b ao;rcases fM.1 ao with ao|ao
          ·have:=dc.2.lt b ao;omega
          ·simp at ao;omega
       ·cases hm
      ·cases hm
     ·cases he
    ·cases he
   ·cases he
  ·cases I
 ·rename_i d key x t mb;simp only[bF,dK,ea]at az;obtain⟨⟨⟨⟨rfl,J⟩,I⟩,aA⟩,_⟩:=az;have rx:=dY hr aA;split at I
  ·rename_i sz kY ec pc z aY;obtain⟨gd,hu,e5⟩:=hD aI aY;have fI:gd= .map ec pc:=by cases gd<;>simp[lv]at e5;obtain⟨rfl,rfl⟩:=e5;rfl
   subst fI;simp only[ei]at he;split at he
   ·rename_i m ad;rw[ad]at rx;have ag9:=rx;simp only[aT]at rx;obtain⟨bl,ck,cr⟩:=rx;split at he
    ·rename_i cs da;split at he
     ·rename_i cs' hm;cases he;obtain⟨iy,us,el,cz,db,eo,dC,dc⟩:=hr.good.box m cs da;rw[ck]at cz;cases cz;unfold Dj at hm;split at hm
      ·rename_i clock borns kvs;cases hm;simp only[iP]at dC;have kq:=vw (P:=P) dC;obtain⟨g1,g2⟩:=hr.newBox (hr.new _ (uS rfl)) (hM rfl) (cs:=[.hdi clock [] clock,.gmap m]) (us:= #[a.eval mb]) ⟨0,fun e=>absurd e hB⟩ (by simp only[h9,cw];exact⟨_,_,rfl,ag9,rfl⟩);have Cl:iP [.hdi clock [] clock,.gmap m] #[a.eval mb] 0= .mapIter (some bl) clock #[] clock:=by simp[iP,cr]
       rw[Cl]at g1 g2;refine kD (v:= .pointer (some ⟨w.heap.size,0,none⟩)) (w':=w.alloc (.mapIter (some bl) clock #[] clock)) ?_ (dk _ _ _ (g1.put (d:=some d) (by simpa[hv]using J) (p:= .ptr κ 0) g2))
       ·simp only[execOp];refine DL ?_;simp only[Instr.range,e4,run_underlying hu,e8,cr,kq,fO,run_newObj];rfl
      ·cases hm
     ·cases he
    ·cases he
   ·cases he
  ·cases I
 ·rename_i d amI;simp only[bF,dK,ea]at az;obtain⟨⟨I,J⟩,aA⟩:=az;subst I;simp only[ei]at he;split at he
  ·rename_i iA p aK;cases he;obtain⟨v,g1,g2⟩:=ahV (o:=⟨some d,op,type,pos,after,guard⟩) aI hr aA aK aH;refine kD g1 (dk _ _ ν ?_);exact hr.put (d:=some d) (by simpa[hv]using J) g2
  ·cases he
 ·rename_i d key x el o';simp only[bF,dK,ea]at az;obtain⟨⟨⟨I,J⟩,aA⟩,k8⟩:=az;subst I;simp only[ei]at he;cases he;have ad:=dY hr aA;have l2:=vr ad aH;obtain⟨g1,g2⟩:=hr.newBox (hr.new _ (uS rfl)) (hM rfl) ⟨el,fun e=>by have:=hB e;subst this;simpa using k8⟩ (by rw[pw (yA l2)];exact l2);rw[qn (yA l2)]at g1 g2;refine kD (v:= .pointer (some ⟨w.heap.size,0,none⟩)) (w':=w.alloc (.cells (a.eval o').cells el)) ?_ (dk _ _ _ (g1.put (d:=some d) (by simpa[hv]using J) (p:= .ptr κ 0) ?_))
  ·simp only[execOp,Instr.box,newVar,newRow,e4,run_newObj,e8,fO];rfl
  ·simpa only[aT]using g2
 ·rename_i d key z el;simp only[bF,dK,ea]at az;obtain⟨⟨⟨I,J⟩,aA⟩,k8⟩:=az;subst I;simp only[ei]at he;cases he;split at aA
  ·rename_i f aY;have cp:=MF aA;obtain⟨a8,DR,z2,z3⟩:=LX aI aY w;rw[<-cp]at z2;obtain⟨_,l2⟩:=ME w ν z2;obtain⟨g1,g2⟩:=hr.newBox (hr.new _ (uS rfl)) (hM rfl) ⟨el,fun e=>by have:=hB e;subst this;simpa using k8⟩ (by rw[pw (yA l2)];exact l2);rw[qn (yA l2)]at g1 g2;refine kD (v:= .pointer (some ⟨w.heap.size,0,none⟩)) (w':=w.alloc (.cells a8.cells el)) ?_ (dk _ _ _ (g1.put (d:=some d) (by simpa[hv]using J) (p:= .ptr κ 0) ?_))
   ·simp only[execOp,Instr.alloc,newVar,newRow,e4,DR,run_newObj,e8,fO];rfl
   ·simpa only[aT]using g2
  ·cases aA
 ·rename_i sz x y t o' hC;simp only[bF,dK]at az;obtain⟨⟨⟨I,J⟩,aA⟩,aS⟩:=az;subst I;split at J
  ·rename_i f aY;simp only[dK]at J;simp only[ei]at he;split at he
   ·rename_i k off ad;split at he
    ·rename_i cs da;cases he;obtain⟨c0,c8,c2,c3⟩:=aH;have rx:=dY hr aA;rw[ad]at rx;simp only[aT]at rx;obtain⟨bl,ck,cr⟩:=rx;have ju:=dY hr aS;have vp:=vr ju c8;have sG:=pA vp;obtain⟨iy,us,el,cz,db,eo,dC,dc⟩:=hr.good.box k cs da;rw[ck]at cz;cases cz;rw[qn c0]at dC;rw[pw c0]at dc;have a7:=pA dc;obtain⟨_,ef⟩:=vA aI aY w;have pk:(a.eval hC).cells.size=sz:=by rw[c2]at sG;simpa using sG
     have eA:=run_storeCells_at (P:=P) bl off el.1 (a.eval hC).cells.toList 0 us w dC (by simp at a7⊢;omega) (AE vp);simp only[Nat.add_zero]at eA;refine DQ (w':=w.setRow bl (us.toList.take off++(a.eval hC).cells.toList++us.toList.drop (off+(a.eval hC).cells.toList.length)).toArray) ?_ (dk _ _ _ (hr.storeBox da ck c0 ?_))
     ·simp only[execOp,Instr.storeAt,cr,Instr.sureAddr,storeVar,e4,fO,e8,ef,pk,J,ne_eq,not_true_eq_false,if_false,eA]
     ·simp only[oV];rw[sG];exact yz (yz (Dp off dc) vp) (AD _ dc)
    ·cases he
   ·rename_i ad;generalize Jx:bQ st.t x=px at he;unfold rq at he;split at he
    ·rename_i dn k n i xG;split at he
     ·rename_i n' el ia xs aa;split at he
      ·rename_i zM;obtain⟨rfl,rfl⟩:=zM;split at he
       ·rename_i q bA;cases he;obtain⟨c0,c8,c2,c3,c4⟩:=aH;have rx:=dY hr aA;rw[Jx]at rx;have ju:=dY hr aS;have vp:=vr ju c8;have sG:=pA vp;obtain⟨_,ef⟩:=vA aI aY w;have pk:(a.eval hC).cells.size=sz:=by rw[c2]at sG;simpa using sG
        obtain⟨bl,off,mq,Cn,eA,ν',p7⟩:=hr.storeRow (P:=P) aa rx bA c0 vp (by simpa[pk]using c3) (fun e=>by have:=dZ List.length e;simp[pk]at this;omega);refine DQ (w':=w.setRow bl mq) ?_ (dk _ _ _ p7);simp only[execOp,Instr.storeAt,Cn,Instr.sureAddr,storeVar,e4,fO,e8,ef,pk,J,ne_eq,not_true_eq_false,if_false,eA]
       ·cases he
      ·cases he
     ·cases he
    ·cases he
  ·cases J
 ·rename_i d sz el xs t len parts;simp only[bF,dK,ea]at az;obtain⟨⟨⟨⟨⟨⟨I,J⟩,aA⟩,aS⟩,bG⟩,cq⟩,dW⟩:=az;subst I;subst bG;split at aA
  ·rename_i eO aY;simp only[dK]at aA;subst aA;split at aS
   ·rename_i g aR;simp only[bF,dK,ea]at aS;obtain⟨rfl,gW⟩:=aS;simp only[ei]at he;cases he;obtain⟨us,g1,g2,g3⟩:=US aI hr aY rfl aR dW aH cq;have kt:(w.alloc (.cells us el)).ownsRow w.heap.size el g.size (.slice (some ⟨w.heap.size,0,none⟩) xs.length xs.length) (xs.map (bQ st.t)).length us.toList:=by
     refine⟨by simp[g3],.inr ⟨w.heap.size,xs.length,us,Ψ,c7 _,heap_alloc_new w _,Ψ,?_,g3,?_⟩⟩
     ·simp only[maxLen];have:xs.length<=xs.length*g.size:=Nat.le_mul_of_pos_right _ gW;omega
     ·rw[rH];simp[g3]
    obtain⟨eU,e3⟩:=hr.newRow (k:=κ) (xs:=xs.map (bQ st.t)) (.inl (hr.new _ (uS rfl))) (World.grownBy_alloc w _ none) kt g2
     (by have:xs.length<=xs.length*g.size:=Nat.le_mul_of_pos_right _ gW;simp only[bs,pR];omega) (hM rfl)
    simp only[pR]at eU e3;refine kD (v:= .slice (some ⟨w.heap.size,0,none⟩) xs.length xs.length) (w':=w.alloc (.cells us el)) ?_ (dk _ _ _ (eU.put (d:=some d) (by simpa[hv]using J) (p:= .slice g.size (.own κ) (xs.map (bQ st.t))) e3));have bn:(parts.map fun(x:Nat×ix)=>(x.1,a.eval x.2))=(parts.toList.map fun(x:Nat×ix)=>(x.1,a.eval x.2)).toArray:=by apply Array.ext';simp
    simp only[execOp];refine DL ?_;rw[<-g1];congr 2
   ·cases aS
  ·cases aA
 ·rename_i d sz el x y o' hC t eH;simp only[bF,dK,ea]at az;obtain⟨⟨⟨⟨⟨⟨I,J⟩,aA⟩,aS⟩,bG⟩,cq⟩,dW⟩:=az;subst I;subst aA;split at aS
  ·rename_i eO aY;simp only[dK]at aS;subst aS;split at bG
   ·rename_i g aR;simp only[bF,dK,ea]at bG;obtain⟨⟨rfl,gW⟩,uP⟩:=bG;have rx:=dY hr cq;have ju:=dY hr dW;have kc:∀v' w',(sX #[t,t] type #[a.eval o',a.eval hC]).run P w= .ok v' w'->(execOp a.eval ⟨some d,.call ⟨.builtin .append,⟨[o',hC]⟩,⟨[t,t]⟩⟩,type,pos,after,guard⟩).run P w= .ok (.value v') w':=by intro v' w' hA;simp only[execOp,resolve,invoke,builtin,e4,fO,e8,List.map_toArray,ek,mQ];rw[hA];rfl
    obtain⟨ez,j7,z,aB,aU,b1,dN,hJ,hx,mw,ou⟩:=(uf aI aR).ex;obtain⟨dV,h1,e5⟩:=hD aI aY;obtain rfl:=qT e5;simp only[ei]at he;split at he
    ·rename_i dn tag xs ia gT ys ad bB;split at he
     ·rename_i eQ;obtain⟨rfl,eQ⟩:=eQ;subst eQ;rw[ad]at rx;rw[bB]at ju;simp only[aT]at rx ju;obtain⟨⟨ax,tj,qA,cx1,⟨O1,O2⟩,cx4⟩,rxn,rxo,rxt⟩:=rx;obtain⟨⟨ay,lu,rA,cy1,⟨O3,O4⟩,cy4⟩,_⟩:=ju;split at he
      ·rename_i k;split at he
       ·rename_i ow aa;cases he;obtain⟨c8,c2,c3,c4⟩:=aH;subst c2;obtain⟨n0,me,eU,e3,n1⟩:=rxo k rfl;obtain⟨v0,eT,cz,db,eo,_⟩:=hr.good.own k ow aa;rw[eU]at cz;simp only[dH,gz]at cz;obtain⟨rfl,rfl⟩:=cz;have mG:a.eval o'=me:=n1 c8.symm;by_cases h7:ys=[]
        ·subst h7;rw[rA,qA]at kc;have hA:=GN (P:=P) (w:=w) (ty:=type) h1 aB ax xs.length tj cx1 ay lu;refine kD (kc _ _ (by simpa using hA)) (dk _ _ ν ?_);have eA:{st with t:=put d (.slice ow.sz (.own k) (xs++[])) st.t,e:=dd k ⟨xs.length+([]:List al).length,ow.el,ow.sz,none⟩ st.e}=({st with e:=dd k ⟨ow.n,ow.el,ow.sz,none⟩ st.e,t:=put d (.slice ow.sz (.own k) xs) st.t}:a6):=by simp[c8]
         rw[<-c3,eA];have l5:=hr.forgetRow aa;refine l5.put (d:=some d) (by simpa[hv]using J) (p:= .slice ow.sz (.own k) xs) ?_;simp only[aT];rw[<-c3]at cx4;exact⟨⟨ax,tj,rfl,cx1,⟨O1,O2⟩,cx4⟩,fun e=>(by cases e),(fun g e=>by cases e;exact⟨_,_,eU,e3,fun e=>by rw[<-qA];exact n1 e⟩),fun _ _ e=>(by cases e),fun _ e=>(by cases e)⟩
        ·have hyp:0<ys.length:=by cases ys<;>simp at h7⊢
         rcases cy4 with cy4|⟨kY,nu,gY,rfl,ym,mr⟩
         ·exact absurd cy4 h7
         ·have js:=ri mr;have sg:∀j u,gY[j]? =some u->w.cell? ((⟨kY,nu,none⟩:Addr).add j)=some u:=fun j u aD=>by rw[oh];exact(va ym aD).2
          have nc:(xs.length+ys.length)*ez.bytes<=140737488355328:=by
           have jn:ez.bytes<=2048:=by rw[dN];exact uP
           have nJ:(xs.length+ys.length)*ez.bytes<=(xs.length+ys.length)*2048:=Nat.mul_le_mul_left _ jn;simp only[bs]at c4;omega
          have lB:xs.length+ys.length<=maxLen:=by simp only[bs]at c4;simp only[maxLen];omega
          rw[rA]at kc;have tJ:eT.length=ow.n*ow.sz:=db.1;have qd:z.cells.size=ez.size:=by rw[ou,b1]
          have xV:(∀cur,dD->cur=(0:Nat))->(∃v' w',(sX #[t,t] type #[a.eval o',.slice (some ⟨kY,nu,none⟩) ys.length lu]).run P w= .ok v' w'/\w'.ownsRow w.heap.size ow.el ez.size v' (xs.length+ys.length) (eT++gY)/\w.grownBy w' none/\cR w ν ez.size xs eT)->
            (⟨some d,.call ⟨.builtin .append,⟨[o',hC]⟩,⟨[t,t]⟩⟩,type,pos,after,guard⟩:Oper).wp P a w K Q:=by
           intro _ bX;obtain⟨v',w',f1,f2,f3,f4⟩:=bX;have uR:cR w ν ez.size (xs++ys) (eT++gY):=AA f4 (by rw[b1];exact mr);obtain⟨jW,gv⟩:=hr.newRow (k:=k) (xs:=xs++ys) (.inr ⟨ow,aa,by rw[c8];simp;omega⟩) f3 (by simpa using f2) uR (by simpa using c4) (n':=st.n) (o':=st.o)
            (fun j aD=>⟨aD,fun e=>by subst e;have:=(hr.new _ aD).2.1;rw[eU]at this;cases this⟩)
           refine kD (kc _ _ f1) (dk _ _ ((ν.withOwn k (xs++ys).length v').withRowOf k v' (xs++ys).length ((xs++ys).length*ez.size)) ?_);have:=jW.put (d:=some d) (by simpa[hv]using J) gv;simpa[b1,fk]using this
          rcases db.2 with⟨jX,vl⟩|⟨bl,cap,cur,jX,vl,vm,Dd,De,Gn,As⟩
          ·
           have q7:xs=[]:=n5 Ω;have Cw:eT=[]:=n5 (by rw[tJ,vl];simp);subst q7;subst Cw;refine xV (fun _ h=>h.elim) ?_;obtain⟨v',w',f1,f2,f3,_⟩:=run_append_own (P:=P) w w.heap.size t type ow.el ez z ez.size ez.bytes h1 aB hx rfl rfl qd (by rw[b1];exact gW) (.slice none 0 0) 0 [] (World.ownsRow_nil w _ _ _)
            ⟨kY,nu,none⟩ ys.length lu gY (by rw[js,b1]) sg (yy mr) (by simpa using lB) (by simpa using nc) (c7 _)
           refine⟨v',w',by rw[mG,jX];exact f1,by simpa using f2,by simpa[nC]using f3,by simp[cR]⟩
          ·have acI:kx w ν.A bl 0 eT/\cR w ν ez.size xs eT/\True:=by
            rw[mG,jX]at qA;rcases cx4 with cx4|⟨hT,alS,Ma,f1,f2,f3⟩
            ·subst cx4;have:eT=[]:=n5 (by rw[tJ,c8];simp);subst this;exact⟨trivial,by simp[cR],trivial⟩
            ·subst f1;injection qA with vx1 vx2 vx3;injection vx1 with vx1;injection vx1 with vx1 vx4;subst vx1;subst vx4;have heq:Ma=eT:=by
              apply List.ext_getElem?;intro j;have q5:Ma.length=eT.length:=by rw[ri f3,tJ,c8,c3]
              by_cases aD:j<Ma.length
              ·have I:=(va f2 (cS aD)).2;rw[n9]at I;have J:=db.cells (g:=bl) (by rw[jX];rfl) j eT[j] (cS Ω);rw[oh,n9,I]at J;rw[cS aD,cS Ω];exact J
              ·rw[List.getElem?_eq_none Ω,List.getElem?_eq_none Ω]
             subst heq;exact⟨f2,by rw[b1];exact f3,trivial⟩
           obtain⟨jT,hz,_⟩:=acI;by_cases nS:xs.length+ys.length<=cap
           ·have akz:cur.size=cap*ow.sz:=Gn;have hmul:(xs.length+ys.length)*ow.sz<=cap*ow.sz:=Nat.mul_le_mul_right _ nS;rw[Nat.add_mul]at hmul;have f1:=run_append_room (P:=P) w t type ow.el ez h1 aB bl xs.length cap cur vm ⟨kY,nu,none⟩ ys.length lu gY (by rw[js,b1]) sg (yy mr) nS (by rw[js,b1,<-c3];omega);obtain⟨jW,gv⟩:=hr.inPlace aa (bl:=bl) (cap:=cap) (cur:=cur) (by rw[eU,<-jX]) vm De Gn (xs:=xs) (ys:=ys) (us:=eT) (ns:=gY) c8.symm As (by rw[c3,<-b1];exact hz) (by rw[c3];exact mr) hyp (by rw[c8];exact nS) c4;refine kD (v:= .slice (some ⟨bl,0,none⟩) (ow.n+ys.length) cap) (w':=w.setRow bl (eT++gY++cur.toList.drop (ow.n*ow.sz+gY.length)).toArray) (kc _ _ ?_)
             (dk _ _ (ν.withRowOf k (.slice (some ⟨bl,0,none⟩) (ow.n+ys.length) cap) (ow.n+ys.length) ((ow.n+ys.length)*ow.sz)) ?_)
            ·rw[mG,jX,c8,f1,<-As,c8,c3,b1]
            ·have:=jW.put (d:=some d) (by simpa[hv]using J) gv;simpa[c8,c3,fk]using this
           ·refine xV (fun _ h=>h.elim) ?_;obtain⟨v',w',f1,f2,f3⟩:=run_append_arg_grows (P:=P) w t type ow.el ez z ez.size ez.bytes h1 aB hx rfl rfl qd (by rw[b1];exact gW) ⟨bl,0,none⟩ xs.length cap eT (by rw[tJ,c8,c3,b1])
             (fun j u aD=>by rw[oh];exact(va jT aD).2) ⟨kY,nu,none⟩ ys.length lu gY (by rw[js,b1]) sg Ω lB nc
            exact⟨v',w',by rw[mG,jX,c8];exact f1,f2,f3,hz⟩
       ·cases he
      ·cases he;have Fj:=rxn rfl;have q7:xs=[]:=by rw[Fj]at qA;injection qA with _ aU;exact n5 aU.symm
       subst q7;have x4:(dL.app d g.size el x y).makes st=true:=by simp only[dL.makes,ad]
       have qd:z.cells.size=ez.size:=by rw[ou,b1]
       rw[rA,Fj]at kc;have iZ:∀(v':Value) (w':World) (gY:List Value),(sX #[t,t] type #[.slice none 0 0,.slice ay ys.length lu]).run P w= .ok v' w'->w'.ownsRow w.heap.size el g.size v' ys.length gY->w.grownBy w' none->cR w ν g.size ys gY->
         (⟨some d,.call ⟨.builtin .append,⟨[o',hC]⟩,⟨[t,t]⟩⟩,type,pos,after,guard⟩:Oper).wp P a w K Q:=by
        intro v' w' gY f1 f2 f3 f4;obtain⟨jW,gv⟩:=hr.newRow (k:=κ) (xs:=ys) (.inl (hr.new _ (uS x4))) f3 f2 f4 aH (hM x4);exact kD (kc _ _ f1) (dk _ _ _ (jW.put (d:=some d) (by simpa[hv]using J) gv))
       by_cases h7:ys=[]
       ·subst h7;exact iZ _ w [] (GN h1 aB none 0 0 (c7 _) ay lu) (World.ownsRow_nil w _ _ _) (aiO w _) (by simp[cR])
       ·rcases cy4 with cy4|⟨kY,nu,gY,rfl,ym,mr⟩
        ·exact absurd cy4 h7
        ·have js:=ri mr;have sg:∀j u,gY[j]? =some u->w.cell? ((⟨kY,nu,none⟩:Addr).add j)=some u:=fun j u aD=>by rw[oh];exact(va ym aD).2
         have nc:ys.length*ez.bytes<=140737488355328:=by
          have I:ez.bytes<=2048:=by rw[dN];exact uP
          have J:ys.length*ez.bytes<=ys.length*2048:=Nat.mul_le_mul_left _ I;simp only[bs]at aH;omega
         have lB:ys.length<=maxLen:=by simp only[bs]at aH;simp only[maxLen];omega
         obtain⟨v',w',f1,f2,f3,_⟩:=run_append_own (P:=P) w w.heap.size t type el ez z ez.size ez.bytes h1 aB hx rfl rfl qd (by rw[b1];exact gW) (.slice none 0 0) 0 [] (World.ownsRow_nil w _ _ _)
          ⟨kY,nu,none⟩ ys.length lu gY (by rw[js,b1]) sg (yy mr) (by simpa using lB) (by simpa using nc) (c7 _)
         exact iZ v' w' gY f1 (by rw[<-b1];simpa using f2) (by simpa[nC]using f3) mr
      ·cases he
     ·cases he
    ·cases he
   ·cases bG
  ·cases aS
 ·rename_i d key sz el xs t len parts;simp only[bF,dK,ea]at az;obtain⟨⟨⟨⟨⟨⟨I,J⟩,aA⟩,aS⟩,bG⟩,cq⟩,dW⟩:=az;subst I;subst bG;split at aA
  ·rename_i eO aY;simp only[dK]at aA;subst aA;split at aS
   ·rename_i g aR;simp only[bF,dK,ea]at aS;obtain⟨rfl,gW⟩:=aS;simp only[ei]at he;cases he;obtain⟨us,g1,g2,g3⟩:=US aI hr aY rfl aR dW aH cq;have kt:(w.alloc (.cells us el)).ownsRow w.heap.size el g.size (.slice (some ⟨w.heap.size,0,none⟩) xs.length xs.length) (xs.map (bQ st.t)).length us.toList:=by
     refine⟨by simp[g3],.inr ⟨w.heap.size,xs.length,us,Ψ,c7 _,heap_alloc_new w _,Ψ,?_,g3,?_⟩⟩
     ·simp only[maxLen];have:xs.length<=xs.length*g.size:=Nat.le_mul_of_pos_right _ gW;omega
     ·rw[rH];simp[g3]
    obtain⟨eU,e3⟩:=hr.newRowM (k:=κ) (xs:=xs.map (bQ st.t)) (.inl (hr.new _ (uS rfl))) (World.grownBy_alloc w _ none) kt g2
     (by have:xs.length<=xs.length*g.size:=Nat.le_mul_of_pos_right _ gW;simp only[bs,pR];omega) (hM rfl)
    simp only[pR]at eU e3;refine kD (v:= .slice (some ⟨w.heap.size,0,none⟩) xs.length xs.length) (w':=w.alloc (.cells us el)) ?_ (dk _ _ _ (eU.put (d:=some d) (by simpa[hv]using J) (p:= .row g.size κ xs.length) (e3 ⟨_,_,rfl⟩)));have bn:(parts.map fun(x:Nat×ix)=>(x.1,a.eval x.2))=(parts.toList.map fun(x:Nat×ix)=>(x.1,a.eval x.2)).toArray:=by apply Array.ext';simp
    simp only[execOp];refine DL ?_;rw[<-g1];congr 2
   ·cases aS
  ·cases aA
 ·rename_i d key sz el x y o' hC t eH;simp only[bF,dK,ea]at az;obtain⟨⟨⟨⟨⟨⟨I,J⟩,aA⟩,aS⟩,bG⟩,cq⟩,dW⟩:=az;subst I;subst aA;split at aS
  ·rename_i eO aY;simp only[dK]at aS;subst aS;split at bG
   ·rename_i g aR;simp only[bF,dK,ea]at bG;obtain⟨⟨rfl,gW⟩,uP⟩:=bG;have rx:=dY hr cq;have ju:=dY hr dW;have kc:∀v' w',(sX #[t,t] type #[a.eval o',a.eval hC]).run P w= .ok v' w'->(execOp a.eval ⟨some d,.call ⟨.builtin .append,⟨[o',hC]⟩,⟨[t,t]⟩⟩,type,pos,after,guard⟩).run P w= .ok (.value v') w':=by intro v' w' hA;simp only[execOp,resolve,invoke,builtin,e4,fO,e8,List.map_toArray,ek,mQ];rw[hA];rfl
    obtain⟨ez,j7,z,aB,aU,b1,dN,hJ,hx,mw,ou⟩:=(uf aI aR).ex;obtain⟨dV,h1,e5⟩:=hD aI aY;obtain rfl:=qT e5;have qd:z.cells.size=ez.size:=by rw[ou,b1]
    simp only[ei]at he;split at he
    ·
     rename_i ys aK;cases he;unfold mn at aK;split at aK
     ·rename_i dn xs ia gT aiG ad bB;split at aK
      ·rename_i eQ;obtain⟨rfl,eQ⟩:=eQ;subst eQ;cases aK;rw[ad]at rx;rw[bB]at ju;simp only[aT]at rx ju;obtain⟨⟨ax,tj,qA,cx1,⟨O1,O2⟩,cx4⟩,rxn,rxo,rxt⟩:=rx;obtain⟨⟨ay,lu,rA,cy1,⟨O3,O4⟩,cy4⟩,_⟩:=ju;have Fj:=rxn trivial;have x4:(dL.appm d key g.size el x y).makes st=true:=by simp only[dL.makes,ad]
       rw[rA,Fj]at kc;have iZ:∀(v':Value) (w':World) (gY:List Value),(sX #[t,t] type #[.slice none 0 0,.slice ay ys.length lu]).run P w= .ok v' w'->w'.ownsRow w.heap.size el g.size v' ys.length gY->w.grownBy w' none->cR w ν g.size ys gY->
         (⟨some d,.call ⟨.builtin .append,⟨[o',hC]⟩,⟨[t,t]⟩⟩,type,pos,after,guard⟩:Oper).wp P a w K Q:=by
        intro v' w' gY f1 f2 f3 f4;obtain⟨jW,gv⟩:=hr.newRowM (k:=κ) (xs:=ys) (.inl (hr.new _ (uS x4))) f3 f2 f4 aH.1 (hM x4);exact kD (kc _ _ f1) (dk _ _ _ (jW.put (d:=some d) (by simpa[hv]using J) (gv (Gh f2 (by cases ys<;>simp at aH⊢)))))
       by_cases h7:ys=[]
       ·subst h7;exact iZ _ w [] (GN h1 aB none 0 0 (c7 _) ay lu) (World.ownsRow_nil w _ _ _) (aiO w _) (by simp[cR])
       ·rcases cy4 with cy4|⟨kY,nu,gY,rfl,ym,mr⟩
        ·exact absurd cy4 h7
        ·have js:=ri mr;have sg:∀j u,gY[j]? =some u->w.cell? ((⟨kY,nu,none⟩:Addr).add j)=some u:=fun j u aD=>by rw[oh];exact(va ym aD).2
         have nc:ys.length*ez.bytes<=140737488355328:=by
          have I:ez.bytes<=2048:=by rw[dN];exact uP
          have J:ys.length*ez.bytes<=ys.length*2048:=Nat.mul_le_mul_left _ I;simp only[bs]at aH;omega
         have lB:ys.length<=maxLen:=by simp only[bs]at aH;simp only[maxLen];omega
         obtain⟨v',w',f1,f2,f3,_⟩:=run_append_own (P:=P) w w.heap.size t type el ez z ez.size ez.bytes h1 aB hx rfl rfl qd (by rw[b1];exact gW) (.slice none 0 0) 0 [] (World.ownsRow_nil w _ _ _)
          ⟨kY,nu,none⟩ ys.length lu gY (by rw[js,b1]) sg (yy mr) (by simpa using lB) (by simpa using nc) (c7 _)
         exact iZ v' w' gY f1 (by rw[<-b1];simpa using f2) (by simpa[nC]using f3) mr
      ·cases aK
     ·split at aK
      ·split at aK
       ·split at aK<;>cases aK
       ·cases aK
      ·cases aK
     ·cases aK
    ·
     rename_i k xs ys aK;cases he;unfold mn at aK;split at aK
     ·split at aK<;>cases aK
     ·rename_i dn bz n ia gT aiG ad bB;split at aK
      ·rename_i eQ;obtain⟨rfl,eQ⟩:=eQ;subst eQ;split at aK
       ·rename_i n' eO uc xs' aa;split at aK
        ·rename_i k0;obtain⟨rfl,rfl,rfl⟩:=k0;cases aK;rw[ad]at rx;rw[bB]at ju;simp only[aT]at rx ju;obtain⟨⟨bx,tj,qA⟩,rxl,n0,me,eU,e3,n1⟩:=rx;obtain⟨⟨ay,lu,rA,cy1,⟨O3,O4⟩,cy4⟩,_⟩:=ju;obtain⟨v0,eT,cz,db,eo,dC⟩:=hr.good.own k _ aa;rw[eU]at cz;simp only[dH,gz]at cz db;obtain⟨rfl,rfl⟩:=cz;have mG:a.eval o'=me:=n1 rfl;obtain⟨dc,lL,sB⟩:=dC xs rfl;simp only at dc lL;have tJ:eT.length=xs.length*g.size:=by rw[dc];exact db.1
         have oK:xs.length=n0:=dc;by_cases h7:ys=[]
         ·subst h7;rw[rA,qA]at kc;have l2:n0<=tj:=by
           rcases db.2 with⟨jX,vl⟩|⟨bl,cap,cur,jX,vl,vm,Dd,_⟩
           ·rw[vl];exact o3 _
           ·rw[<-mG,qA]at jX;injection jX with _ _ e;rw[e];exact Dd
          have hA:=GN (P:=P) (w:=w) (ty:=type) h1 aB (some ⟨bx,0,none⟩) n0 tj l2 ay lu;refine kD (kc _ _ (by simpa using hA)) (dk _ _ ν ?_);have iC:∀eP,look eP (dd k ⟨n0,eO,g.size,some xs⟩ st.e)=look eP st.e:=fun eP=>by
           rw[jG];split
           ·rename_i e;subst e;rw[aa]
           ·rfl
          have l5:cv C {st with e:=dd k ⟨n0,eO,g.size,some xs⟩ st.e} a w ν:=
           ⟨⟨hr.good.alt,hr.good.box,hr.good.inj,fun g o aR=>hr.good.own g o (by rw[<-iC g];exact aR),fun g eP n n' v v' bl b4 a2=>hr.good.oinj g eP n n' v v' bl (by rw[<-iC g];exact b4) (by rw[<-iC eP];exact a2),
           fun g j n v bl b4=>hr.good.obx g j n v bl (by rw[<-iC g];exact b4),hr.good.one,fun bl ao=>hr.good.otr bl (ao.imp id (fun⟨g,n,v,b4,a2⟩=>⟨g,n,v,by rw[<-iC g];exact b4,a2⟩))⟩,hr.fr,hr.defers,hr.size,hr.slot,hr.new,hr.ext,hr.obk⟩
          have aA:=l5.put (d:=some d) (by simpa[hv]using J) (p:= .row g.size k n0) (v:= .slice (some ⟨bx,0,none⟩) n0 tj) (by simp only[aT];exact⟨⟨_,_,rfl⟩,rxl,_,_,eU,c7 _,fun _=>by rw[<-qA];exact mG⟩)
          simpa[oK,fk]using aA
         ·have hyp:0<ys.length:=by cases ys<;>simp at h7⊢
          rcases cy4 with cy4|⟨kY,nu,gY,rfl,ym,mr⟩
          ·exact absurd cy4 h7
          ·have js:=ri mr;have sg:∀j u,gY[j]? =some u->w.cell? ((⟨kY,nu,none⟩:Addr).add j)=some u:=fun j u aD=>by rw[oh];exact(va ym aD).2
           have nc:(xs.length+ys.length)*ez.bytes<=140737488355328:=by
            have jn:ez.bytes<=2048:=by rw[dN];exact uP
            have nJ:(xs.length+ys.length)*ez.bytes<=(xs.length+ys.length)*2048:=Nat.mul_le_mul_left _ jn;simp only[bs]at aH;omega
           have lB:xs.length+ys.length<=maxLen:=by simp only[bs]at aH;simp only[maxLen];omega
           have uR:cR w ν g.size (xs++ys) (eT++gY):=AA lL mr;rw[rA,mG]at kc;have xV:(∃v' w',(sX #[t,t] type #[me,.slice (some ⟨kY,nu,none⟩) ys.length lu]).run P w= .ok v' w'/\w'.ownsRow w.heap.size eO ez.size v' (xs.length+ys.length) (eT++gY)/\w.grownBy w' none)->
             (⟨some d,.call ⟨.builtin .append,⟨[o',hC]⟩,⟨[t,t]⟩⟩,type,pos,after,guard⟩:Oper).wp P a w K Q:=by
            intro bX;obtain⟨v',w',f1,f2,f3⟩:=bX;obtain⟨jW,gv⟩:=hr.newRowM (k:=k) (xs:=xs++ys) (el:=eO) (sz:=g.size) (.inr ⟨_,aa,by simp;omega⟩) f3 (by rw[<-b1];simpa using f2) uR (by simpa using aH) (n':=st.n) (o':=st.o)
             (fun j aD=>⟨aD,fun e=>by subst e;have:=(hr.new _ aD).2.1;rw[eU]at this;cases this⟩)
            refine kD (kc _ _ f1) (dk _ _ (ν.withOwn k (xs++ys).length v') ?_);have:=jW.put (d:=some d) (by simpa[hv]using J) (gv (by simpa using Gh f2 Ω));simpa[fk]using this
           rcases db.2 with⟨jX,vl⟩|⟨bl,cap,cur,jX,vl,vm,Dd,De,Gn,As⟩
           ·
            have q7:xs=[]:=n5 Ω;have Cw:eT=[]:=n5 (by rw[tJ,q7];simp);subst q7;subst Cw;refine xV ?_;obtain⟨v',w',f1,f2,f3,_⟩:=run_append_own (P:=P) w w.heap.size t type eO ez z ez.size ez.bytes h1 aB hx rfl rfl qd (by rw[b1];exact gW) (.slice none 0 0) 0 [] (World.ownsRow_nil w _ _ _)
             ⟨kY,nu,none⟩ ys.length lu gY (by rw[js,b1]) sg (yy mr) (by simpa using lB) (by simpa using nc) (c7 _)
            exact⟨v',w',by rw[jX];exact f1,by simpa using f2,by simpa[nC]using f3⟩
           ·have h6:me.ownBlock=some bl:=by rw[jX];rfl
            by_cases nS:xs.length+ys.length<=cap
            ·have hmul:(xs.length+ys.length)*g.size<=cap*g.size:=Nat.mul_le_mul_right _ nS;rw[Nat.add_mul]at hmul;have f1:=run_append_room (P:=P) w t type eO ez h1 aB bl xs.length cap cur vm ⟨kY,nu,none⟩ ys.length lu gY (by rw[js,b1]) sg (yy mr) nS (by rw[js,b1];omega);generalize CC:(cur.toList.take (xs.length*ez.size)++gY++cur.toList.drop (xs.length*ez.size+gY.length)).toArray=ld at f1;have lC:(w.setRow bl ld).heap[bl]? =some (.cells ld eO (0,0)):=setRow_heap w bl cur ld eO _ vm;have aG:(eT++gY).length=(xs++ys).length*g.size:=by rw[fU,tJ,js,fU,Nat.add_mul]
             have bG:cur.toList.take (xs.length*ez.size)=eT:=by rw[oK,b1];exact As
             have gK:ld.size=cap*g.size:=by rw[<-CC];simp only[List.size_toArray,fU,n7,hG,Array.length_toList];rw[b1];omega
             have nT:ld.toList.take ((xs++ys).length*g.size)=eT++gY:=by rw[<-CC,bG];simp only[<-aG];rw[List.take_append_of_le_length (c7 _),kH]
             obtain⟨jW,_,gv⟩:=hr.setRowM (w':=w.setRow bl ld) aa rfl eU h6 (v':= .slice (some ⟨bl,0,none⟩) (xs.length+ys.length) cap) rfl (xs':=xs++ys) (us:=eT++gY) (.inr (by simp;omega)) rfl rfl rfl (fun j aD=>setRow_other w bl j ld aD) (setRow_size w bl ld)
              ⟨aG,.inr ⟨bl,cap,ld,Ψ,o3 _,lC,by simpa using nS,De,gK,nT⟩⟩ uR
             replace gv:=gv (by simpa using aH);refine kD (v:= .slice (some ⟨bl,0,none⟩) (xs.length+ys.length) cap) (w':=w.setRow bl ld) (kc _ _ ?_) (dk _ _ (ν.withOwn k (xs++ys).length (.slice (some ⟨bl,0,none⟩) (xs.length+ys.length) cap)) ?_)
             ·rw[jX,<-oK];exact f1
             ·have:=jW.put (d:=some d) (by simpa[hv]using J) gv;simpa[fk]using this
            ·refine xV ?_;obtain⟨v',w',f1,f2,f3⟩:=run_append_arg_grows (P:=P) w t type eO ez z ez.size ez.bytes h1 aB hx rfl rfl qd (by rw[b1];exact gW) ⟨bl,0,none⟩ xs.length cap eT (by rw[tJ,b1])
              (fun j u aD=>by have:=db.cells h6 j u aD;exact this) ⟨kY,nu,none⟩ ys.length lu gY (by rw[js,b1]) sg Ω lB nc
             exact⟨v',w',by rw[jX,<-oK];exact f1,f2,f3⟩
        ·cases aK
       ·cases aK
      ·cases aK
     ·cases aK
    ·cases he
   ·cases bG
  ·cases aS
 ·rename_i sz x y t o' hC;simp only[bF,dK]at az;obtain⟨⟨⟨I,J⟩,aA⟩,aS⟩:=az;subst I;split at J
  ·rename_i f aY;simp only[dK]at J;simp only[ei]at he;generalize Jx:bQ st.t x=px at he;unfold rq at he;split at he
   ·rename_i dn k n i xG;split at he
    ·rename_i n' el ia xs aa;split at he
     ·rename_i zM;obtain⟨rfl,rfl⟩:=zM;split at he
      ·rename_i q bA;cases he;obtain⟨c0,c8,c2,c3,c4⟩:=aH;have rx:=dY hr aA;rw[Jx]at rx;have ju:=dY hr aS;have vp:=vr ju c8;have sG:=pA vp;obtain⟨_,ef⟩:=vA aI aY w;have pk:(a.eval hC).cells.size=sz:=by rw[c2]at sG;simpa using sG
       obtain⟨bl,off,mq,Cn,eA,ν',p7⟩:=hr.storeRow (P:=P) aa rx bA c0 vp (by simpa[pk]using c3) (fun e=>by have:=dZ List.length e;simp[pk]at this;omega);refine DQ (w':=w.setRow bl mq) ?_ (dk _ _ _ p7);simp only[execOp,Instr.storeAt,Cn,Instr.sureAddr,storeVar,e4,fO,e8,ef,pk,J,ne_eq,not_true_eq_false,if_false,eA]
      ·cases he
     ·cases he
    ·cases he
   ·cases he
  ·cases J
 ·rename_i d el x y o' hC t eH;exact M7 aI hr (d:=d) (el:=el) (x:=x) (y:=y) (by simpa only[rl]using az) (by simpa only[ei]using he) aH dk
 ·rename_i d key sz el z x t o' hC;simp only[bF,dK,ea]at az;obtain⟨⟨⟨⟨⟨I,J⟩,aA⟩,aS⟩,bG⟩,cq⟩:=az;subst I;split at aA
  ·rename_i eO aY;simp only[dK]at aA;subst aA;split at aS
   ·rename_i g aR;simp only[bF,dK,ea]at aS;obtain⟨⟨⟨rfl,gW⟩,uP⟩,cp⟩:=aS;obtain rfl:=MF cp;have rx:=dY hr bG;have ju:=dY hr cq;simp only[ei]at he;split at he
    ·rename_i hl n ad;cases he;obtain⟨x6,js⟩:=aH;obtain⟨m,rfl⟩:=Int.eq_ofNat_of_zero_le x6;rw[ad]at rx ju;simp only[aT]at rx ju;obtain⟨ez,j7,a8,aB,aU,b1,dN,hJ,hx,mw,ou⟩:=(uf aI aR).ex;obtain⟨dV,h1,e5⟩:=hD aI aY;obtain rfl:=qT e5;have lB:m<=bs:=by simp only[bs]at js⊢;omega
     have nc:ez.bytes*m<=281474976710656:=by have I:ez.bytes*m<=2048*m:=Nat.mul_le_mul_right _ Ω;simp only[bs]at lB;omega
     obtain⟨ac8,QO⟩:=ME w ν mw;obtain⟨w',g1,g2,g3⟩:=run_make_full (P:=P) w w.heap.size t el ez a8 ez.size h1 aB hx rfl hl hl m nc (by simp only[maxLen];simp only[bs]at lB;omega) (c7 _);have kt:w'.ownsRow w.heap.size el g.size (.slice (some ⟨w.heap.size,0,none⟩) m m) (List.replicate m g.zero).length (madeCells a8.cells (m*a8.cells.size)).toList:=by rw[b1,<-ou]at g2;rw[List.length_replicate,<-ou];exact g2
     obtain⟨eU,e3⟩:=hr.newRowM (k:=κ) (xs:=List.replicate m g.zero) (.inl (hr.new _ (uS rfl))) g3 kt (by rw[<-ou];exact Sw ac8 Ω (AE QO) m) (by simpa using lB) (hM rfl);simp only[List.length_replicate]at eU e3;simp only[Int.toNat_natCast]at dk;refine kD (v:= .slice (some ⟨w.heap.size,0,none⟩) m m) (w':=w') ?_ (dk _ _ _ (eU.put (d:=some d) (by simpa[hv]using J) (p:= .row g.size κ m) (e3 ⟨_,_,rfl⟩)));simp only[execOp];refine DL ?_;rw[rx,ju];exact g1
    ·cases he
   ·cases aS
  ·cases aA
 ·cases az
theorem Ni{N:Nat}{bu:List (Nat×dt)}{d:Nat}{key:a1 Nat}{o:Oper}(h:rl N bu (.mkmap d key) o=true):key≠some 861:=by
 rintro rfl;obtain⟨dst,op,type,pos,after,guard⟩:=o;generalize aE:dL.mkmap d (some 861)=i at h;unfold rl at h;dsimp only at h;split at h<;>first|(cases aE;done)|(cases h;done)|skip
 cases aE;simp at h
theorem WU{N:Nat}{bu:List (Nat×dt)}{st:a6}{d:Nat}{key:a1 Nat}{x:cY}{o:Oper}(h:rl N bu (.range d key x) o=true):iO st key≠ .obj 861:=by
 intro e;obtain rfl:=F4 e;obtain⟨dst,op,type,pos,after,guard⟩:=o;generalize aE:dL.range d (some 861) x=i at h;unfold rl at h;dsimp only at h;split at h<;>first|(cases aE;done)|(cases h;done)|skip
 cases aE;simp at h
theorem ahc{P:b3}{bu:List (Nat×dt)}(aI:e7 P bu=true){C:eI}{st st':a6}{a:Act}{w:World}{ν:aW}(hr:cv C st a w ν){i:dL}{o:Oper}(az:rl C.N bu i o=true)
  {c:Prop} (he:lO st i=some (c,st')) (aH:c) {K:Act->World->Prop} {Q:Exit->Act->World->Prop} (dk:∀c1 w' ν',cv C st' c1 w' ν'->K c1 w'):o.wp P a w K Q:=by
 have nh:qh st none->fresh st.n st.o (.loc st.n):=fun h=>wH (key:=none) h;have Cj:∀j,fresh (st.n+1) st.o j->fresh st.n st.o j/\j≠ .loc st.n:=wI (key:=none);cases i with
 |v d i=>exact iS (κ:= .loc 0) (n':=0) (o₁:=[]) aI hr az (fun h=>by simp[dL.makes]at h) (fun h=>by simp[dL.makes]at h) (by simpa only[lO,ei]using he) aH dk
 |box d key x=>simp only[lO]at he;cases he;exact iS (κ:=iO st key) (n':=nq st key) (o₁:=nr st key) aI hr az (fun _=>wH aH.1) (fun _=>wI) (by simp only[ei]) aH.2 dk (hB:=F4)
 |alloc d key z=>simp only[lO]at he;cases he;exact iS (κ:=iO st key) (n':=nq st key) (o₁:=nr st key) aI hr az (fun _=>wH aH) (fun _=>wI) (by simp only[ei]) trivial dk (hB:=F4)
 |mks d key sz el z x=>
  simp only[lO]at he;split at he
  ·rename_i hl n ad;cases he;exact iS (κ:=iO st key) (n':=nq st key) (o₁:=nr st key) aI hr az (fun _=>wH aH.1) (fun _=>wI) (by simp only[ei,ad]) aH.2 dk
  ·cases he
 |apps d el x y=>exact M7 aI hr az (by simpa only[lO]using he) aH dk
 |storeE sz x y=>exact iS (κ:= .loc 0) (n':=0) (o₁:=[]) aI hr az (fun h=>by simp[dL.makes]at h) (fun h=>by simp[dL.makes]at h) (by simpa only[lO,ei]using he) aH dk
 |store sz x y=>exact iS (κ:= .loc 0) (n':=0) (o₁:=[]) aI hr az (fun h=>by simp[dL.makes]at h) (fun h=>by simp[dL.makes]at h) (by simpa only[lO,ei]using he) aH dk
 |bsl d sz el xs=>simp only[lO]at he;cases he;exact iS (κ:= .loc st.n) (n':=st.n+1) (o₁:=st.o) aI hr az (fun _=>nh aH.1) (fun _=>Cj) (by simp only[ei]) aH.2 dk
 |bslm d key sz el xs=>simp only[lO]at he;cases he;exact iS (κ:=iO st key) (n':=nq st key) (o₁:=nr st key) aI hr az (fun _=>wH aH.1) (fun _=>wI) (by simp only[ei]) aH.2 dk
 |appm d key sz el x y=>
  simp only[lO]at he;split at he
  ·rename_i ys aK;cases he;exact iS (κ:=iO st key) (n':=nq st key) (o₁:=nr st key) aI hr az (fun _=>wH aH.1) (fun _=>wI) (by simp only[ei,aK]) aH.2 dk
  ·rename_i k xs ys aK;cases he;refine iS (κ:= .loc 0) (n':=0) (o₁:=[]) aI hr az (fun h=>?_) (fun h=>?_) (by simp only[ei,aK]) aH dk;all_goals
    exfalso
    simp only[dL.makes]at h
    split at h
    ·rename_i ad
     unfold mn at aK
     rw[ad]at aK
     split at aK
     ·split at aK<;>cases aK
     ·rename_i I _;cases I
     ·cases aK
    ·cases h
  ·cases he
 |mkmap d key=>simp only[lO]at he;cases he;exact iS (κ:=iO st key) (n':=nq st key) (o₁:=nr st key) aI hr az (fun _=>wH aH) (fun _=>wI) (by simp only[ei]) trivial dk (hB:=fun e=>Ni az (F4 e))
 |mput b7 x k v=>exact iS (κ:= .loc 0) (n':=0) (o₁:=[]) aI hr az (fun h=>by simp[dL.makes]at h) (fun h=>by simp[dL.makes]at h) (by simpa only[lO,ei]using he) aH dk
 |range d key x=>
  simp only[lO]at he;split at he
  ·rename_i m ad;split at he
   ·rename_i cs da;split at he
    ·rename_i cs' hm;cases he;exact iS (κ:=iO st key) (n':=nq st key) (o₁:=nr st key) aI hr az (fun _=>wH aH) (fun _=>wI) (by simp only[ei,ad,da,hm]) trivial dk (hB:=WU az)
    ·cases he
   ·cases he
  ·cases he
 |app d sz el x y=>
  simp only[lO]at he;split at he
  ·rename_i dn tag xs ia gT ys ad bB;split at he
   ·rename_i eQ;split at he
    ·rename_i k;split at he
     ·rename_i ow aa;cases he;refine iS (κ:= .loc 0) (n':=0) (o₁:=[]) aI hr az (fun h=>by simp[dL.makes,ad]at h) (fun h=>by simp[dL.makes,ad]at h) ?_ aH dk;simp only[ei,ad,bB,eQ,and_self,if_true,aa]
     ·cases he
    ·cases he;refine iS (κ:= .loc st.n) (n':=st.n+1) (o₁:=st.o) aI hr az (fun _=>nh aH.1) (fun _=>Cj) ?_ aH.2 dk;simp only[ei,ad,bB,eQ,and_self,if_true]
    ·cases he
   ·cases he
  ·cases he
structure dF where
 b:List (aO×List al)
 e:List (aO×dU)
def gn(ν:aW)(s:dF)(bl:Nat):Prop:=(∃k,(look k s.b).isSome/\ν.bx k=some bl)\/(∃g n v,(look g s.e).isSome/\ν.ow g=some (n,v)/\v.ownBlock=some bl)
def qW(ν:aW)(s:dF):Prop:= ∀k,(look k s.b=none->ν.bx k=none)/\(look k s.e=none->ν.ow k=none)/\∀j b,¬ν.tr k j b
def gj(s:dF):List aO:=s.b.map (·.1)++s.e.map (·.1)
def jc(s:dF):Prop:=(∀m,look (.loc m) s.b=none)/\(∀m,look (.loc m) s.e=none)
def vF(P:b3)(f:FuncId)(vs:Array Value)(w:World)(R:Ending->World->Prop):Prop:=((∃fn,P.funcs[f]? =some fn/\fn.body.isSome=true/\(fn.name== "runtime.NumGoroutine")=false)/\Calls P f vs w R)\/ ∃v w',(callFunc f vs).run P w= .ok (.value v) w'/\R (.returned v) w'
def bJ(P:b3)(f:FuncId)(args:List al)(s:dF)(Q:al->dF->Prop):Prop:=
 ∀(w:World) (ν:aW) (vs:Array Value) (gl:oc w ν),Good (gn ν s) w ν s.b s.e->qW ν s->cw w ν args vs.toList->
  vF P f vs w fun e w'=> ∃v r aq ν',e= .returned v/\Q r aq/\aT w' ν' r v/\Good (fun bl=>gn ν s bl\/w.heap.size<=bl) w' ν' aq.b aq.e/\qW ν' aq/\jc aq/\qG ⟨w,ν,gn ν s,0,gj s,gl,[]⟩ w' ν'
def Eu(κ:a1 Nat)(ν:aW)(s:dF):Prop:= ∀k,(look k s.b=none->ν.bx k=none)/\(look k s.e=none->ν.ow k=none)/\∀j b,ν.tr k j b->∃m,κ=some m/\k= .loc m
theorem qW.k{ν:aW}{s:dF}(h:qW ν s):Eu none ν s:=fun k=>⟨(h k).1,(h k).2.1,fun j b ao=>absurd ao ((h k).2.2 j b)⟩
def Hh(P:b3)(f:FuncId)(κ:Nat)(args:List al)(s:dF)(Q:al->dF->Prop):Prop:=
 ∀(w:World) (ν:aW) (vs:Array Value) (gl:oc w ν),Good (gn ν s) w ν s.b s.e->qW ν s->cw w ν args vs.toList->
  vF P f vs w fun e w'=> ∃v r aq ν',e= .returned v/\Q r aq/\aT w' ν' r v/\Good (fun bl=>gn ν s bl\/w.heap.size<=bl) w' ν' aq.b aq.e/\Eu (some κ) ν' aq/\jc aq/\qG ⟨w,ν,gn ν s,0,gj s,gl,[]⟩ w' ν'
def ct(P:b3)(f:FuncId)(args:List al)(r:al):Prop:=bJ P f args ⟨[],[]⟩ fun dh aq=>dh=r/\aq=⟨[],[]⟩
theorem wD{α:Type}{k:aO}{x:α}:∀{l:List (aO×α)},look k l=some x->(k,x)∈l
 |[],h=>by simp[look]at h
 |(i,y)::r,h=>by
  simp only[look]at h;split at h
  ·rename_i e;subst e;cases h;simp
  ·exact List.mem_cons_of_mem _ (wD h)
theorem Ai{s:dF}{k:aO}(h:(look k s.b).isSome\/(look k s.e).isSome):k∈gj s:=by
 unfold gj;rcases h with h|h<;>obtain⟨x,ad⟩:=fG.1 h<;>have:=wD ad
 ·exact rF _ (n8.2 ⟨_,this,rfl⟩)
 ·exact List.mem_append_right _ (n8.2 ⟨_,this,rfl⟩)
section
open Classical
noncomputable def aW.cut(ν:aW)(S:aO->Prop):aW:={A:=ν.A,bx:=fun k=>if S k then ν.bx k else none,ow:=fun k=>if S k then ν.ow k else none,tr:=fun k j b=>S k/\ν.tr k j b}
theorem aW.cut_bx{ν:aW}{S:aO->Prop}{k:aO}(h:S k):(ν.cut S).bx k=ν.bx k:=by simp[aW.cut,h]
theorem aW.cut_ow{ν:aW}{S:aO->Prop}{k:aO}(h:S k):(ν.cut S).ow k=ν.ow k:=by simp[aW.cut,h]
theorem aW.cut_no{ν:aW}{S:aO->Prop}{k:aO}(h:¬S k):(ν.cut S).bx k=none/\(ν.cut S).ow k=none/\∀j b,¬(ν.cut S).tr k j b:=by simp[aW.cut,h]
theorem aW.cut_some{ν:aW}{S:aO->Prop}{k:aO}{b:Nat}(h:(ν.cut S).bx k=some b):S k/\ν.bx k=some b:=by
 by_cases au:S k
 ·exact⟨au,by rw[aW.cut_bx au]at h;exact h⟩
 ·rw[(aW.cut_no au).1]at h;cases h
theorem aW.cut_someO{ν:aW}{S:aO->Prop}{k:aO}{b:Nat×Value}(h:(ν.cut S).ow k=some b):S k/\ν.ow k=some b:=by
 by_cases au:S k
 ·exact⟨au,by rw[aW.cut_ow au]at h;exact h⟩
 ·rw[(aW.cut_no au).2.1]at h;cases h
theorem oc.cut{w:World}{ν:aW}(h:oc w ν)(S:aO->Prop):oc w (ν.cut S):=h
theorem oe.cut(S:aO->Prop)(w:World)(ν:aW):oe S w ν w (ν.cut S):=⟨fun _ _ h=>⟨h,rfl⟩,fun k b aa h=>by rw[aW.cut_bx aa];exact h,fun g n u aR h=>⟨n,u,by rw[aW.cut_ow aR];exact h,.inl ⟨rfl,rfl⟩⟩,fun _ _ _=>rfl,fun _ _ _ aa h=>⟨aa,h⟩⟩
end
def oX(S:aO->Prop)(fN b:List (aO×List al)):Prop:= ∀k cs,look k fN=some cs->look k b=some cs/\S k/\aj S cs
def oY(S:aO->Prop)(jk e:List (aO×dU)):Prop:= ∀k o,look k jk=some o->look k e=some o/\S k/\cc S o
theorem Good.cut{pr TB:Nat->Prop}{w:World}{ν:aW}{b fN:List (aO×List al)}{e jk:List (aO×dU)}(h:Good pr w ν b e){S:aO->Prop}(ao:oX S fN b)(he:oY S jk e)
  (nR:∀bl,pr bl->(∃k,(look k fN).isSome/\(ν.cut S).bx k=some bl)\/(∃g n v,(look g jk).isSome/\(ν.cut S).ow g=some (n,v)/\v.ownBlock=some bl)->TB bl):Good TB w (ν.cut S) fN jk:=by
 have uO:∀k,(look k fN).isSome->(look k b).isSome/\S k:=fun k aa=>by obtain⟨cs,da⟩:=fG.1 aa;have:=ao k cs da;exact⟨by simp[this.1],this.2.1⟩
 have EZ:∀k,(look k jk).isSome->(look k e).isSome/\S k:=fun k aa=>by obtain⟨cs,da⟩:=fG.1 aa;have:=he k cs da;exact⟨by simp[this.1],this.2.1⟩
 refine⟨h.alt,fun k cs aa=>?_,fun k bz bl I J aA aS=>?_,fun g o aR=>?_,fun g eP n n' v v' bl I J aA aS bG cq=>?_,fun g k n v bl I J aA aS bG=>?_,fun k=>?_,fun bl aI k j aD=>?_⟩
 ·obtain⟨g1,g2,g3⟩:=ao k cs aa;obtain⟨bl,us,el,f1,f2,f3,f4,f5⟩:=h.box k cs g1;have jR:(ν.cut S).bx k=some bl:=by rw[aW.cut_bx g2];exact f1
  exact⟨bl,us,el,jR,nR bl f2 (.inl ⟨k,by simp[aa],jR⟩),f3,f4,UB (oe.cut S w ν) g3 f5⟩
 ·obtain⟨b4,a2⟩:=uO k I;obtain⟨ck,cr⟩:=uO bz J;exact h.inj k bz bl b4 ck (aW.cut_some aA).2 (aW.cut_some aS).2
 ·obtain⟨g1,g2,g3⟩:=he g o aR;obtain⟨v,us,f1,f2,f3,f4⟩:=h.own g o g1;have nQ:(ν.cut S).ow g=some (o.n,v):=by rw[aW.cut_ow g2];exact f1
  exact⟨v,us,nQ,f2,fun bl eE=>⟨nR bl (f3 bl eE).1 (.inr ⟨g,o.n,v,by simp[aR],nQ,eE⟩),(f3 bl eE).2⟩,
   fun xs ad=>⟨(f4 xs ad).1,GF (oe.cut S w ν) _ _ _ (g3 xs ad) (f4 xs ad).2.1,(f4 xs ad).2.2⟩⟩
 ·obtain⟨b4,a2⟩:=EZ g I;obtain⟨ck,cr⟩:=EZ eP J;exact h.oinj g eP n n' v v' bl b4 ck (aW.cut_someO aA).2 (aW.cut_someO aS).2 bG cq
 ·obtain⟨b4,a2⟩:=EZ g I;obtain⟨ck,cr⟩:=uO k J;exact h.obx g k n v bl b4 ck (aW.cut_someO aA).2 aS (aW.cut_some bG).2
 ·by_cases au:S k
  ·rw[aW.cut_bx au,aW.cut_ow au];exact h.one k
  ·exact .inl (aW.cut_no au).1
 ·refine h.otr bl ?_ k j aD.2;rcases aI with⟨bz,b4,a2⟩|⟨g,n,v,b4,a2,a3⟩
  ·exact .inl ⟨bz,(uO bz b4).1,(aW.cut_some a2).2⟩
  ·exact .inr ⟨g,n,v,(EZ g b4).1,(aW.cut_someO a2).2,a3⟩
structure mm (ob:List aO) (st st':a6):Prop where
 t:∀x∈st'.t,get x.1 st.t=x.2/\ak (fun k=> ¬fresh st'.n st'.o k) x.2
 b:oX (fun k=> ¬fresh st'.n st'.o k) st'.b st.b
 e:oY (fun k=> ¬fresh st'.n st'.o k) st'.e st.e
 o:∀m∈ob,m∈st'.o
theorem Qk:∀(i:Nat) (l:List (Nat×al)),get i l= .junk\/(i,get i l)∈l
 |_,[]=>.inl rfl
 |i,(j,p)::r=>by
  by_cases h:j=i
  ·subst h;right;simp[get]
  ·rcases Qk i r with I|I
   ·left;simp[get,h,I]
   ·right;simp[get,h];right;exact I
theorem cv.weaker{C:eI}{st st':a6}{a:Act}{w:World}{ν:aW}(h:cv C st a w ν)(hw:mm C.ob st st'):cv C st' a w (ν.cut fun k=> ¬fresh st'.n st'.o k):=by
 refine⟨h.good.cut hw.b hw.e (fun bl bn _=>bn),⟨h.fr.os,h.fr.tape,h.fr.output,h.fr.size,h.fr.block,h.fr.keep,h.fr.fresh,fun n b ao=>?_,h.fr.obn,fun m n u hm=>?_,h.fr.obr,fun k j bz fb b I J=>h.fr.trd k j bz fb b I.2 J.2,fun k j b ao=>h.fr.trb k j b ao.2,fun k j b ao=>?_,h.fr.sh,fun j n u b aB aU=>h.fr.nrow j n u b (aW.cut_someO aB).2 aU⟩,h.defers,h.size,fun i=>?_,fun k aa=>aW.cut_no (fun aJ=>aJ aa),fun x ad=>⟨sF (oe.cut _ w ν) _ _ (u7 (fun k aa aY=>aY.2 (hw.o k aa)) _ (h.ext x ad).2) (h.ext x ad).1,(h.ext x ad).2⟩,fun m hm aY=>aY.2 (hw.o m hm)⟩
 ·rw[aW.cut_bx (fun bX=>bX.2 (hw.o _ (h.fr.obn n b ao)))];exact h.fr.obj n b ao
 ·rw[aW.cut_ow (fun bX=>bX.2 (hw.o _ (h.fr.obr m n u hm)))];exact h.fr.row m n u hm
 ·rw[aW.cut_bx ao.1,aW.cut_ow ao.1];exact h.fr.trn k j b ao.2
 ·rcases Qk i st'.t with aD|hm
  ·rw[aD];simp[aT]
  ·obtain⟨I,J⟩:=hw.t _ hm;simp only at I;have:=h.slot i;rw[I]at this;exact sF (oe.cut _ w ν) _ _ J this
mutual
def cm:al->al
 | .slice sz _ xs=>.slice sz .no (ca xs)
 | .agg cs=>.agg (ca cs)
 | .tuple vs=>.tuple (ca vs)
 | .eptr x=>.eptr (cm x)
 | .iface t x=>.iface t (cm x)
 | .func f dy=>.func f (ca dy)
 |p=>p
def ca:List al->List al
 |[]=>[]
 |x::xs=>cm x::ca xs
end
theorem mM:∀xs,(ca xs).length=xs.length
 |[]=>rfl
 |x::xs=>by simp[ca,mM xs]
mutual
theorem EF{t:Bool}{w:World}{A:Nat->Nat->Prop}:∀(p:al) (F:Nat->Prop) (v:Value),dE t w A F p v->dE t w A F (cm p) v
 | .int _ _,_,_,h=>by simpa only[cm]using h
 | .bool _,_,_,h=>by simpa only[cm]using h
 | .str _,_,_,h=>by simpa only[cm]using h
 | .slice sz tag xs,F,v,h=>by
  simp only[dE,cm]at h⊢;obtain⟨a,cap,I,J,aA,aS⟩:=h;refine⟨a,cap,by rw[mM];exact I,by rw[mM];exact J,by rw[mM];exact aA,?_⟩;rcases aS with rfl|⟨b,off,us,G,aB,aU,b1,dN,hJ,hx⟩
  ·exact .inl rfl
  ·exact .inr ⟨b,off,us,G,aB,aU,b1,dN,hJ,P6 sz xs G us hx⟩
 | .agg cs,F,v,h=>by simp only[dE,cm]at h⊢;obtain⟨us,I,J⟩:=h;exact⟨us,I,P7 cs F _ J⟩
 | .junk,_,_,h=>by simp[dE]at h
 | .ptr _ _,_,_,h=>by simp[dE]at h
 | .eptr _,_,_,h=>by simp[dE]at h
 | .iface _ _,_,_,h=>by simp[dE]at h
 | .nilp,_,_,h=>by simp[dE]at h
 | .tuple _,_,_,h=>by simp[dE]at h
 | .func _ _,_,_,h=>by simp[dE]at h
 | .gmap _,_,_,h=>by simp[dE]at h
 | .row _ _ _,_,_,h=>by simp[dE]at h
 | .rptr _ _ _ _ _,_,_,h=>by simp[dE]at h
 | .hdm _ _,_,_,h=>by simp[dE]at h
 | .hdi _ _ _,_,_,h=>by simp[dE]at h
 | .cst _,_,_,h=>by simp[dE]at h
theorem P7{t:Bool}{w:World}{A:Nat->Nat->Prop}:∀(cs:List al) (F:Nat->Prop) (us:List Value),oy t w A F cs us->oy t w A F (ca cs) us
 |[],_,_,h=>by simpa only[ca]using h
 |c::cs,F,us,h=>by simp only[oy,ca]at h⊢;obtain⟨u,bI,jK,jL,I,J,⟨bG,cq⟩,dW⟩:=h;exact⟨u,bI,jK,jL,I,J,⟨EF c jK u bG,cq⟩,P7 cs jL bI dW⟩
theorem P6{t:Bool}{w:World}{A:Nat->Nat->Prop}(sz:Nat):∀(cs:List al) (F:Nat->Prop) (us:List Value),ox t w A F sz cs us->ox t w A F sz (ca cs) us
 |[],_,_,h=>by simpa only[ca]using h
 |c::cs,F,us,h=>by simp only[ox,ca]at h⊢;obtain⟨u,bI,jK,jL,I,J,⟨bG,cq⟩,dW⟩:=h;exact⟨u,bI,jK,jL,I,J,⟨EF c jK u bG,cq⟩,P6 sz cs jL bI dW⟩
end
theorem IE{t:Bool}{w:World}{A:Nat->Nat->Prop}{F:Nat->Prop}{sz:Nat}{tag:y0}(gT:y0){xs:List al}(v:Value)(h:dE t w A F (.slice sz tag xs) v):dE t w A F (.slice sz gT (ca xs)) v:=by have:=EF _ F v h;simp only[cm,dE]at this⊢;exact this
mutual
theorem yC{w:World}{ν:aW}:∀(p:al) (v:Value),aT w ν p v->aT w ν (cm p) v
 | .junk,_,h=>by simpa only[cm]using h
 | .int k n,_,h=>by simpa only[cm]using h
 | .bool b,_,h=>by simpa only[cm]using h
 | .str s,_,h=>by simpa only[cm]using h
 | .slice sz tag xs,v,h=>by
  simp only[aT,cm]at h⊢;obtain⟨⟨a,cap,I,J,aA,aS⟩,bG,cq⟩:=h;refine⟨⟨a,cap,by rw[mM];exact I,by rw[mM];exact J,by rw[mM];exact aA,?_⟩,fun e=>(by cases e),fun g e=>(by cases e),fun _ _ e=>(by cases e),fun _ e=>(by cases e)⟩;rcases aS with rfl|⟨b,off,us,aS,cq,dW⟩
  ·exact .inl rfl
  ·exact .inr ⟨b,off,us,aS,cq,UG sz xs us dW⟩
 | .agg cs,v,h=>by simp only[aT,cm]at h⊢;obtain⟨us,I,J⟩:=h;exact⟨us,I,UK cs _ J⟩
 | .ptr key off,v,h=>by simpa only[cm]using h
 | .iface t x,v,h=>by simp only[aT,cm]at h⊢;obtain⟨u,I,J⟩:=h;exact⟨u,I,yC x u J⟩
 | .eptr x,v,h=>by simp only[aT,cm]at h⊢;obtain⟨b,off,u,I,J,aA⟩:=h;exact⟨b,off,u,I,yC x u J,aA⟩
 | .nilp,_,h=>by simpa only[cm]using h
 | .tuple vs,v,h=>by simp only[aT,cm]at h⊢;obtain⟨us,I,J⟩:=h;exact⟨us,I,GK vs _ J⟩
 | .func f dy,v,h=>by simp only[aT,cm]at h⊢;obtain⟨us,I,J⟩:=h;exact⟨us,I,GK dy _ J⟩
 | .gmap key,v,h=>by simpa only[cm]using h
 | .row _ _ _,v,h=>by simpa only[cm]using h
 | .rptr _ _ _ _ _,v,h=>by simpa only[cm]using h
 | .cst _,v,h=>by simpa only[cm]using h
theorem UK{w:World}{ν:aW}:∀(cs:List al) (us:List Value),cK w ν cs us->cK w ν (ca cs) us
 |[],_,h=>by simpa only[ca]using h
 |c::cs,us,h=>by simp only[cK,ca]at h⊢;obtain⟨u,bI,I,J,aA⟩:=h;exact⟨u,bI,I,⟨yC c u J.1,J.2⟩,UK cs bI aA⟩
theorem GK{w:World}{ν:aW}:∀(cs:List al) (us:List Value),cw w ν cs us->cw w ν (ca cs) us
 |[],_,h=>by simpa only[ca]using h
 |c::cs,us,h=>by simp only[cw,ca]at h⊢;obtain⟨u,bI,I,J,aA⟩:=h;exact⟨u,bI,I,yC c u J,GK cs bI aA⟩
theorem UG{w:World}{ν:aW}(sz:Nat):∀(xs:List al) (us:List Value),cR w ν sz xs us->cR w ν sz (ca xs) us
 |[],_,h=>by simpa only[ca]using h
 |x::xs,us,h=>by simp only[cR,ca]at h⊢;obtain⟨u,bI,I,⟨J,aA,aS⟩,bG⟩:=h;exact⟨u,bI,I,⟨yC x u J,aA,aS⟩,UG sz xs bI bG⟩
end
def ag(s:dF)(k:aO):Prop:=(look k s.b).isSome=true\/(look k s.e).isSome=true
def aX{α β:Type}(s:List (aO×β)):List (aO×α)->List (aO×α)
 |[]=>[]
 |(k,x)::r=>match look k s with
  |some _=>aX s r
  |none=>(k,x)::aX s r
theorem tO{α β:Type}(s:List (aO×β))(k:aO):∀l:List (aO×α),look k (aX s l)=if(look k s).isSome then none else look k l
 |[]=>by simp[aX,look]
 |(i,x)::r=>by
  simp only[aX];by_cases e:i=k
  ·subst e;cases h:look i s with
   |some y=>simp[tO s i r,h]
   |none=>simp[look]
  ·cases h:look i s with
   |some y=>simp[tO s k r,look,e]
   |none=>simp[look,e,tO s k r]
theorem yl{α:Type}(k:aO):∀l cF:List (aO×α),look k (l++cF)=match look k l with|some x=>some x|none=>look k cF
 |[],cF=>by simp[look]
 |(i,x)::r,cF=>by
  by_cases e:i=k
  ·simp[look,e]
  ·simp[look,e,yl k r cF]
def after(st:a6)(s aq:dF)(d:a1 Nat)(r:al):a6:={t:=fk d r st.t,b:=aX s.b st.b++aq.b,e:=aX s.e st.e++aq.e,n:=st.n,o:=st.o++gj aq}
section
open Classical
noncomputable def aW.join(ν ν':aW)(s aq:dF):aW:={A:=ν'.A,bx:=fun k=>if(look k s.b).isSome\/(look k aq.b).isSome then ν'.bx k else ν.bx k,ow:=fun k=>if(look k s.e).isSome\/(look k aq.e).isSome then ν'.ow k else ν.ow k,tr:=fun k j b=>ν.tr k j b\/ν'.tr k j b}
end
theorem cv.callK{C:eI}{st:a6}{a:Act}{w w':World}{ν ν':aW}(h:cv C st a w ν){s aq:dF}(ao:oX (ag s) s.b st.b)(he:oY (ag s) s.e st.e)(l4:jc s)
  (aR:Good (fun bl=>gn (ν.cut (ag s)) s bl\/w.heap.size<=bl) w' ν' aq.b aq.e) {κ:a1 Nat} (ad:Eu κ ν' aq) (Fx:∀m,κ=some m->ν.bx (.loc m)=none/\ν.ow (.loc m)=none/\∀j b,¬ν.tr (.loc m) j b) {n':Nat} {o':List aO} (hM:∀k,fresh n' o' k->fresh st.n (st.o++gj aq) k/\∀m,κ=some m->k≠ .loc m) (si:jc aq) (aY:qG ⟨w,ν.cut (ag s),gn (ν.cut (ag s)) s,0,gj s,h.fr.gl.cut _,[]⟩ w' ν')
  (sf:∀m,(look (.obj m) aq.b).isSome->(look (.obj m) s.b).isSome\/ .obj m∉st.o) (cD:∀m,(look (.obj m) aq.e).isSome->(look (.obj m) s.e).isSome\/ .obj m∉st.o) (d:a1 Nat) (aP:hv C.N d=true) {r:al} {v:Value} (hr:aT w' ν' r v):
  cv C {after st s aq d r with n:=n',o:=o'} (a.put d v) w' (ν.join ν' s aq):=by
 have wx:∀k,(look k s.b).isSome->(look k st.b).isSome:=fun k aa=>by obtain⟨cs,da⟩:=fG.1 aa;simp[(ao k cs da).1]
 have kR:∀k,(look k s.e).isSome->(look k st.e).isSome:=fun k aa=>by obtain⟨cs,da⟩:=fG.1 aa;simp[(he k cs da).1]
 have acV:∀k,(look k aq.b).isSome->¬(look k s.b).isSome->ν.bx k=none:=fun k aa aJ=>by
  cases k with
  |loc m=>rw[si.1 m]at aa;cases aa
  |obj m=>exact(h.new (.obj m) ⟨trivial,(sf m aa).resolve_left aJ⟩).1
 have acW:∀k,(look k aq.e).isSome->¬(look k s.e).isSome->ν.ow k=none:=fun k aa aJ=>by
  cases k with
  |loc m=>rw[si.2 m]at aa;cases aa
  |obj m=>exact(h.new (.obj m) ⟨trivial,(cD m aa).resolve_left aJ⟩).2.1
 have adT:∀k,(look k s.b).isSome->(ν.join ν' s aq).bx k=ν'.bx k:=fun k aa=>by simp[aW.join,aa]
 have RW:∀k,(look k aq.b).isSome->(ν.join ν' s aq).bx k=ν'.bx k:=fun k aa=>by simp[aW.join,aa]
 have RX:∀k,ν.bx k≠none->¬(look k s.b).isSome->(ν.join ν' s aq).bx k=ν.bx k:=fun k I J=>by have aA:¬(look k aq.b).isSome:=fun aA=>I (acV k aA J);simp[aW.join,J,aA]
 have adU:∀k,(look k s.e).isSome->(ν.join ν' s aq).ow k=ν'.ow k:=fun k aa=>by simp[aW.join,aa]
 have J3:∀k,(look k aq.e).isSome->(ν.join ν' s aq).ow k=ν'.ow k:=fun k aa=>by simp[aW.join,aa]
 have J4:∀k,ν.ow k≠none->¬(look k s.e).isSome->(ν.join ν' s aq).ow k=ν.ow k:=fun k I J=>by have aA:¬(look k aq.e).isSome:=fun aA=>I (acW k aA J);simp[aW.join,J,aA]
 have V7:∀k b,ν'.bx k=some b->(look k aq.b).isSome:=fun k b aa=>by
  cases aG:look k aq.b with
  |some _=>rfl
  |none=>rw[(ad k).1 aG]at aa;cases aa
 have V8:∀k b,ν'.ow k=some b->(look k aq.e).isSome:=fun k b aa=>by
  cases aG:look k aq.e with
  |some _=>rfl
  |none=>rw[(ad k).2.1 aG]at aa;cases aa
 have az:lW w ν w' (ν.join ν' s aq):=by
  refine⟨fun b o bq=>aY.keep b o bq,fun k b _ aa=>?_,fun g n u _ aR=>?_,fun b o bq=>aY.sh b o bq,fun _ _ _ _ h=>.inl h⟩
  ·by_cases au:(look k s.b).isSome
   ·rw[adT k au];cases k with
    |loc m=>rw[l4.1 m]at au;cases au
    |obj m=>exact aY.obj m b (by rw[aW.cut_bx (.inl au)];exact aa)
   ·rw[RX k (by rw[aa];simp) au];exact aa
  ·by_cases au:(look g s.e).isSome
   ·rw[adU g au];cases g with
    |loc m=>rw[l4.2 m]at au;cases au
    |obj m=>exact aY.row m n u (by rw[aW.cut_ow (.inr au)];exact aR)
   ·rw[J4 g (by rw[aR];simp) au];exact⟨n,u,aR,.inl ⟨rfl,rfl⟩⟩
 have h5:lW w' ν' w' (ν.join ν' s aq):=⟨fun b o bq=>⟨bq,rfl⟩,fun k b _ aa=>by rw[RW k (V7 k b aa)];exact aa,fun g n u _ aa=>⟨n,u,by rw[J3 g (V8 g _ aa)];exact aa,.inl ⟨rfl,rfl⟩⟩,fun _ _ _=>rfl,fun _ _ _ _ h=>.inr h⟩
 have oD:∀bl,gn (ν.cut (ag s)) s bl->C.pr bl/\bl<w.heap.size:=by
  intro bl eE;rcases eE with⟨k,I,J⟩|⟨g,n,u,I,J,aA⟩
  ·have aS:=(aW.cut_some J).2;obtain⟨cs,da⟩:=fG.1 (wx k I);obtain⟨iy,us,el,g1,g2,_⟩:=h.good.box k cs da;rw[aS]at g1;cases g1;exact⟨g2,h.good.boxLt da aS⟩
  ·have aS:=(aW.cut_someO J).2;obtain⟨o,Fl⟩:=fG.1 (kR g I);obtain⟨v',us,g1,g2,g3,_⟩:=h.good.own g o Fl;rw[aS]at g1;cases g1;exact⟨(g3 bl aA).1,h.good.ownLt Fl aS aA⟩
 have Rm:∀bl,gn (ν.cut (ag s)) s bl\/w.heap.size<=bl->C.pr bl:=fun bl eE=>by
  rcases eE with eE|eE
  ·exact(oD bl eE).1
  ·exact .inr (Nat.le_trans h.fr.size eE)
 have ade:∀k cs bl,look k st.b=some cs->¬(look k s.b).isSome->ν.bx k=some bl->¬gn (ν.cut (ag s)) s bl:=by
  intro k cs bl I J aA aS;rcases aS with⟨bz,b4,a2⟩|⟨g,n,u,b4,a2,a3⟩
  ·have:=h.good.inj k bz bl (by simp[I]) (wx bz b4) aA (aW.cut_some a2).2;subst this;exact J b4
  ·exact h.good.obx g k n u bl (kR g b4) (by simp[I]) (aW.cut_someO a2).2 a3 aA
 have adf:∀g o n u bl,look g st.e=some o->¬(look g s.e).isSome->ν.ow g=some (n,u)->u.ownBlock=some bl->¬gn (ν.cut (ag s)) s bl:=by
  intro g o n u bl I J aA aS bG;rcases bG with⟨bz,b4,a2⟩|⟨eP,n',fe,b4,a2,a3⟩
  ·exact h.good.obx g bz n u bl (by simp[I]) (wx bz b4) aA aS (aW.cut_some a2).2
  ·have:=h.good.oinj g eP n n' u fe bl (by simp[I]) (kR eP b4) aA (aW.cut_someO a2).2 aS a3;subst this;exact J b4
 have OJ:∀k cs,look k (aX s.b st.b++aq.b)=some cs->(¬(look k s.b).isSome/\look k st.b=some cs)\/look k aq.b=some cs:=by
  intro k cs aa;rw[yl,tO]at aa;by_cases au:(look k s.b).isSome
  ·simp only[au,if_true]at aa;exact .inr aa
  ·simp only[au]at aa;cases aG:look k st.b with
   |some x=>simp[aG]at aa;subst aa;exact .inl ⟨au,rfl⟩
   |none=>simp[aG]at aa;exact .inr aa
 have OK:∀k cs,look k (aX s.e st.e++aq.e)=some cs->(¬(look k s.e).isSome/\look k st.e=some cs)\/look k aq.e=some cs:=by
  intro k cs aa;rw[yl,tO]at aa;by_cases au:(look k s.e).isSome
  ·simp only[au,if_true]at aa;exact .inr aa
  ·simp only[au]at aa;cases aG:look k st.e with
   |some x=>simp[aG]at aa;subst aa;exact .inl ⟨au,rfl⟩
   |none=>simp[aG]at aa;exact .inr aa
 have vz:∀bl,gn (ν.cut (ag s)) s bl\/w.heap.size<=bl->∀iy,iy<w.heap.size->¬gn (ν.cut (ag s)) s iy->bl≠iy:=by
  intro bl I iy J aA e;subst e;rcases I with I|I
  ·exact aA I
  ·omega
 have J5:∀bl,bl<w.heap.size->¬gn (ν.cut (ag s)) s bl->w'.heap[bl]? =w.heap[bl]?:=fun bl I J=>aY.block bl I J;have isB:∀k bl,(look k (aX s.b st.b++aq.b)).isSome->(ν.join ν' s aq).bx k=some bl->(¬(look k s.b).isSome/\(look k st.b).isSome/\ν.bx k=some bl)\/((look k aq.b).isSome/\ν'.bx k=some bl):=by
  intro k bl aa jR;obtain⟨cs,da⟩:=fG.1 aa;rcases OJ k cs da with⟨I,J⟩|I
  ·obtain⟨iy,us,el,g1,_⟩:=h.good.box k cs J;rw[RX k (by rw[g1];simp) I]at jR;exact .inl ⟨I,by simp[J],jR⟩
  ·rw[RW k (by simp[I])]at jR;exact .inr ⟨by simp[I],jR⟩
 have FB:∀k x,(look k (aX s.e st.e++aq.e)).isSome->(ν.join ν' s aq).ow k=some x->(¬(look k s.e).isSome/\(look k st.e).isSome/\ν.ow k=some x)\/((look k aq.e).isSome/\ν'.ow k=some x):=by
  intro k x aa jR;obtain⟨cs,da⟩:=fG.1 aa;rcases OK k cs da with⟨I,J⟩|I
  ·obtain⟨v',us,g1,_⟩:=h.good.own k cs J;rw[J4 k (by rw[g1];simp) I]at jR;exact .inl ⟨I,by simp[J],jR⟩
  ·rw[J3 k (by simp[I])]at jR;exact .inr ⟨by simp[I],jR⟩
 have Bp:∀k bl,¬(look k s.b).isSome->(look k st.b).isSome->ν.bx k=some bl->bl<w.heap.size/\¬gn (ν.cut (ag s)) s bl:=by intro k bl I J aA;obtain⟨cs,da⟩:=fG.1 J;exact⟨h.good.boxLt da aA,ade k cs bl da I aA⟩
 have yF:∀k n u bl,¬(look k s.e).isSome->(look k st.e).isSome->ν.ow k=some (n,u)->u.ownBlock=some bl->bl<w.heap.size/\¬gn (ν.cut (ag s)) s bl:=by intro k n u bl I J aA aS;obtain⟨cs,da⟩:=fG.1 J;exact⟨h.good.ownLt da aA aS,adf k cs n u bl da I aA aS⟩
 have D2:∀k bl,(look k aq.b).isSome->ν'.bx k=some bl->gn (ν.cut (ag s)) s bl\/w.heap.size<=bl:=by intro k bl I J;obtain⟨cs,da⟩:=fG.1 I;obtain⟨iy,us,el,g1,g2,_⟩:=aR.box k cs da;rw[J]at g1;cases g1;exact g2
 have GM:∀k n u bl,(look k aq.e).isSome->ν'.ow k=some (n,u)->u.ownBlock=some bl->gn (ν.cut (ag s)) s bl\/w.heap.size<=bl:=by intro k n u bl I J aA;obtain⟨cs,da⟩:=fG.1 I;obtain⟨v',us,g1,g2,g3,_⟩:=aR.own k cs da;rw[J]at g1;cases g1;exact(g3 bl aA).1
 have bq:∀bl o,ν'.A bl o->bl<w.heap.size->¬gn (ν.cut (ag s)) s bl->ν.A bl o:=by
  intro bl o I J aA;rcases aY.fresh bl o I with aS|aS|aS
  ·exact aS
  ·exact absurd aS aA
  ·simp only at aS;omega
 have p7:cv C {t:=st.t,b:=aX s.b st.b++aq.b,e:=aX s.e st.e++aq.e,n:=n',o:=o'} a w' (ν.join ν' s aq):=by
  refine h.over az rfl ⟨aR.alt,fun k cs aa=>?_,fun k bz bl I J aA aS=>?_,fun g o eL=>?_,fun g eP n n' u fe bl I J aA aS bG cq=>?_,fun g k n u bl I J aA aS bG=>?_,fun k=>?_,fun bl aI k j fy=>?_⟩
   ⟨aY.os.trans h.fr.os,aY.tape.trans h.fr.tape,aY.output.trans h.fr.output,Nat.le_trans h.fr.size aY.size,fun k aa hm=>?_,fun b o r4=>?_,fun b o r4=>?_,fun n b aJ=>az.bx _ _ trivial (h.fr.obj n b aJ),h.fr.obn,
    fun m n u hm=>Dt (h.fr.row m n u hm) (fun n u=>az.ow _ n u trivial),h.fr.obr,fun k j bz fb b I J=>?_,fun k j b ao=>?_,fun k j b ao=>?_,fun b o bq=>(az.sh b o (h.fr.keep b o bq).1).trans (h.fr.sh b o bq),fun j n u b aB aU=>h.fr.nrow j n u b (by simpa[aW.join,l4.2 j,si.2 j]using aB) aU⟩ (fun k aa=>?_) (fun m hm=>xI (c7 _) (fun _ h=>rF _ h) (hM m hm).1)
  ·rcases OJ k cs aa with⟨I,J⟩|I
   ·obtain⟨bl,us,el,g1,g2,g3,g4,g5⟩:=h.good.box k cs J;obtain⟨ck,cr⟩:=Bp k bl I (by simp[J]) g1;exact⟨bl,us,el,az.bx _ _ trivial g1,g2,fun o r4=>g3 o (bq bl o r4 ck cr),by rw[J5 bl ck cr];exact g4,pz az g5⟩
   ·obtain⟨bl,us,el,g1,g2,g3,g4,g5⟩:=aR.box k cs I;exact⟨bl,us,el,h5.bx _ _ trivial g1,Rm bl g2,g3,g4,pz h5 g5⟩
  ·rcases isB k bl I aA with⟨b4,a2,a3⟩|⟨b4,a2⟩<;>rcases isB bz bl J aS with⟨ck,cr,fo⟩|⟨ck,cr⟩
   ·exact h.good.inj k bz bl a2 cr a3 fo
   ·obtain⟨c8,c2⟩:=Bp k bl b4 a2 a3;exact absurd rfl (vz bl (D2 bz bl ck cr) bl c8 c2)
   ·obtain⟨c8,c2⟩:=Bp bz bl ck cr fo;exact absurd rfl (vz bl (D2 k bl b4 a2) bl c8 c2)
   ·exact aR.inj k bz bl b4 ck a2 cr
  ·rcases OK g o eL with⟨I,J⟩|I
   ·obtain⟨u,us,g1,g2,g3,g4⟩:=h.good.own g o J;refine⟨u,us,by rw[J4 g (by rw[g1];simp) I];exact g1,⟨g2.1,?_⟩,fun bl eE=>?_,rj az (fun bl eE j r4=>?_) g4⟩
    ·rcases g2.2 with aU|⟨hT,cap,cur,f1,f2,f3,f4⟩
     ·exact .inl aU
     ·obtain⟨ck,cr⟩:=yF g _ u hT I (by simp[J]) g1 (by rw[f1];rfl);exact .inr ⟨hT,cap,cur,f1,f2,by rw[J5 hT ck cr];exact f3,f4⟩
    ·obtain⟨ck,cr⟩:=yF g _ u bl I (by simp[J]) g1 eE;exact⟨(g3 bl eE).1,fun j r4=>(g3 bl eE).2 j (bq bl j r4 ck cr)⟩
    ·obtain⟨ck,cr⟩:=yF g _ u bl I (by simp[J]) g1 eE;exact bq bl j r4 ck cr
   ·obtain⟨u,us,g1,g2,g3,g4⟩:=aR.own g o I;exact⟨u,us,by rw[J3 g (by simp[I])];exact g1,g2,fun bl eE=>⟨Rm bl (g3 bl eE).1,(g3 bl eE).2⟩,rj h5 (fun _ _ _ h=>h) g4⟩
  ·rcases FB g _ I aA with⟨b4,a2,a3⟩|⟨b4,a2⟩<;>rcases FB eP _ J aS with⟨ck,cr,fo⟩|⟨ck,cr⟩
   ·exact h.good.oinj g eP n n' u fe bl a2 cr a3 fo bG cq
   ·obtain⟨c8,c2⟩:=yF g n u bl b4 a2 a3 bG;exact absurd rfl (vz bl (GM eP n' fe bl ck cr cq) bl c8 c2)
   ·obtain⟨c8,c2⟩:=yF eP n' fe bl ck cr fo cq;exact absurd rfl (vz bl (GM g n u bl b4 a2 bG) bl c8 c2)
   ·exact aR.oinj g eP n n' u fe bl b4 ck a2 cr bG cq
  ·rcases FB g _ I aA with⟨b4,a2,a3⟩|⟨b4,a2⟩<;>rcases isB k bl J bG with⟨ck,cr,fo⟩|⟨ck,cr⟩
   ·exact h.good.obx g k n u bl a2 cr a3 aS fo
   ·obtain⟨c8,c2⟩:=yF g n u bl b4 a2 a3 aS;exact absurd rfl (vz bl (D2 k bl ck cr) bl c8 c2)
   ·obtain⟨c8,c2⟩:=Bp k bl ck cr fo;exact absurd rfl (vz bl (GM g n u bl b4 a2 aS) bl c8 c2)
   ·exact aR.obx g k n u bl b4 ck a2 aS cr
  ·
   cases jR:(ν.join ν' s aq).bx k with
   |none=>exact .inl rfl
   |some bl=>
    right;cases nQ:(ν.join ν' s aq).ow k with
    |none=>rfl
    |some x=>
     exfalso;have aB:(ν.bx k=some bl/\¬(look k s.b).isSome/\¬(look k aq.b).isSome)\/ν'.bx k=some bl:=by
      by_cases au:(look k s.b).isSome\/(look k aq.b).isSome
      ·right;simpa[aW.join,au]using jR
      ·left;simp only[not_or]at au;exact⟨by simpa[aW.join,au.1,au.2]using jR,au.1,au.2⟩
     have aU:(ν.ow k=some x/\¬(look k s.e).isSome/\¬(look k aq.e).isSome)\/ν'.ow k=some x:=by
      by_cases au:(look k s.e).isSome\/(look k aq.e).isSome
      ·right;simpa[aW.join,au]using nQ
      ·left;simp only[not_or]at au;exact⟨by simpa[aW.join,au.1,au.2]using nQ,au.1,au.2⟩
     rcases aB with⟨b4,a2,a3⟩|b4<;>rcases aU with⟨ck,cr,fo⟩|ck
     ·rcases h.good.one k with bX|bX
      ·rw[bX]at b4;cases b4
      ·rw[bX]at ck;cases ck
     ·have xZ:=V8 k x ck;have eQ:(look k s.e).isSome:=by
       cases k with
       |loc m=>rw[si.2 m]at xZ;cases xZ
       |obj m=>
        rcases cD m xZ with bX|bX
        ·exact bX
        ·rw[(h.new (.obj m) ⟨trivial,bX⟩).1]at b4;cases b4
      obtain⟨o,Fl⟩:=fG.1 (kR k eQ);obtain⟨v',us,g1,_⟩:=h.good.own k o Fl;rcases h.good.one k with bX|bX
      ·rw[bX]at b4;cases b4
      ·rw[bX]at g1;cases g1
     ·have Fa:=V7 k bl b4;have eQ:(look k s.b).isSome:=by
       cases k with
       |loc m=>rw[si.1 m]at Fa;cases Fa
       |obj m=>
        rcases sf m Fa with bX|bX
        ·exact bX
        ·rw[(h.new (.obj m) ⟨trivial,bX⟩).2.1]at ck;cases ck
      obtain⟨cs,da⟩:=fG.1 (wx k eQ);obtain⟨iy,us,el,g1,_⟩:=h.good.box k cs da;rcases h.good.one k with bX|bX
      ·rw[bX]at g1;cases g1
      ·rw[bX]at ck;cases ck
     ·rcases aR.one k with bX|bX
      ·rw[bX]at b4;cases b4
      ·rw[bX]at ck;cases ck
  ·have Q6:∀k j,ν'.tr k j bl->w.heap.size<=bl:=fun k j bX=>by
    rcases(aY.trb k j bl bX).1 with a2|a2
    ·obtain⟨m,_,hm⟩:=(ad k).2.2 j bl bX;rw[hm]at a2;cases a2
    ·exact a2
   have hold:gn (ν.cut (ag s)) s bl->¬ν.tr k j bl:=by
    rintro(⟨bz,b4,a2⟩|⟨g,n,u,b4,a2,a3⟩) bX
    ·exact h.good.otr bl (.inl ⟨bz,wx bz b4,(aW.cut_some a2).2⟩) k j bX
    ·exact h.good.otr bl (.inr ⟨g,n,u,kR g b4,(aW.cut_someO a2).2,a3⟩) k j bX
   have lC:gn (ν.cut (ag s)) s bl\/w.heap.size<=bl->¬ν.tr k j bl:=by
    rintro(I|I) bX
    ·exact hold I bX
    ·have:=(h.fr.trb k j bl bX).2;omega
   rcases aI with⟨bz,b4,a2⟩|⟨g,n,u,b4,a2,a3⟩
   ·rcases isB bz bl b4 a2 with⟨ck,cr,fo⟩|⟨ck,cr⟩
    ·rcases fy with fy|fy
     ·exact h.good.otr bl (.inl ⟨bz,cr,fo⟩) k j fy
     ·have:=(Bp bz bl ck cr fo).1;have:=Q6 k j fy;omega
    ·rcases fy with fy|fy
     ·exact lC (D2 bz bl ck cr) fy
     ·exact aR.otr bl (.inl ⟨bz,ck,cr⟩) k j fy
   ·rcases FB g _ b4 a2 with⟨ck,cr,fo⟩|⟨ck,cr⟩
    ·rcases fy with fy|fy
     ·exact h.good.otr bl (.inr ⟨g,n,u,cr,fo,a3⟩) k j fy
     ·have:=(yF g n u bl ck cr fo a3).1;have:=Q6 k j fy;omega
    ·rcases fy with fy|fy
     ·exact lC (GM g n u bl ck cr a3) fy
     ·exact aR.otr bl (.inr ⟨g,n,u,ck,cr,a3⟩) k j fy
  ·have bY:k<w.heap.size:=Nat.lt_of_lt_of_le aa h.fr.size;rw[J5 k bY fun eE=>by
    rcases(oD k eE).1 with I|I
    ·exact hm I
    ·omega]
   exact h.fr.block k aa hm
  ·obtain⟨cE,dj⟩:=h.fr.keep b o r4;obtain⟨gD,jV⟩:=aY.keep b o cE;exact⟨gD,jV.trans dj⟩
  ·rcases aY.fresh b o r4 with aS|aS|aS
   ·exact h.fr.fresh b o aS
   ·exact .inr (oD b aS).1
   ·exact .inr (.inr (Nat.le_trans h.fr.size aS))
  ·rcases I with I|I<;>rcases J with J|J
   ·exact h.fr.trd k j bz fb b I J
   ·have b4:=(h.fr.trb k j b I).2;have a2:=(aY.trb bz fb b J).1;rcases a2 with a2|a2
    ·obtain⟨m,_,hm⟩:=(ad bz).2.2 fb b J;rw[hm]at a2;cases a2
    ·simp only at a2;omega
   ·have b4:=(h.fr.trb bz fb b J).2;have a2:=(aY.trb k j b I).1;rcases a2 with a2|a2
    ·obtain⟨m,_,hm⟩:=(ad k).2.2 j b I;rw[hm]at a2;cases a2
    ·simp only at a2;omega
   ·exact aY.trd k j bz fb b I J
  ·rcases ao with ao|ao
   ·exact⟨(h.fr.trb k j b ao).1,Nat.lt_of_lt_of_le (h.fr.trb k j b ao).2 aY.size⟩
   ·refine⟨.inr ?_,(aY.trb k j b ao).2⟩;rcases(aY.trb k j b ao).1 with a2|a2
    ·obtain⟨m,_,hm⟩:=(ad k).2.2 j b ao;rw[hm]at a2;cases a2
    ·exact Nat.le_trans h.fr.size a2
  ·have key:ν.bx k=none/\ν.ow k=none/\¬(look k aq.b).isSome/\¬(look k aq.e).isSome:=by
    rcases ao with ao|ao
    ·obtain⟨t1,t2⟩:=h.fr.trn k j b ao;refine⟨t1,t2,fun bX=>?_,fun bX=>?_⟩
     ·cases k with
      |loc m=>rw[si.1 m]at bX;cases bX
      |obj m=>
       rcases sf m bX with bG|bG
       ·obtain⟨cs,da⟩:=fG.1 (wx _ bG);obtain⟨iy,us,el,g1,_⟩:=h.good.box _ cs da;rw[t1]at g1;cases g1
       ·exact(h.new (.obj m) ⟨trivial,bG⟩).2.2 j b ao
     ·cases k with
      |loc m=>rw[si.2 m]at bX;cases bX
      |obj m=>
       rcases cD m bX with bG|bG
       ·obtain⟨cs,da⟩:=fG.1 (kR _ bG);obtain⟨iy,us,g1,_⟩:=h.good.own _ cs da;rw[t2]at g1;cases g1
       ·exact(h.new (.obj m) ⟨trivial,bG⟩).2.2 j b ao
    ·obtain⟨m,hm,rfl⟩:=(ad k).2.2 j b ao;obtain⟨t1,t2,_⟩:=Fx m hm;exact⟨t1,t2,by simp[si.1 m],by simp[si.2 m]⟩
   obtain⟨t1,t2,t3,t4⟩:=key;have t5:¬(look k s.b).isSome:=fun bX=>by obtain⟨cs,da⟩:=fG.1 (wx _ bX);obtain⟨iy,us,el,g1,_⟩:=h.good.box _ cs da;rw[t1]at g1;cases g1
   have t6:¬(look k s.e).isSome:=fun bX=>by obtain⟨cs,da⟩:=fG.1 (kR _ bX);obtain⟨iy,us,g1,_⟩:=h.good.own _ cs da;rw[t2]at g1;cases g1
   exact⟨by simp[aW.join,t3,t5,t1],by simp[aW.join,t4,t6,t2]⟩
  ·
   simp only at aa;obtain⟨aa,acB⟩:=hM k aa;have Rc:(∀j b,¬ν.tr k j b)->∀j b,¬(ν.join ν' s aq).tr k j b:=fun I j b ao=>by
    rcases ao with ao|ao
    ·exact I j b ao
    ·obtain⟨m,hm,e⟩:=(ad k).2.2 j b ao;exact acB m hm e
   cases k with
   |loc m=>obtain⟨hn,fS,jb⟩:=h.new (.loc m) (xI (c7 _) (fun _ h=>rF _ h) aa);exact⟨by simp[aW.join,l4.1 m,si.1 m,hn],by simp[aW.join,l4.2 m,si.2 m,fS],Rc jb⟩
   |obj m=>
    simp only[fresh,fM,not_or,true_and]at aa;obtain⟨hn,fS,jb⟩:=h.new (.obj m) ⟨trivial,aa.1⟩;have cz:¬(look (.obj m) aq.b).isSome:=fun bX=>aa.2 (Ai (.inl bX));have db:¬(look (.obj m) aq.e).isSome:=fun bX=>aa.2 (Ai (.inr bX));have eo:¬(look (.obj m) s.b).isSome:=fun bX=>by obtain⟨cs,da⟩:=fG.1 (wx _ bX);obtain⟨iy,us,el,g1,_⟩:=h.good.box _ cs da;rw[hn]at g1;cases g1
    have dC:¬(look (.obj m) s.e).isSome:=fun bX=>by obtain⟨cs,da⟩:=fG.1 (kR _ bX);obtain⟨v',us,g1,_⟩:=h.good.own _ cs da;rw[fS]at g1;cases g1
    exact⟨by simp[aW.join,cz,eo,hn],by simp[aW.join,db,dC,fS],Rc jb⟩
 exact p7.put aP (vt h5 hr)
end
end Go.Pv
