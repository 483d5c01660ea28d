/- A call, by its contract. -/
import Derived.Deep.AppendSrc
import Derived.Laws.OwnMore
import Derived.Test.YtlnndmgfngfeiaaGreatDoorZn1
set_option linter.all false
set_option maxHeartbeats 4000000
set_option maxRecDepth 4000
open Bool renaming and_eq_true->bJ,false_eq_true->kG
open ByteArray renaming size->OA
open Go renaming Operand->iX,Program->bS,TypeId->fX
open Go.Builtin renaming append_->uo
open Go.Result renaming andThen_ok->fw
open Go.Sem renaming run_bind->fu,run_pure->gq
open Go.Value renaming cells->nO,int->oV,ownBlock->ov
open Go.World.grownBy renaming refl->alz
open List renaming append_assoc->lr,cons_append->dF,eq_nil_of_length_eq_zero->sI,getElem?_append_left->qB,getElem?_eq_getElem->cL,getElem?_eq_some_iff->fo,length_append->gx,length_cons->gg,length_drop->hX,length_map->nh,length_pos_iff->sJ,length_take->pS,map_cons->fF,mem_append->hl,mem_append_left->ni,mem_append_right->k2,mem_map->nj,nil_append->eE,take_append_drop->ry,take_length->hE,take_of_length_le->vB
open Nat renaming le_refl->cc,zero_le->pT
open Option renaming isSome_iff_exists->fv,isSome_none->uu,map_none->vC,map_some->lM
open Option.some renaming injEq->ei
open Prod.mk renaming injEq->gY
open _root_ renaming ByteArray->k1,False->dr,Option->aW,UInt8->aj,beq_iff_eq->eA,congrArg->er,decide_eq_true_eq->fs,if_neg->br
namespace Go.Pv
section
open Go Go.RowKit
theorem cm.inPlace{C:eK}{st:aU}{a:Act}{w:World}{ν:aQ}(h:cm C st a w ν){k:aC}{o:dn}(ab:look k st.e=some o){bl cap:Nat}{cur:Array Value}(aN:ν.ow k=some (o.n,.slice (some ⟨bl,0,none⟩) o.n cap))
  (wc:w.heap[bl]? =some (.cells cur o.el (0,0))) (tg:cap<=maxLen) (dz:cur.size=cap*o.sz) {xs ys:List ae} {us ns:List Value} (lf:xs.length=o.n) (kR:cur.toList.take (o.n*o.sz)=us) (aH:cV w ν o.sz xs us) (Dl:cV w ν o.sz ys ns)
  (hp:0<ys.length) (oN:o.n+ys.length<=cap) (e5:xs.length+ys.length<=aR):
  cm C {st with e:=dj k ⟨o.n+ys.length,o.el,o.sz,none⟩ st.e} a (w.setRow bl (us++ns++cur.toList.drop (o.n*o.sz+ns.length)).toArray)
   (ν.withRowOf k (.slice (some ⟨bl,0,none⟩) (o.n+ys.length) cap) (o.n+ys.length) ((o.n+ys.length)*o.sz))/\
  aJ (w.setRow bl (us++ns++cur.toList.drop (o.n*o.sz+ns.length)).toArray) (ν.withRowOf k (.slice (some ⟨bl,0,none⟩) (o.n+ys.length) cap) (o.n+ys.length) ((o.n+ys.length)*o.sz))
   (.slice o.sz (.own k) (xs++ys)) (.slice (some ⟨bl,0,none⟩) (o.n+ys.length) cap):=by
 have jf:=rf Dl;have rW:=rf aH;rw[lf]at rW;have hmul:(o.n+ys.length)*o.sz<=cap*o.sz:=Nat.mul_le_mul_right _ oN;rw[Nat.add_mul]at hmul;obtain⟨v0,fq,b0,cS,dT,_⟩:=h.good.own k o ab;rw[aN]at b0;cases b0;obtain⟨dY,di⟩:=dT bl rfl;generalize pA:w.setRow bl (us++ns++cur.toList.drop (o.n*o.sz+ns.length)).toArray=w';have lb:∀j,j≠bl->w'.heap[j]? =w.heap[j]?:=fun j ai=>by rw[<-pA];exact setRow_other w bl j _ ai
 have k9:w'.heap[bl]? =some (.cells (us++ns++cur.toList.drop (o.n*o.sz+ns.length)).toArray o.el (0,0)):=by rw[<-pA];exact setRow_heap w bl cur _ o.el _ wc
 have K4:w'.heap.size=w.heap.size:=by rw[<-pA];exact setRow_size w bl _
 have po:∀j,j<o.n*o.sz->w'.cell? ⟨bl,j,none⟩=w.cell? ⟨bl,j,none⟩:=by intro j ai;simp only[World.cell?,k9,wc,uu,kG,if_false];rw[List.getElem?_toArray,lr,qB Ω,<-kR,List.getElem?_take,if_pos ai];simp
 have aq:mK w ν w' (ν.withRowOf k (.slice (some ⟨bl,0,none⟩) (o.n+ys.length) cap) (o.n+ys.length) ((o.n+ys.length)*o.sz)):=by
  refine⟨fun b j bf=>⟨.inl bf,?_⟩,fun j b _ ai=>ai,fun g n u _ jl=>?_,fun b j bf=>?_,fun _ _ _ _ h=>h⟩;rotate_left 2
  ·by_cases e:b=bl
   ·subst e;simp only[shape,k9,wc,List.size_toArray,gx,hX,Array.length_toList];congr 2;omega
   ·exact zY (lb b e)
  ·by_cases e:b=bl
   ·subst e;exact po j (di j bf)
   ·exact World.cell?_of_block (lb b e)
  ·by_cases e:g=k
   ·subst e;rw[aN]at jl;cases jl;exact⟨o.n+ys.length,.slice (some ⟨bl,0,none⟩) (o.n+ys.length) cap,by simp[aQ.withRowOf],.inr Ω⟩
   ·exact⟨n,u,by simp[aQ.withRowOf,e,jl],.inl ⟨rfl,rfl⟩⟩
 have lC:∀g,(look g (dj k ⟨o.n+ys.length,o.el,o.sz,none⟩ st.e)).isSome->g=k\/(g≠k/\(look g st.e).isSome/\(ν.withRowOf k (.slice (some ⟨bl,0,none⟩) (o.n+ys.length) cap) (o.n+ys.length) ((o.n+ys.length)*o.sz)).ow g=ν.ow g):=by
  intro g hb;by_cases e:g=k
  ·exact .inl e
  ·rw[jK,br (Ne.symm e)]at hb;exact .inr ⟨e,hb,by simp[aQ.withRowOf,e]⟩
 have anq:bl<w.heap.size:=(Array.getElem?_eq_some_iff.1 wc).1;have Dk:∀j u,(us++ns)[j]? =some u->w'.cell? ⟨bl,j,none⟩=some u:=by intro j u ai;have fU:=(fo.1 ai).1;simp only[World.cell?,k9,uu,kG,if_false];rw[List.getElem?_toArray,qB fU];exact ai
 refine⟨h.over aq rfl ⟨fun b j bf=>?_,fun j ds ai=>?_,h.good.inj,fun g o' fb=>?_,fun g et n n' u eJ b I J au aP bA cy=>?_,fun g j n u b I J au aP bA=>?_,fun j=>?_,fun b ah=>h.good.otr b ?_⟩
  ⟨by rw[<-pA];exact h.fr.os,by rw[<-pA];exact h.fr.tape,by rw[<-pA];exact h.fr.output,by rw[K4];exact h.fr.size,fun j ai hm=>?_,fun b j bf=>?_,fun b j bf=>?_,h.fr.obj,h.fr.obn,fun m n u hm=>EN (h.fr.row m n u hm) (fun n u=>aq.ow _ n u trivial),h.fr.obr,h.fr.trd,fun k j b ah=>⟨(h.fr.trb k j b ah).1,by rw[K4];exact(h.fr.trb k j b ah).2⟩,fun bn j b ah=>?_,fun b o bf=>(aq.sh b o (h.fr.keep b o bf).1).trans (h.fr.sh b o bf),fun j n u b ao aL=>(by
   by_cases e:aC.loc j=k
   ·subst e;simp only[aQ.withRowOf,if_true,ei,gY]at ao;rw[<-ao.2]at aL;have bB:b=bl:=by simpa[ov]using aL.symm
    subst bB;exact h.fr.nrow j _ _ b aN rfl
   ·simp only[aQ.withRowOf,br e]at ao;exact h.fr.nrow j n u b ao aL)⟩ (fun m hm=>?_),?_⟩
 ·rw[K4];rcases bf with bf|⟨bf,_⟩
  ·exact h.good.alt b j bf
  ·simp only[ov,ei]at bf;omega
 ·obtain⟨b,bE,fj,g1,g2,g3,g4,g5⟩:=h.good.box j ds ai;have b7:b≠bl:=fun e=>h.good.obx k j o.n _ bl (by simp[ab]) (by simp[ai]) aN rfl (by rw[<-e];exact g1);refine⟨b,bE,fj,g1,g2,fun i bf=>?_,by rw[lb b b7];exact g4,qn aq g5⟩;rcases bf with bf|⟨bf,_⟩
  ·exact g3 i bf
  ·simp only[ov,ei]at bf;exact b7 bf.symm
 ·simp only at fb;rw[jK]at fb;by_cases e:k=g
  ·rw[if_pos e]at fb;cases fb;subst e;refine⟨.slice (some ⟨bl,0,none⟩) (o.n+ys.length) cap,us++ns,by simp[aQ.withRowOf],⟨by rw[gx,rW,jf,Nat.add_mul],.inr ⟨bl,cap,_,rfl,pT _,k9,oN,tg,?_,?_⟩⟩,fun b ah=>⟨?_,fun j bf=>?_⟩,fun ys bG=>by cases bG⟩
   ·simp only[List.size_toArray,gx,hX,Array.length_toList];omega
   ·have aD:(us++ns).length=(o.n+ys.length)*o.sz:=by rw[gx,rW,jf,Nat.add_mul]
    simp only[<-aD];rw[List.take_append_of_le_length (cc _),hE]
   ·simp only[ov,ei]at ah;subst ah;exact dY
   ·simp only[ov,ei]at ah;subst ah;rcases bf with bf|⟨_,bf⟩
    ·have:=di j bf;simp only;rw[Nat.add_mul];omega
    ·exact bf
  ·rw[br e]at fb;obtain⟨v0,fq,ao,aL,bB,b9⟩:=h.good.own g o' fb;have b7:∀b,v0.ownBlock=some b->b≠bl:=fun b ah JN=>e (h.good.oinj k g o.n o'.n _ v0 bl (by simp[ab]) (by simp[fb]) aN ao rfl (by rw[<-JN];exact ah));have xJ:∀b,v0.ownBlock=some b->∀j,(ν.withRowOf k (.slice (some ⟨bl,0,none⟩) (o.n+ys.length) cap) (o.n+ys.length) ((o.n+ys.length)*o.sz)).A b j->ν.A b j:=fun b ah j bf=>by
    rcases bf with bf|⟨bf,_⟩
    ·exact bf
    ·simp only[ov,ei]at bf;exact absurd bf.symm (b7 b ah)
   refine⟨v0,fq,by simp[aQ.withRowOf,Ne.symm e,ao],⟨aL.1,?_⟩,fun b ah=>⟨(bB b ah).1,fun j bf=>(bB b ah).2 j (xJ b ah j bf)⟩,sc aq xJ b9⟩;rcases aL.2 with aL|⟨iq,AD,nq,f1,f2,f3,f4⟩
   ·exact .inl aL
   ·exact .inr ⟨iq,AD,nq,f1,f2,by rw[lb iq (b7 iq (by rw[f1];rfl))];exact f3,f4⟩
 ·rcases lC g I with rfl|⟨hi,gd,jL⟩<;>rcases lC et J with rfl|⟨m1,m2,m3⟩
  ·rfl
  ·exfalso;simp only[aQ.withRowOf,if_true,ei,gY]at au;rw[m3]at aP;rw[<-au.2]at bA;simp only[ov,ei]at bA;subst bA;exact m1 (h.good.oinj et g n' o.n eJ _ bl m2 (by simp[ab]) aP aN cy rfl)
  ·exfalso;simp only[aQ.withRowOf,if_true,ei,gY]at aP;rw[jL]at au;rw[<-aP.2]at cy;simp only[ov,ei]at cy;subst cy;exact hi (h.good.oinj g et n o.n u _ bl gd (by simp[ab]) au aN bA rfl)
  ·rw[jL]at au;rw[m3]at aP;exact h.good.oinj g et n n' u eJ b gd m2 au aP bA cy
 ·rcases lC g I with rfl|⟨hi,gd,jL⟩
  ·simp only[aQ.withRowOf,if_true,ei,gY]at au;rw[<-au.2]at aP;simp only[ov,ei]at aP;subst aP;exact h.good.obx g j o.n _ bl (by simp[ab]) J aN rfl bA
  ·rw[jL]at au;exact h.good.obx g j n u b gd J au aP bA
 ·by_cases e:j=k
  ·subst e;rcases h.good.one j with I|I
   ·exact .inl I
   ·rw[I]at aN;cases aN
  ·rcases h.good.one j with I|I
   ·exact .inl I
   ·exact .inr (by simp[aQ.withRowOf,e,I])
 ·rcases ah with ah|⟨g,n,u,bH,a2,a3⟩
  ·exact .inl ah
  ·rcases lC g bH with rfl|⟨hi,gd,jL⟩
   ·simp only[aQ.withRowOf,if_true,ei,gY]at a2;rw[<-a2.2]at a3;exact .inr ⟨g,_,_,by simp[ab],aN,a3⟩
   ·exact .inr ⟨g,n,u,gd,by rw[<-jL];exact a2,a3⟩
 ·rw[lb j fun e=>by subst e;exact dY.elim hm (fun g2=>Ω)];exact h.fr.block j ai hm
 ·obtain⟨cD,dI⟩:=h.fr.keep b j bf;exact⟨.inl cD,(aq.A b j cD).2.trans dI⟩
 ·rcases bf with bf|⟨bf,_⟩
  ·exact h.fr.fresh b j bf
  ·simp only[ov,ei]at bf;subst bf;exact .inr dY
 ·obtain⟨t1,t2⟩:=h.fr.trn bn j b ah;have b7:bn≠k:=fun e=>by subst e;rw[t2]at aN;cases aN
  exact⟨t1,by simp[aQ.withRowOf,b7,t2]⟩
 ·obtain⟨cD,dI,hA⟩:=h.new m hm;refine⟨cD,?_,hA⟩;have:m≠k:=fun e=>by subst e;rw[dI]at aN;cases aN
  simp[aQ.withRowOf,this,dI]
 ·simp only[aJ];refine⟨⟨some ⟨bl,0,none⟩,cap,by simp[lf],by simp;omega,⟨tg,by simpa using e5⟩,.inr ⟨bl,0,us++ns,rfl,Bu _ 0 fun j u ai=>?_,BW (BX aq aH) (BX aq Dl)⟩⟩,fun e=>(by cases e),fun g e=>?_,fun _ _ e=>(by cases e),fun _ e=>(by cases e)⟩
  ·have fU:=(fo.1 ai).1;rw[Nat.zero_add];refine⟨.inr ⟨rfl,?_⟩,Dk j u ai⟩;rw[gx,rW,jf]at fU;rw[Nat.add_mul];exact fU
  ·cases e;exact⟨o.n+ys.length,.slice (some ⟨bl,0,none⟩) (o.n+ys.length) cap,by simp[aQ.withRowOf],by simp[lf],fun _=>rfl⟩
theorem H4{P:bS}{w:World}{t ty e:fX}{i:TypeInfo}(aE:P.underlying t=some (.slice e))(aw:P.info? e=some i)(b:aW Addr)(n cap:Nat)(aM:n<=cap)(x:aW Addr)(c:Nat):
  (uo #[t,t] ty #[.slice b n cap,.slice x 0 c]).run P w= .ok (.slice b n cap) w:=by
 cases b<;>cases x<;>simp[uo,run_underlying aE,sizeOf,typeInfo,aw,Builtin.lenOf,aM,Builtin.firstCells,loadCells,loadCellsFrom,storeCells]
inductive ej where
 |v (d:Nat) (i:gC)
 |box (d:Nat) (key:aW Nat) (x:dm)
 |alloc (d:Nat) (key:aW Nat) (zero:ae)
 |store (sz:Nat) (x y:dm)
 |bsl (d:Nat) (sz el:Nat) (xs:List dm)
 |app (d:Nat) (sz el:Nat) (x y:dm)
 |bslm (d:Nat) (key:aW Nat) (sz el:Nat) (xs:List dm)
 |appm (d:Nat) (key:aW Nat) (sz el:Nat) (x y:dm)
 |mkmap (d:Nat) (key:aW Nat)
 |mput (cg:kJ) (x k v:dm)
 |range (d:Nat) (key:aW Nat) (x:dm)
 |storeE (sz:Nat) (x y:dm)
 |mks (d:Nat) (key:aW Nat) (sz el:Nat) (z:ae) (x:dm)
 |apps (d el:Nat) (x y:dm)
def jq(st:aU):aW Nat->aC
 |none=>.loc st.n
 |some m=>.obj m
def q2(st:aU):aW Nat->Prop
 |none=>.loc st.n∉st.o
 |some m=>.obj m∉st.o
def oe(st:aU):aW Nat->Nat
 |none=>st.n+1
 |some _=>st.n
def og(st:aU):aW Nat->List aC
 |none=>st.o
 |some m=>.obj m::st.o
theorem yb{st:aU}{key:aW Nat}(h:q2 st key):fresh st.n st.o (jq st key):=by cases key<;>simp[jq,fresh,q2]at h⊢ <;>exact h
theorem yc{st:aU}{key:aW Nat}:∀j,fresh (oe st key) (og st key) j->fresh st.n st.o j/\j≠jq st key:=by
 intro j ai;cases key<;>cases j<;>simp[fresh,oe,og,jq]at ai⊢
 ·exact⟨⟨Ω,ai.2⟩,Ω⟩
 ·exact ai
 ·exact ai
 ·exact⟨ai.2,ai.1⟩
def rJ(sz:Nat):List ae->Prop
 |[]=>True
 |p::bj=>(eV p=true/\(cells p).length=sz)/\rJ sz bj
def r3(cg:kJ)(k v:ae):List ae->aW (List ae)
 | .hdm clock borns::kvs=>if zD cg k=false then none else match wL cg k v kvs with
  |some (some x5)=>some (.hdm clock borns::x5)
  |some none=>some (.hdm (clock+1) (borns++[clock])::(kvs++[k,v]))
  |none=>none
 |_=>none
def EC(m:aC):List ae->aW (List ae)
 | .hdm clock _::_=>some [.hdi clock [] clock,.gmap m]
 |_=>none
def nn(st:aU)(sz el:Nat)(x y:ae):aW ((aW (aC×List ae))×List ae):=
 match x,y with
 | .slice dL .nil _,.slice iz _ ys=>if dL=sz/\iz=sz then some (none,ys)else none
 | .row dL k n,.slice iz _ ys=>if dL=sz/\iz=sz then
   match look k st.e with
   |some ⟨n',fj,vq,some xs⟩=>if n'=n/\fj=el/\vq=sz then some (some (k,xs),ys)else none
   |_=>none
  else none
 |_,_=>none
def sd:ae->Nat->List ae->ae
 | .agg ds,f,cs=>.agg (nL ds f cs)
 |_,_,[q]=>q
 |_,_,_=>.junk
def sj(st:aU)(sz:Nat)(p v:ae):aW (Prop×aU):=
 match p with
 | .rptr dL k n i f=>match look k st.e with
  |some ⟨n',el,iz,some xs⟩=>if n'=n/\iz=dL then
    match xs[i]? with
    |some q=>some (eV q=true/\eV v=true/\(cells v).length=sz/\f+sz<=(cells q).length/\0<sz,{st with e:=dj k ⟨n',el,iz,some (xs.set i (sd q f (cells v)))⟩ st.e})
    |none=>none
   else none
  |_=>none
 |_=>none
def gL(s:List aj):List ae:=s.map fun c=>.int .u8 c.toNat
def CH(st:aU)(d el:Nat)(x y:ae):aW (Prop×aU):=
 match x,y with
 | .row sz k n,.str s=>match look k st.e with
  |some ⟨n',fj,dL,some xs⟩=>if n'=n/\fj=el/\dL=1/\sz=1 then some (xs.length+s.length<=aR,
    {st with t:=put d (.row 1 k (xs.length+s.length)) st.t,e:=dj k ⟨xs.length+s.length,el,1,some (xs++gL s)⟩ st.e})else none
  |_=>none
 | .slice sz .nil _,.str s=>if sz=1 then some ((.obj 862∉st.o)/\s≠[]/\s.length<=aR,
   {t:=put d (.row 1 (.obj 862) s.length) st.t,b:=st.b,e:=dj (.obj 862) ⟨s.length,el,1,some (gL s)⟩ st.e,n:=st.n,o:= .obj 862::st.o})else none
 |_,_=>none
def mE(st:aU):ej->aW (Prop×aU)
 | .mks d key sz el z x=>match bP st.t x with
  | .int _ n=>some (q2 st key/\0<=n/\n<=aR,
    {t:=put d (.row sz (jq st key) n.toNat) st.t,b:=st.b,e:=dj (jq st key) ⟨n.toNat,el,sz,some (List.replicate n.toNat z)⟩ st.e,n:=oe st key,o:=og st key})
  |_=>none
 | .bslm d key sz el xs=>some (q2 st key/\rJ sz (xs.map (bP st.t)),
   {t:=put d (.row sz (jq st key) xs.length) st.t,b:=st.b,e:=dj (jq st key) ⟨xs.length,el,sz,some (xs.map (bP st.t))⟩ st.e,n:=oe st key,o:=og st key})
 | .appm d key sz el x y=>match nn st sz el (bP st.t x) (bP st.t y)with
  |some (none,ys)=>some (q2 st key/\ys.length<=aR/\ys≠[],
    {t:=put d (.row sz (jq st key) ys.length) st.t,b:=st.b,e:=dj (jq st key) ⟨ys.length,el,sz,some ys⟩ st.e,n:=oe st key,o:=og st key})
  |some (some (k,xs),ys)=>some (xs.length+ys.length<=aR,{st with t:=put d (.row sz k (xs.length+ys.length)) st.t,e:=dj k ⟨xs.length+ys.length,el,sz,some (xs++ys)⟩ st.e})
  |none=>none
 | .mkmap d key=>some (q2 st key,{t:=put d (.gmap (jq st key)) st.t,b:=dj (jq st key) [.hdm 0 []] st.b,e:=st.e,n:=oe st key,o:=og st key})
 | .mput cg x k v=>match bP st.t x with
  | .gmap m=>match look m st.b with
   |some cs=>match r3 cg (bP st.t k) (bP st.t v) cs with
    |some cs'=>some (True,{st with b:=dj m cs' st.b})
    |none=>none
   |none=>none
  |_=>none
 | .range d key x=>match bP st.t x with
  | .gmap m=>match look m st.b with
   |some cs=>match EC m cs with
    |some cs'=>some (q2 st key,{t:=put d (.ptr (jq st key) 0) st.t,b:=dj (jq st key) cs' st.b,e:=st.e,n:=oe st key,o:=og st key})
    |none=>none
   |none=>none
  |_=>none
 | .v d i=>match hk st i with
  |some (c,p)=>some (c,{st with t:=put d p st.t})
  |none=>none
 | .storeE sz x y=>sj st sz (bP st.t x) (bP st.t y)
 | .apps d el x y=>CH st d el (bP st.t x) (bP st.t y)
 | .box d key x=>some (q2 st key/\eV (bP st.t x)=true,
   {t:=put d (.ptr (jq st key) 0) st.t,b:=dj (jq st key) (cells (bP st.t x)) st.b,e:=st.e,n:=oe st key,o:=og st key})
 | .alloc d key z=>some (q2 st key,{t:=put d (.ptr (jq st key) 0) st.t,b:=dj (jq st key) (cells z) st.b,e:=st.e,n:=oe st key,o:=og st key})
 | .store sz x y=>match bP st.t x with
  | .ptr k off=>match look k st.b with
   |some cs=>some (gO cs=true/\eV (bP st.t y)=true/\(cells (bP st.t y)).length=sz/\off+sz<=cs.length,{st with b:=dj k (nL cs off (cells (bP st.t y))) st.b})
   |none=>none
  |p=>sj st sz p (bP st.t y)
 | .bsl d sz el xs=>some (q2 st none/\rJ sz (xs.map (bP st.t)),
   {st with t:=put d (.slice sz (.own (.loc st.n)) (xs.map (bP st.t))) st.t,e:=dj (.loc st.n) ⟨xs.length,el,sz,none⟩ st.e,n:=st.n+1})
 | .app d sz el x y=>match bP st.t x,bP st.t y with
  | .slice dL tag xs,.slice iz _ ys=>if dL=sz/\iz=sz then
    match tag with
    | .own k=>match look k st.e with
     |some o=>some (o.n=xs.length/\o.el=el/\o.sz=sz/\xs.length+ys.length<=aR,
       {st with t:=put d (.slice sz (.own k) (xs++ys)) st.t,e:=dj k ⟨xs.length+ys.length,el,sz,none⟩ st.e})
     |none=>none
    | .nil=>some (q2 st none/\ys.length<=aR,{st with t:=put d (.slice sz (.own (.loc st.n)) ys) st.t,e:=dj (.loc st.n) ⟨ys.length,el,sz,none⟩ st.e,n:=st.n+1})
    |_=>none
   else none
  |_,_=>none
def eR(κ:aC)(n':Nat)(o':List aC)(st:aU):ej->aW (Prop×aU)
 | .mks d _ sz el z x=>match bP st.t x with
  | .int _ n=>some (0<=n/\n<=aR,
    {t:=put d (.row sz κ n.toNat) st.t,b:=st.b,e:=dj κ ⟨n.toNat,el,sz,some (List.replicate n.toNat z)⟩ st.e,n:=n',o:=o'})
  |_=>none
 | .bslm d _ sz el xs=>some (rJ sz (xs.map (bP st.t)),
   {t:=put d (.row sz κ xs.length) st.t,b:=st.b,e:=dj κ ⟨xs.length,el,sz,some (xs.map (bP st.t))⟩ st.e,n:=n',o:=o'})
 | .appm d _ sz el x y=>match nn st sz el (bP st.t x) (bP st.t y)with
  |some (none,ys)=>some (ys.length<=aR/\ys≠[],
    {t:=put d (.row sz κ ys.length) st.t,b:=st.b,e:=dj κ ⟨ys.length,el,sz,some ys⟩ st.e,n:=n',o:=o'})
  |some (some (k,xs),ys)=>some (xs.length+ys.length<=aR,{st with t:=put d (.row sz k (xs.length+ys.length)) st.t,e:=dj k ⟨xs.length+ys.length,el,sz,some (xs++ys)⟩ st.e})
  |none=>none
 | .mkmap d _=>some (True,{t:=put d (.gmap κ) st.t,b:=dj κ [.hdm 0 []] st.b,e:=st.e,n:=n',o:=o'})
 | .mput cg x k v=>match bP st.t x with
  | .gmap m=>match look m st.b with
   |some cs=>match r3 cg (bP st.t k) (bP st.t v) cs with
    |some cs'=>some (True,{st with b:=dj m cs' st.b})
    |none=>none
   |none=>none
  |_=>none
 | .range d _ x=>match bP st.t x with
  | .gmap m=>match look m st.b with
   |some cs=>match EC m cs with
    |some cs'=>some (True,{t:=put d (.ptr κ 0) st.t,b:=dj κ cs' st.b,e:=st.e,n:=n',o:=o'})
    |none=>none
   |none=>none
  |_=>none
 | .v d i=>match hk st i with
  |some (c,p)=>some (c,{st with t:=put d p st.t})
  |none=>none
 | .storeE sz x y=>sj st sz (bP st.t x) (bP st.t y)
 | .apps d el x y=>CH st d el (bP st.t x) (bP st.t y)
 | .box d _ x=>some (eV (bP st.t x)=true,{t:=put d (.ptr κ 0) st.t,b:=dj κ (cells (bP st.t x)) st.b,e:=st.e,n:=n',o:=o'})
 | .alloc d _ z=>some (True,{t:=put d (.ptr κ 0) st.t,b:=dj κ (cells z) st.b,e:=st.e,n:=n',o:=o'})
 | .store sz x y=>match bP st.t x with
  | .ptr k off=>match look k st.b with
   |some cs=>some (gO cs=true/\eV (bP st.t y)=true/\(cells (bP st.t y)).length=sz/\off+sz<=cs.length,{st with b:=dj k (nL cs off (cells (bP st.t y))) st.b})
   |none=>none
  |p=>sj st sz p (bP st.t y)
 | .bsl d sz el xs=>some (rJ sz (xs.map (bP st.t)),
   {st with t:=put d (.slice sz (.own κ) (xs.map (bP st.t))) st.t,e:=dj κ ⟨xs.length,el,sz,none⟩ st.e,n:=n',o:=o'})
 | .app d sz el x y=>match bP st.t x,bP st.t y with
  | .slice dL tag xs,.slice iz _ ys=>if dL=sz/\iz=sz then
    match tag with
    | .own k=>match look k st.e with
     |some o=>some (o.n=xs.length/\o.el=el/\o.sz=sz/\xs.length+ys.length<=aR,
       {st with t:=put d (.slice sz (.own k) (xs++ys)) st.t,e:=dj k ⟨xs.length+ys.length,el,sz,none⟩ st.e})
     |none=>none
    | .nil=>some (ys.length<=aR,{st with t:=put d (.slice sz (.own κ) ys) st.t,e:=dj κ ⟨ys.length,el,sz,none⟩ st.e,n:=n',o:=o'})
    |_=>none
   else none
  |_,_=>none
def yh:Nat->List dm->List (Nat×iX)->Bool
 |_,[],[]=>true
 |i,x::xs,(j,o)::os=>i==j&&eC x o&&yh (i+1) xs os
 |_,_,_=>false
def ej.bok(κ:aC):ej->Prop
 | .mkmap _ _| .range _ _ _=>κ≠ .obj 861
 | .alloc _ key _| .box _ key _=>κ= .obj 861->key=some 861
 |_=>True
theorem Hn{st:aU}{key:aW Nat}(h:jq st key= .obj 861):key=some 861:=by cases key<;>simp[jq]at h⊢;exact h
def se(N:Nat)(bk:List (Nat×dh))(i:ej)(o:Oper):Bool:=
 match i,o.op with
 | .mkmap d key,.makeMap _ none=>o.dst==some d&&decide (d<N)&&key !=some 861
 | .mput cg x k v,.mapUpdate t jZ kU oi=>o.dst==none&&(match eh bk t with|some ⟨_,_,.map dS _,_⟩=>zE bk cg dS|_=>false)&&eC x jZ&&eC k kU&&eC v oi
 | .mput cg x k v,.insert t jZ kU oi=>o.dst==none&&(match eh bk t with|some ⟨_,_,.map dS _,_⟩=>zE bk cg dS|_=>false)&&eC x jZ&&eC k kU&&eC v oi
 | .range d key x,.range t jZ=>o.dst==some d&&decide (d<N)&&(match eh bk t with|some ⟨_,_,.map _ _,_⟩=>true|_=>false)&&eC x jZ&&key !=some 861
 | .v d i,op=>o.dst==some d&&decide (d<N)&&E6 bk i op
 | .box d key x,.box el o'=>o.dst==some d&&decide (d<N)&&eC x o'&&(key !=some 861||el==E3)
 | .alloc d key z,.alloc el=>o.dst==some d&&decide (d<N)&&(match eh bk el with|some f=>Co z f.zero|none=>false)&&(key !=some 861||el==E3)
 | .store sz x y,.store t o' h5=>o.dst==none&&(match eh bk t with|some f=>f.size==sz|none=>false)&&eC x o'&&eC y h5
 | .bsl d sz el xs,.buildSlice t len parts=>o.dst==some d&&decide (d<N)&&(match eh bk t with|some ⟨_,_,.slice fj,_⟩=>el==fj|_=>false)&&(match eh bk el with|some f=>f.size==sz&&decide (0<sz)|none=>false)
   &&len==xs.length&&decide (len*sz<=16777216)&&yh 0 xs parts.toList
 | .app d sz el x y,.call ⟨.builtin .append,⟨[o',h5]⟩,⟨[t,t']⟩⟩=>o.dst==some d&&decide (d<N)&&t==t'&&(match eh bk t with|some ⟨_,_,.slice fj,_⟩=>el==fj|_=>false)
   &&(match eh bk el with|some f=>f.size==sz&&decide (0<sz)&&decide (f.bytes<=2048)|none=>false)&&eC x o'&&eC y h5
 | .bslm d _ sz el xs,.buildSlice t len parts=>o.dst==some d&&decide (d<N)&&(match eh bk t with|some ⟨_,_,.slice fj,_⟩=>el==fj|_=>false)&&(match eh bk el with|some f=>f.size==sz&&decide (0<sz)|none=>false)
   &&len==xs.length&&decide (len*sz<=16777216)&&yh 0 xs parts.toList
 | .appm d _ sz el x y,.call ⟨.builtin .append,⟨[o',h5]⟩,⟨[t,t']⟩⟩=>o.dst==some d&&decide (d<N)&&t==t'&&(match eh bk t with|some ⟨_,_,.slice fj,_⟩=>el==fj|_=>false)
   &&(match eh bk el with|some f=>f.size==sz&&decide (0<sz)&&decide (f.bytes<=2048)|none=>false)&&eC x o'&&eC y h5
 | .storeE sz x y,.store t o' h5=>o.dst==none&&(match eh bk t with|some f=>f.size==sz|none=>false)&&eC x o'&&eC y h5
 | .apps d el x y,.call ⟨.builtin .append,⟨[o',h5]⟩,⟨[t,t']⟩⟩=>o.dst==some d&&decide (d<N)&&(match eh bk t with|some ⟨_,_,.slice fj,_⟩=>el==fj|_=>false)&&(match eh bk t' with|some ⟨_,_,.str,_⟩=>true|_=>false)
   &&(match eh bk el with|some f=>f.size==1&&decide (f.bytes<=2048)|none=>false)&&eC x o'&&eC y h5
 | .mks d _ sz el z x,.makeSlice t o' h5=>o.dst==some d&&decide (d<N)&&(match eh bk t with|some ⟨_,_,.slice fj,_⟩=>el==fj|_=>false)
   &&(match eh bk el with|some f=>f.size==sz&&decide (0<sz)&&decide (f.bytes<=2048)&&Co z f.zero|none=>false)&&eC x o'&&eC x h5
 |_,_=>false
theorem WS{w:World}{ν:aQ}{C:eK}{st:aU}{a:Act}(hr:cm C st a w ν){sz:Nat}:
  ∀(xs:List dm) (i:Nat) (os:List (Nat×iX)) (pre:List ae) (us:Array Value) (vs:List Value),yh i xs os=true->rJ sz (xs.map (bP st.t))->us.toList.take (i*sz)=vs->cV w ν sz pre vs->i=pre.length->us.size=(i+xs.length)*sz->
  ∃bE:Array Value,Instr.fill (fun i=>some (i*sz,sz)) us (os.map fun(x:Nat×iX)=>(x.1,a.eval x.2))=some bE/\cV w ν sz (pre++xs.map (bP st.t)) bE.toList/\bE.size=us.size
 |[],i,[],pre,us,vs,_,_,aN,h,aw,az=>by refine⟨us,by simp[Instr.fill],?_,rfl⟩;have aD:=rf h;have:us.toList.take (i*sz)=us.toList:=vB (by simp at az⊢;omega);rw[this]at aN;simpa[aN]using h
 |[],_,_::_,_,_,_,dM,_,_,_,_,_=>by simp[yh]at dM
 |_::_,_,[],_,_,_,dM,_,_,_,_,_=>by simp[yh]at dM
 |x::xs,i,(j,o)::os,pre,us,vs,dM,bL,aN,h,aw,az=>by
  simp only[yh,bJ,eA]at dM;obtain⟨⟨rfl,I⟩,J⟩:=dM;simp only[fF,rJ]at bL;obtain⟨⟨K5,hlen⟩,bL⟩:=bL;have af:=eD hr I;have ny:=wW af K5;have xN:=qo ny;have dc:(a.eval o).cells.size=sz:=by rw[hlen]at xN;simpa using xN
  have hmul:i*sz+sz<=us.size:=by rw[az,gg,show i+(xs.length+1)=(i+1)+xs.length from by omega,Nat.add_mul,Nat.succ_mul];omega
  have mu:=J7 (w:=w) (ν:=ν) (a.eval o).cells.toList 0 (i*sz) us (by simp[dc];omega);have tC:cV w ν sz (pre++[bP st.t x]) (vs++(a.eval o).cells.toList):=by refine BW h ?_;simp only[cV];exact⟨a.eval o,[],Ψ,⟨af,dc,BZ ny⟩,rfl⟩
  have nD:vs.length=i*sz:=by rw[<-aN];simp;omega
  obtain⟨bE,g1,g2,g3⟩:=WS hr xs (i+1) os (pre++[bP st.t x]) (((a.eval o).cells.toList.zipIdx 0).foldl (fun cs (x:Value×Nat)=>cs.setIfInBounds (i*sz+x.2) x.1) us) (vs++(a.eval o).cells.toList) J bL
   (by
    rw[mu];simp only[Nat.add_zero];rw[aN];have:(vs++(a.eval o).cells.toList).length=(i+1)*sz:=by rw[gx,nD,Nat.succ_mul];simp[dc]
    rw[<-this,List.take_append_of_le_length (cc _),hE]) tC (by simp[aw])
   (by have bz:=er List.length mu;simp only[Array.length_toList,gx,pS,hX,dc]at bz;rw[bz,az,gg,show i+(xs.length+1)=i+1+xs.length from by omega];rw[az,gg,show i+(xs.length+1)=i+1+xs.length from by omega]at hmul;omega)
  refine⟨bE,?_,by simpa using g2,?_⟩
  ·simp only[fF,Instr.fill];rw[br (by simp[dc];omega),<-g1];congr 1;rw[<-Array.foldl_toList];simp
  ·rw[g3];have bz:=er List.length mu;simp only[Array.length_toList,gx,pS,hX,dc]at bz;rw[bz];omega
theorem ajn{P:bS}(w:World)(t cx ty e:fX)(i:TypeInfo)(aE:P.underlying t=some (.slice e))(hu:P.underlying cx=some .string)(aw:P.info? e=some i)(Gg:i.size=1)
  (g zW Nr:Nat) (cur:Array Value) (aS:w.heap[g]? =some (.cells cur e (0,0))) (s:k1) (oN:zW+s.size<=Nr) (aea:zW+s.size<=cur.size):
  (uo #[t,cx] ty #[.slice (some ⟨g,0,none⟩) zW Nr,.string s]).run P w=
   .ok (.slice (some ⟨g,0,none⟩) (zW+s.size) Nr) (w.setRow g (cur.toList.take zW++byteCells s++cur.toList.drop (zW+s.size)).toArray):=by
 have DO:=Src.ofString (P:=P) w hu s;have e7:=run_storeCells_at P g zW e (byteCells s) 0 cur w aS (by simpa[byteCells_length]using aea) DO.one;simp only[Nat.add_zero,byteCells_length]at e7;simp[uo,run_underlying aE,run_underlying hu,sizeOf,typeInfo,aw,Gg,DO.len,oN,DO.cells,Addr.add_lit,e7]
theorem WO{P:bS}(w:World)(t cx ty e:fX)(i:TypeInfo)(z:Value)(aE:P.underlying t=some (.slice e))(hu:P.underlying cx=some .string)(aw:P.info? e=some i)(cK:i.zero=some z)(Gg:i.size=1)(q1:z.cells.size=1)
  (v:Value) (n:Nat) (xs:List Value) (ld:w.ownsRow 0 e 1 v n xs) (s:k1) (cap:Nat) (base:aW Addr) (aN:v= .slice base n cap) (tg:cap<n+s.size) (A2:n+s.size<=maxLen) (nZ:(n+s.size)*i.bytes<=140737488355328):
  ∃v' w',(uo #[t,cx] ty #[v,.string s]).run P w= .ok v' w'/\w'.ownsRow w.heap.size e 1 v' (n+s.size) (xs++byteCells s)/\w.grownBy w' none:=by
 subst aN;have DO:=Src.ofString (P:=P) w hu s;have lf:xs.length=n:=by simpa using ld.1
 have hold:(Builtin.firstCells i.size n (.slice base n cap)).run P w.drew= .ok xs.toArray w.drew:=by
  rw[Gg];rcases ld.2 with⟨ao,rfl⟩|⟨g,AD,cur,ao,anp,aS,DC,A8,dc,DQ⟩
  ·injection ao with ao aL bB;subst ao;have:xs=[]:=sI lf;subst this;exact run_firstCells_none w.drew 1 0 0 cap
  ·have nW:=ao;injection ao with ao aL bB;subst ao;refine run_firstCells_some w.drew 1 n _ n cap xs Ω fun j u ai=>?_;have:=ld.cells (g:=g) rfl j u ai;simpa using this
 have hr:=run_append_grow_src (P:=P) w t cx ty e i z aE aw cK base n cap xs hold (.string s) s.size (byteCells s) (by rw[Gg];exact DO) tg (by simp only[maxLen]at A2;omega) (growslice_fits Ω nZ);have je:=grownCap_ge w (n+s.size) cap e;have A8:grownCap w (n+s.size) cap e<=maxLen:=grownCap_le_maxLen w (n+s.size) cap e A2;refine⟨_,_,hr,⟨by simp[byteCells_length,lf],.inr ⟨w.heap.size,_,_,rfl,cc _,heap_alloc_new w.drew _,je,A8,?_,?_⟩⟩,⟨rfl,rfl,rfl,Ψ,fun k ab _=>heap_alloc_old w.drew _ ab⟩⟩
 ·simp only[Array.size_append,List.size_toArray,size_zeroCells,q1,gx,byteCells_length,lf];omega
 ·simp only[Array.toList_append,List.toList_toArray];rw[List.take_left' (by simp[byteCells_length,lf])]
theorem M9(w:World)(ν:aQ):∀s:List aj,cV w ν 1 (gL s) (s.map fun c=>oV .u8 c.toNat)
 |[]=>by simp[gL,cV]
 |c::s=>by have:=M9 w ν s;simp only[gL,fF,cV]at this⊢;exact⟨.int .u8 c.toNat,_,rfl,⟨by simp[aJ],rfl,by intro x af;simp[nO]at af;subst af;rfl⟩,this⟩
theorem lp{P:bS}{o:Oper}{a:Act}{w w':World}{v:Value}{K:Act->World->Prop}{Q:Exit->Act->World->Prop}(h:(execOp a.eval o).run P w= .ok (.value v) w')(ab:K (a.put o.dst v) w'):o.wp P a w K Q:=by unfold Oper.wp;rw[h];exact ab
theorem Fe{P:bS}{o:Oper}{a:Act}{w w':World}{K:Act->World->Prop}{Q:Exit->Act->World->Prop}(h:(execOp a.eval o).run P w= .ok .skip w')(ab:K (a.put o.dst undef) w'):o.wp P a w K Q:=by unfold Oper.wp;rw[h];exact ab
theorem E9{P:bS}{w w':World}{x:Sem Value}{v:Value}(h:x.run P w= .ok v w'):(do pure (Next.value (<-x)):Sem Next).run P w= .ok (.value v) w':=by simp[h]
theorem WQ{P:bS}{bk:List (Nat×dh)}(aE:eW P bk=true){C:eK}{st:aU}{a:Act}{w:World}{ν:aQ}(hr:cm C st a w ν){t el:Nat}{f g:dh}(aK:eh bk t=some f)(ab:f.kind= .slice el)(aS:eh bk el=some g)
  {xs:List dm} {os:List (Nat×iX)} (dM:yh 0 xs os=true) (dz:rJ g.size (xs.map (bP st.t))) (hlen:xs.length*g.size<=16777216):
  ∃us:Array Value,(Instr.buildSlice t xs.length (os.map fun(x:Nat×iX)=>(x.1,a.eval x.2)).toArray).run P w= .ok (.slice (some ⟨w.heap.size,0,none⟩) xs.length xs.length) (w.alloc (.cells us el))/\
   cV w ν g.size (xs.map (bP st.t)) us.toList/\us.size=xs.length*g.size:=by
 obtain⟨d,aI,fC⟩:=h7 aE aK;rw[ab]at fC;obtain rfl:=rP fC;obtain⟨_,az⟩:=w4 aE aS w;obtain⟨z,afp,anM,anN⟩:=NU aE aS w;have aM:¬xs.length*g.size>2 ^ 24:=Ω
 let init:Array Value:=if xs.length*g.size=0 then(Array.range (xs.length*g.size)).map ((#[]:Array Value)[· %(#[]:Array Value).size]!)else(Array.range (xs.length*g.size)).map (z.cells[· %z.cells.size]!)
 have SO:init.size=xs.length*g.size:=by simp only[init];split<;>simp
 obtain⟨bE,g1,g2,g3⟩:=WS (a:=a) hr xs 0 os [] init [] dM dz Ψ (by simp[cV]) rfl (by rw[SO];simp);refine⟨bE,?_,by simpa using g2,by rw[g3,SO]⟩;simp only[init]at g1;by_cases bz:xs.length*g.size=0
 ·rw[if_pos bz]at g1;rw[bz]at g1;have Da:¬(0:Nat)>2 ^ 24:=by decide
  simp only[Instr.buildSlice,fu,run_underlying aI,fw,az,if_false,gq,bz,if_true,Da,g1,newRow,run_newObj];rfl
 ·rw[br bz]at g1;simp only[Instr.buildSlice,fu,run_underlying aI,fw,az,aM,if_false,gq,bz,afp,g1,newRow,run_newObj];rfl
theorem Ee{P:bS}{w:World}{ν:aQ}{cg:kJ}{t:fX}(aI:vD P cg t){k v:ae}{fP Ol:Value}(ab:aJ w ν k fP)(aN:aJ w ν v Ol):
  ∀(borns:List Nat) (kvs:List ae) (us:List Value) (i:Nat) (r:aW (List ae)),cz w ν kvs us->kvs.length=2*borns.length->wL cg k v kvs=some r->
  match r with
  |none=>iC P w cg t fP (fZ borns us) i none
  |some x5=> ∃j u bE e,iC P w cg t fP (fZ borns us) i (some (i+j,u))/\cz w ν x5 bE/\x5.length=kvs.length/\(fZ borns us)[j]? =some e/\e.key=fP/\Instr.sameBits 10000 e.key fP=true/\fZ borns bE=(fZ borns us).modify j (fun e=>{e with key:=fP,val:=Ol})
 |[],[],us,i,r,h,_,hm=>by simp only[wL]at hm;cases hm;simp only[cz]at h;subst h;simpa[fZ]using iC.nil P w cg t fP i
 |[],_::_,_,_,_,_,aD,_=>by simp at aD
 |b::e4,[],_,_,_,_,aD,_=>by simp at aD
 |b::e4,[_],_,_,_,_,aD,_=>by simp at aD;omega
 |b::e4,bn::v'::kvs,us,i,r,h,aD,hm=>by
  simp only[cz]at h;obtain⟨iK,Ch,rfl,I,h9,pN,rfl,J,au⟩:=h;simp only[wL]at hm;simp only[fZ];cases bp:wF cg k bn with
  |none=>simp[bp]at hm
  |some iq=>
   obtain⟨s1,s2⟩:=Ud aI ab I bp;simp only[bp]at hm;cases iq with
   |true=>simp only[ei]at hm;subst hm;obtain⟨rfl,B4⟩:=s2 rfl;refine⟨0,h9,iK::Ol::pN,⟨iK,h9,b⟩,iC.hit (e:=⟨iK,h9,b⟩) s1,?_,Ψ,Ψ,rfl,B4,by simp[fZ]⟩;simp only[cz];exact⟨_,_,rfl,ab,_,_,rfl,aN,au⟩
   |false=>
    simp only at hm;have aX:=fun cZ cp=>Ee aI ab aN e4 kvs pN (i+1) cZ au (by simp at aD;omega) cp;split at hm
    ·rename_i cZ cp;cases hm;obtain⟨j,u,bE,e,g1,g2,g3,g4,g5,g6,g7⟩:=aX _ cp;refine⟨j+1,u,iK::h9::bE,e,iC.miss (e:=⟨iK,h9,b⟩) s1 (by rw[show i+(j+1)=i+1+j from by omega];exact g1),?_,by simp[g3],by simpa using g4,g5,g6,by simp[fZ,g7]⟩;simp only[cz];exact⟨_,_,rfl,I,_,_,rfl,J,g2⟩
    ·rename_i cp;cases hm;exact iC.miss (e:=⟨iK,h9,b⟩) s1 (aX _ cp)
    ·cases hm
theorem JT:∀(borns:List Nat) (us:List Value) (b:Nat) (k v:Value),us.length=2*borns.length->fZ (borns++[b]) (us++[k,v])=fZ borns us++[⟨k,v,b⟩]
 |[],us,b,k,v,h=>by have:us=[]:=sI (by simpa using h);subst this;simp[fZ]
 |gV::e4,[],b,k,v,h=>by simp at h
 |gV::e4,[_],b,k,v,h=>by simp at h;omega
 |gV::e4,bn::v'::us,b,k,v,h=>by simp only[dF,fZ,JT e4 us b k v (by simp at h;omega)]
theorem Nd{w:World}{ν:aQ}:∀{bj bF:List ae} {vs us:List Value},cz w ν bj vs->cz w ν bF us->cz w ν (bj++bF) (vs++us)
 |[],bF,vs,us,h,cu=>by simp only[cz]at h;subst h;simpa using cu
 |p::bj,bF,vs,us,h,cu=>by simp only[cz]at h;obtain⟨u,bE,rfl,I,J⟩:=h;simp only[dF,cz];exact⟨u,_,rfl,I,Nd J cu⟩
theorem HW{w:World}{ν:aQ}:∀{bj:List ae} {vs:List Value},cz w ν bj vs->vs.length=bj.length
 |[],vs,h=>by simp only[cz]at h;subst h;rfl
 |p::bj,vs,h=>by simp only[cz]at h;obtain⟨u,bE,rfl,_,J⟩:=h;simp[HW J]
theorem ER{P:bS}{w:World}{r:Nat}{o o':Obj}(ah:w.heap[r]? =some o)(aM:∀c e f,o≠ .cells c e f:=by simp):(setObj r o').run P w= .ok () {w with heap:=w.heap.setIfInBounds r o'}:=by simp only[setObj,Sem.run,ah]
def ej.makes(st:aU):ej->Bool
 | .box _ _ _| .alloc _ _ _| .bsl _ _ _ _| .bslm _ _ _ _ _| .mkmap _ _| .range _ _ _| .mks _ _ _ _ _ _=>true
 | .appm _ _ _ _ x _=>match bP st.t x with
  | .slice _ .nil _=>true
  |_=>false
 | .app _ _ _ x _=>match bP st.t x with
  | .slice _ .nil _=>true
  |_=>false
 |_=>false
theorem cm.forgetRow{C:eK}{st:aU}{a:Act}{w:World}{ν:aQ}(hr:cm C st a w ν){k:aC}{ow:dn}(ab:look k st.e=some ow):cm C {st with e:=dj k ⟨ow.n,ow.el,ow.sz,none⟩ st.e} a w ν:=by
 have hS:∀g,(look g (dj k ⟨ow.n,ow.el,ow.sz,none⟩ st.e)).isSome->(look g st.e).isSome:=fun g aS=>by
  rw[jK]at aS;split at aS
  ·rename_i e;subst e;simp[ab]
  ·exact aS
 refine⟨⟨hr.good.alt,hr.good.box,hr.good.inj,fun g o aS=>?_,fun g et n n' v v' bl bH a2=>hr.good.oinj g et n n' v v' bl (hS g bH) (hS et a2),fun g j n v bl bH=>hr.good.obx g j n v bl (hS g bH),hr.good.one,fun bl ah=>hr.good.otr bl (ah.imp id (fun⟨g,n,v,bH,a2⟩=>⟨g,n,v,hS g bH,a2⟩))⟩,hr.fr,hr.defers,hr.size,hr.slot,hr.new,hr.ext,hr.obk⟩;simp only at aS;rw[jK]at aS;split at aS
 ·rename_i e;subst e;cases aS;obtain⟨v,us,b0,cS,dT,_⟩:=hr.good.own k ow ab;exact⟨v,us,b0,cS,dT,fun xs af=>by cases af⟩
 ·exact hr.good.own g o aS
theorem HC{w:World}{base el sz n:Nat}{v:Value}{us:List Value}(h:w.ownsRow base el sz v n us)(aM:0<n):∃b cap,v= .slice (some ⟨b,0,none⟩) n cap:=by
 rcases h.2 with⟨ao,aL⟩|⟨iq,cap,cur,f1,_⟩
 ·omega
 ·exact⟨_,_,f1⟩
theorem Ww{w:World}{ν:aQ}{sz:Nat}:∀{xs:List ae} {us:List Value} {i:Nat} {q q':ae} {eJ:Value},cV w ν sz xs us->xs[i]? =some q->aJ w ν q' eJ->eJ.cells.size=sz->(∀c∈eJ.cells.toList,c.oneCell'=true)->cV w ν sz (xs.set i q') (us.take (i*sz)++eJ.cells.toList++us.drop (i*sz+sz))
 |[],_,_,_,_,_,_,bp,_,_,_=>by simp at bp
 |x::xs,us,0,q,q',eJ,h,bp,hr,az,aq=>by
  simp only[cV]at h;obtain⟨u,bE,rfl,⟨I,J,au⟩,bA⟩:=h;have aD:u.cells.toList.length=sz:=by simpa using J
  simp only[List.set_cons_zero,cV];refine⟨eJ,bE,?_,⟨hr,az,aq⟩,bA⟩;simp[<-aD]
 |x::xs,us,i+1,q,q',eJ,h,bp,hr,az,aq=>by
  simp only[cV]at h;obtain⟨u,bE,rfl,⟨I,J,au⟩,bA⟩:=h;have aD:u.cells.toList.length=sz:=by simpa using J
  have aX:=Ww bA (by simpa using bp) hr az aq;simp only[List.set_cons_succ,cV];refine⟨u,_,?_,⟨I,J,au⟩,aX⟩;have e:(i+1)*sz+sz=u.cells.toList.length+(i*sz+sz):=by rw[aD,Nat.succ_mul];omega
  rw[Xs _ _ _ _ aD,e,<-List.drop_drop];simp
theorem ajj{w:World}{ν:aQ}{q:ae}{v:Value}(bp:aJ w ν q v)(az:eV q=true){cs:List ae}{us:List Value}(aH:ck w ν cs us){f:Nat}(aK:f+us.length<=v.cells.size)(b7:us≠[]):
  ∃v',aJ w ν (sd q f cs) v'/\v'.cells.toList=v.cells.toList.take f++us++v.cells.toList.drop (f+us.length)/\v'.cells.size=v.cells.size/\∀c∈v'.cells.toList,c.oneCell'=true:=by
 have hlen:=qo aH;have mm:=wW bp az;by_cases bL:∃ds,q= .agg ds
 ·obtain⟨ds,rfl⟩:=bL;simp only[aJ]at bp;obtain⟨vs,rfl,gF⟩:=bp;simp only[nO]at aK⊢;have k9:ck w ν (nL ds f cs) (vs.toList.take f++us++vs.toList.drop (f+us.length)):=by unfold nL;rw[hlen];exact zR (zR (EJ f gF) aH) (BY _ gF)
  refine⟨.agg (vs.toList.take f++us++vs.toList.drop (f+us.length)).toArray,by simp only[sd,aJ];exact⟨_,rfl,by simpa using k9⟩,by simp[nO],?_,fun c lR=>?_⟩
  ·simp[nO];omega
  ·exact BZ k9 c (by simpa[nO]using lR)
 ·have A4:∀cs,q≠ .agg cs:=fun cs e=>bL ⟨cs,e⟩;obtain⟨I,J⟩:=Ng bp az A4;rw[J]at aK⊢;match us,b7,aH with
  |u::bE,_,aH=>
   simp at aK;obtain⟨rfl,rfl⟩:f=0/\bE=[]:=⟨Ω,List.length_eq_zero_iff.1 Ω⟩;match cs,aH,hlen with
   |[c],aH,_=>
    simp only[ck]at aH;obtain⟨l9,fq,ao,⟨adR,Sz⟩,_⟩:=aH;cases ao;have hu:u.cells= #[u]:=by cases u<;>first|rfl|cases Sz
    have K2:sd q 0 [c]=c:=by cases q<;>first|rfl|exact absurd rfl (A4 _)
    rw[K2];refine⟨u,adR,by simp[hu],by simp[hu],fun c lR=>?_⟩;rw[hu]at lR;simp at lR;subst lR;exact Sz
theorem ajJ{α:Type}(A us:List α)(a f sz N:Nat)(I:f+us.length<=sz)(J:a+sz<=N)(au:N<=A.length):
  ((A.take (a+f)++us++A.drop (a+f+us.length)).toArray.toList).take N=(A.take N).take a++((((A.take N).drop a).take sz).take f++us++(((A.take N).drop a).take sz).drop (f+us.length))++(A.take N).drop (a+sz):=by
 have ao:(A.take N).take a++(((A.take N).drop a).take sz).take f=A.take (a+f):=by rw[List.take_take (i:=f),Nat.min_eq_left (show f<=sz by omega),<-List.take_add,List.take_take,Nat.min_eq_left Ω]
 have aL:(((A.take N).drop a).take sz).drop (f+us.length)++(A.take N).drop (a+sz)=(A.take N).drop (a+f+us.length):=by
  have aD:f+us.length<=(((A.take N).drop a).take sz).length:=by simp;omega
  have kq:(A.take N).drop (a+sz)=((A.take N).drop a).drop sz:=by rw[List.drop_drop]
  rw[kq,<-List.drop_append_of_le_length aD,ry,List.drop_drop];congr 1;omega
 have bB:(A.take N).drop (a+f+us.length)=(A.drop (a+f+us.length)).take (N-(a+f+us.length)):=by rw[List.drop_take]
 have aD:(A.take (a+f)++us).length=a+f+us.length:=by simp;omega
 simp only[lr]at*;rw[aL,bB,<-lr (List.take a _),ao];have mP:N=(A.take (a+f)++us).length+(N-(a+f+us.length)):=by rw[aD];omega
 rw[<-lr,<-lr];conv=>lhs;rw[mP,List.take_length_add_append]
theorem cm.storeRow{P:bS}{C:eK}{st:aU}{a:Act}{w:World}{ν:aQ}(h:cm C st a w ν){k:aC}{n el sz:Nat}{xs:List ae}(ab:look k st.e=some ⟨n,el,sz,some xs⟩){i f:Nat}{u:Value}(af:aJ w ν (.rptr sz k n i f) u){q:ae}(bp:xs[i]? =some q)(az:eV q=true)
  {cs:List ae} {us:List Value} (aH:ck w ν cs us) (aK:f+us.length<=(cells q).length) (b7:us≠[]):
  ∃bl off nq,u= .pointer (some ⟨bl,off,none⟩)/\(storeCells ⟨bl,off,none⟩ us).run P w= .ok () (w.setRow bl nq)/\∃ν',cm C {st with e:=dj k ⟨n,el,sz,some (xs.set i (sd q f cs))⟩ st.e} a (w.setRow bl nq) ν':=by
 simp only[aJ]at af;obtain⟨_,aw,n',eJ,I,J,au⟩:=af;obtain⟨v,fq,b0,cS,dT,dY⟩:=h.good.own k _ ab;rw[I]at b0;simp only[ei,gY]at b0;obtain⟨rfl,rfl⟩:=b0;obtain⟨bl,ah,rfl⟩:=au rfl;obtain⟨di,mC,tY⟩:=dY xs rfl;simp only at di mC;obtain⟨v,eZ,ey,jg⟩:=HS i mC bp;have xN:=qo (wW eZ az);have aeY:(cells q).length=sz:=by rw[<-xN];simpa using ey
 have Gt:f+us.length<=sz:=by rw[<-aeY];exact aK
 have hmul:i*sz+sz<=n'*sz:=by have:=Nat.mul_le_mul_right sz (show i+1<=n' from aw);rwa[Nat.succ_mul]at this
 rcases cS.2 with⟨ao,aL⟩|⟨g,cap,cur,rfl,vZ,KB,DC,A8,dc,DQ⟩
 ·rw[ao]at ah;simp[ov]at ah
 simp only[ov,ei]at ah;subst ah;simp only at DQ dc DC KB;have tg:n'*sz<=cur.size:=by rw[dc];exact Nat.mul_le_mul_right sz DC
 have e7:=run_storeCells_at P g (i*sz+f) el us 0 cur w KB Ω (BZ aH);simp only[Nat.add_zero]at e7;refine⟨g,i*sz+f,_,rfl,e7,?_⟩;generalize wc:(cur.toList.take (i*sz+f)++us++cur.toList.drop (i*sz+f+us.length)).toArray=nq;obtain⟨v',ij,gA,ql,ah1⟩:=ajj eZ az aH (f:=f) (by rw[ey];exact Gt) b7;have kd:=Ww mC bp ij (by rw[ql,ey]) ah1;have hlen:fq.length=n'*sz:=cS.1;have aeO:nq.toList.take (n'*sz)=fq.take (i*sz)++v'.cells.toList++fq.drop (i*sz+sz):=by rw[<-wc,gA,jg,<-DQ];exact ajJ cur.toList us (i*sz) f sz (n'*sz) Gt hmul (by simpa using tg)
 have adP:nq.size=cap*sz:=by rw[<-wc,<-dc];simp;omega
 have anG:(xs.set i (sd q f cs)).length=n':=by simp[di]
 obtain⟨ah2,_,_⟩:=h.setRowM (w':=w.setRow g nq) ab rfl I (bl:=g) rfl (v':= .slice (some ⟨g,0,none⟩) n' cap) rfl (xs':=xs.set i (sd q f cs)) (us:=fq.take (i*sz)++v'.cells.toList++fq.drop (i*sz+sz)) (.inl ⟨by simp[di],rfl⟩) rfl rfl rfl (fun j ai=>setRow_other w g j nq ai) (setRow_size w g nq)
  ⟨by rw[rf kd],.inr ⟨g,cap,nq,by simp[di],pT _,setRow_heap w g cur nq el _ KB,by simpa[di]using DC,A8,adP,by simpa[di]using aeO⟩⟩ kd
 exact⟨_,by simpa[di]using ah2⟩
theorem agk(z:Array Value)(n:Nat)(h:0<z.size):(madeCells z ((n+1)*z.size)).toList=z.toList++(madeCells z (n*z.size)).toList:=by
 apply List.ext_getElem?;intro j;rw[List.getElem?_append];have he:(n+1)*z.size=n*z.size+z.size:=by rw[Nat.add_mul,Nat.one_mul]
 simp only[madeCells,Array.getElem?_toList,Array.length_toList,Array.getElem?_map];by_cases ai:j<z.size
 ·rw[if_pos ai,Array.getElem?_range,if_pos Ω];simp[Nat.mod_eq_of_lt ai,ai]
 ·rw[br ai,Array.getElem?_range,Array.getElem?_range];by_cases ab:j<n*z.size+z.size
  ·rw[if_pos Ω,if_pos Ω];simp only[lM];rw[<-Nat.mod_eq_sub_mod Ω]
  ·rw[br Ω,br Ω]
theorem UD{w:World}{ν:aQ}{p:ae}{z:Value}(hr:aJ w ν p z)(h:0<z.cells.size)(aq:∀c∈z.cells.toList,c.oneCell'=true):∀n,cV w ν z.cells.size (List.replicate n p) (madeCells z.cells (n*z.cells.size)).toList
 |0=>by simp[cV,madeCells]
 |n+1=>by rw[agk _ _ h];simp only[List.replicate_succ,cV];exact⟨z,_,rfl,⟨hr,rfl,aq⟩,UD hr h aq n⟩
theorem O2{P:bS}{bk:List (Nat×dh)}(aE:eW P bk=true){C:eK}{st st':aU}{a:Act}{w:World}{ν:aQ}(hr:cm C st a w ν){d el:Nat}{x y:dm}{o:Oper}(aq:se C.N bk (.apps d el x y) o=true)
  {c:Prop} (he:CH st d el (bP st.t x) (bP st.t y)=some (c,st')) (aH:c) {K:Act->World->Prop} {Q:Exit->Act->World->Prop} (da:∀ch w' ν',cm C st' ch w' ν'->K ch w'):o.wp P a w K Q:=by
 obtain⟨dst,op,type,pos,after,guard⟩:=o;generalize aw:ej.apps d el x y=i at aq;unfold se at aq;dsimp only at aq;split at aq<;>first|(cases aw;done)|(cases aq;done)|skip
 rename_i o' h5 t t';cases aw;simp only[bJ,eA,fs]at aq;obtain⟨⟨⟨⟨⟨⟨I,J⟩,aP⟩,az⟩,bA⟩,cy⟩,eu⟩:=aq;subst I;split at aP
 ·rename_i fj aK;simp only[eA]at aP;subst aP;split at az
  ·rename_i Gt;split at bA
   ·rename_i g aS;simp only[bJ,eA,fs]at bA;obtain⟨nB,v8⟩:=bA;have rx:=eD hr cy;have j0:=eD hr eu;have kO:∀v' w',(uo #[t,t'] type #[a.eval o',a.eval h5]).run P w= .ok v' w'->(execOp a.eval ⟨some d,.call ⟨.builtin .append,⟨[o',h5]⟩,⟨[t,t']⟩⟩,type,pos,after,guard⟩).run P w= .ok (.value v') w':=by intro v' w' hq;simp only[execOp,resolve,invoke,builtin,fu,gq,fw,List.map_toArray,fF,List.map_nil];rw[hq];rfl
    obtain⟨e6,kL,z,ao,aL,bB,b9,ee,dC,nu,pd⟩:=(vu aE aS).ex;obtain⟨ds,hG,fC⟩:=h7 aE aK;obtain rfl:=rP fC;obtain⟨cr,kN,ad5⟩:=h7 aE Gt;obtain rfl:=xr ad5;have q1:z.cells.size=1:=by rw[pd,nB]
    have xR:e6.size=1:=by rw[bB,nB]
    unfold CH at he;split at he
    ·rename_i sz k n s af bG;split at he
     ·rename_i n' fj dL xs ab;split at he
      ·rename_i iR;obtain⟨rfl,rfl,rfl,rfl⟩:=iR;cases he;rw[af]at rx;rw[bG]at j0;simp only[aJ]at rx j0;obtain⟨⟨bx,rO,rr⟩,rxl,n0,l9,eZ,ey,jg⟩:=rx;obtain⟨sw,jY⟩:=j0;obtain⟨v0,fq,b0,cS,dT,dY⟩:=hr.good.own k _ ab;rw[eZ]at b0;simp only[ei,gY]at b0 cS;obtain⟨rfl,rfl⟩:=b0;have nC:a.eval o'=l9:=jg rfl;obtain⟨di,mC,tY⟩:=dY xs rfl;simp only at di mC;have ff:(⟨s.toArray⟩:k1).size=s.length:=by simp[OA]
       have Dk:byteCells ⟨s.toArray⟩=s.map fun c=>oV .u8 c.toNat:=by simp[byteCells]
       have u3:fq.length=xs.length:=by rw[di];simpa using cS.1
       have wb:cV w ν 1 (xs++gL s) (fq++byteCells ⟨s.toArray⟩):=by rw[Dk];exact BW mC (M9 w ν s)
       have fc:(gL s).length=s.length:=by simp[gL]
       have nZ:(xs.length+s.length)*e6.bytes<=140737488355328:=by
        have ks:e6.bytes<=2048:=by rw[b9];exact v8
        have jc:(xs.length+s.length)*e6.bytes<=(xs.length+s.length)*2048:=Nat.mul_le_mul_left _ ks;simp only[aR]at aH;omega
       have iS:xs.length+s.length<=maxLen:=by simp only[aR]at aH;simp only[maxLen];omega
       rw[sw,nC]at kO;have zm:∀(base:aW Addr) (cap:Nat),l9= .slice base xs.length cap->n0<=cap->cap<xs.length+s.length->(⟨some d,.call ⟨.builtin .append,⟨[o',h5]⟩,⟨[t,t']⟩⟩,type,pos,after,guard⟩:Oper).wp P a w K Q:=by
        intro base cap hu DC tg;obtain⟨v',w',f1,f2,f3⟩:=WO (P:=P) w t t' type fj e6 z hG kN ao dC xR q1 l9 xs.length fq (by rw[di];exact cS) ⟨s.toArray⟩ cap base hu (by rw[ff];exact tg) (by rw[ff];exact iS) (by rw[ff];exact nZ);rw[ff]at f2;obtain⟨ij,gA⟩:=hr.newRowM (k:=k) (xs:=xs++gL s) (el:=fj) (sz:=1) (.inr ⟨_,ab,by simp[fc];omega⟩) f3 (by rw[gx,fc];exact f2) wb (by rw[gx,fc];exact aH) (n':=st.n) (o':=st.o)
         (fun j ai=>⟨ai,fun e=>by subst e;have:=(hr.new _ ai).2.1;rw[eZ]at this;cases this⟩)
        refine lp (kO _ _ f1) (da _ _ (ν.withOwn k (xs++gL s).length v') ?_);have:=ij.put (d:=some d) (by simpa[hZ]using J) (gA (by rw[gx,fc];exact HC f2 Ω));simpa[fE,fc]using this
       rcases cS.2 with⟨kD,wR⟩|⟨bl,cap,cur,kD,wR,wS,Ex,Ez,HG,BP⟩
       ·rw[<-nC,rr]at kD;cases kD
       ·have hT:l9.ownBlock=some bl:=by rw[kD];rfl
        by_cases oN:xs.length+s.length<=cap
        ·have f1:=ajn (P:=P) w t t' type fj e6 hG kN ao xR bl xs.length cap cur wS ⟨s.toArray⟩ (by rw[ff];exact oN) (by rw[ff];omega);rw[ff]at f1;generalize DZ:(cur.toList.take xs.length++byteCells ⟨s.toArray⟩++cur.toList.drop (xs.length+s.length)).toArray=l3 at f1;have k9:(w.setRow bl l3).heap[bl]? =some (.cells l3 fj (0,0)):=setRow_heap w bl cur l3 fj _ wS;have xU:(byteCells ⟨s.toArray⟩).length=s.length:=by rw[byteCells_length,ff]
         have aD:(fq++byteCells ⟨s.toArray⟩).length=(xs++gL s).length*1:=by rw[gx,u3,xU,gx,fc,Nat.mul_one]
         have bA:cur.toList.take xs.length=fq:=by rw[di];simpa using BP
         have gn:l3.size=cap*1:=by rw[<-DZ];simp only[List.size_toArray,gx,pS,hX,Array.length_toList,xU];omega
         have oO:l3.toList.take ((xs++gL s).length*1)=fq++byteCells ⟨s.toArray⟩:=by rw[<-DZ,bA,<-aD];exact List.take_left
         obtain⟨ij,_,gA⟩:=hr.setRowM (w':=w.setRow bl l3) ab rfl eZ hT (v':= .slice (some ⟨bl,0,none⟩) (xs.length+s.length) cap) rfl (xs':=xs++gL s) (us:=fq++byteCells ⟨s.toArray⟩)
          (by
           by_cases bz:s=[]
           ·subst bz;exact .inl ⟨by simp[gL,di],by rw[kD];simp[di]⟩
           ·exact .inr (by have:=sJ.2 bz;simp[fc];omega)) rfl rfl rfl (fun j ai=>setRow_other w bl j l3 ai) (setRow_size w bl l3)
          ⟨aD,.inr ⟨bl,cap,l3,by simp[fc],pT _,k9,by simpa[fc]using oN,Ez,gn,oO⟩⟩ wb
         replace gA:=gA (by simpa[fc]using aH);refine lp (v:= .slice (some ⟨bl,0,none⟩) (xs.length+s.length) cap) (w':=w.setRow bl l3) (kO _ _ ?_) (da _ _ (ν.withOwn k (xs++gL s).length (.slice (some ⟨bl,0,none⟩) (xs.length+s.length) cap)) ?_)
         ·rw[kD,<-di];exact f1
         ·have:=ij.put (d:=some d) (by simpa[hZ]using J) gA;simpa[fE,fc]using this
        ·exact zm _ cap (by rw[kD,<-di]) Ex Ω
      ·cases he
     ·cases he
    ·rename_i sz xs s af bG;split at he
     ·rename_i dz;obtain rfl:=dz;cases he;obtain⟨jd,kt,p5⟩:=aH;rw[af]at rx;rw[bG]at j0;simp only[aJ]at rx j0;have nC:=rx.2.1 trivial;obtain⟨sw,jY⟩:=j0;have ff:(⟨s.toArray⟩:k1).size=s.length:=by simp[OA]
      have Dk:byteCells ⟨s.toArray⟩=s.map fun c=>oV .u8 c.toNat:=by simp[byteCells]
      have wb:cV w ν 1 (gL s) (byteCells ⟨s.toArray⟩):=by rw[Dk];exact M9 w ν s
      have fc:(gL s).length=s.length:=by simp[gL]
      have hp:0<s.length:=sJ.2 kt;have nZ:(0+s.length)*e6.bytes<=140737488355328:=by
       have ks:e6.bytes<=2048:=by rw[b9];exact v8
       have jc:(0+s.length)*e6.bytes<=(0+s.length)*2048:=Nat.mul_le_mul_left _ ks;simp only[aR]at p5;omega
      have iS:0+s.length<=maxLen:=by simp only[aR]at p5;simp only[maxLen];omega
      rw[sw,nC]at kO;obtain⟨v',w',f1,f2,f3⟩:=WO (P:=P) w t t' type el e6 z hG kN ao dC xR q1 (.slice none 0 0) 0 [] ⟨rfl,.inl ⟨rfl,rfl⟩⟩ ⟨s.toArray⟩ 0 none rfl (by rw[ff];omega) (by rw[ff];exact iS) (by rw[ff];exact nZ);rw[ff,Nat.zero_add,eE]at f2;have ka:fresh st.n st.o (.obj 862):=⟨trivial,jd⟩;obtain⟨ij,gA⟩:=hr.newRowM (k:= .obj 862) (xs:=gL s) (el:=el) (sz:=1) (.inl (hr.new _ ka)) f3 (by rw[fc];exact f2) wb (by rw[fc];exact p5) (n':=st.n) (o':= .obj 862::st.o)
       (fun j ai=>⟨⟨ai.1,fun h=>ai.2 (List.mem_cons_of_mem _ h)⟩,fun e=>by subst e;exact ai.2 Ψ⟩)
      refine lp (kO _ _ f1) (da _ _ (ν.withOwn (.obj 862) (gL s).length v') ?_);have:=ij.put (d:=some d) (by simpa[hZ]using J) (gA (by rw[fc];exact HC f2 hp));simpa[fE,fc]using this
     ·cases he
    ·cases he
   ·cases bA
  ·cases az
 ·cases aP
theorem jt{P:bS}{bk:List (Nat×dh)}(aE:eW P bk=true){C:eK}{st st':aU}{a:Act}{w:World}{ν:aQ}(hr:cm C st a w ν){i:ej}{o:Oper}(aq:se C.N bk i o=true)
  {κ:aC} {n':Nat} {o₁:List aC} (wg:i.makes st=true->fresh st.n st.o κ) (hJ:i.makes st=true->∀j,fresh n' o₁ j->fresh st.n st.o j/\j≠κ) {c:Prop} (he:eR κ n' o₁ st i=some (c,st')) (aH:c) {K:Act->World->Prop} {Q:Exit->Act->World->Prop} (da:∀ch w' ν',cm C st' ch w' ν'->K ch w') (hB:i.bok κ:=by first|trivial|(intro h;cases h)):o.wp P a w K Q:=by
 obtain⟨dst,op,type,pos,after,guard⟩:=o;unfold se at aq;dsimp only at aq;split at aq
 ·rename_i d key t;simp only[bJ,eA,fs]at aq;obtain⟨⟨rfl,J⟩,_⟩:=aq;simp only[eR]at he;cases he;obtain⟨g1,g2⟩:=hr.newBox (hr.new _ (wg rfl)) (hJ rfl) (cs:=[.hdm 0 []]) (us:= #[]) ⟨0,fun e=>absurd e hB⟩ (by simp only[iw];exact⟨by simp[cz],⟨rfl,Ψ,Ψ⟩⟩);refine lp (v:= .map (some w.heap.size)) (w':=w.alloc (.map #[] 0)) ?_ (da _ _ _ (g1.put (d:=some d) (by simpa[hZ]using J) (p:= .gmap κ) ?_))
  ·simp only[execOp,Instr.makeMap,vC,fu,run_newObj,fw,gq];rfl
  ·simp[aJ,aQ.withBox]
 ·rename_i cg x k v t jZ kU oi;simp only[bJ,eA]at aq;obtain⟨⟨⟨⟨rfl,I⟩,J⟩,au⟩,aP⟩:=aq;have rx:=eD hr J;have wY:=eD hr au;have rh:=eD hr aP;split at I
  ·rename_i sz lO dS p0 z aK;obtain⟨gP,hu,fC⟩:=h7 aE aK;have gv:gP= .map dS p0:=by cases gP<;>simp[mi]at fC;obtain⟨rfl,rfl⟩:=fC;rfl
   subst gv;have mR:=LH aE I;simp only[eR]at he;split at he
   ·rename_i m af;rw[af]at rx;simp only[aJ]at rx;obtain⟨bl,cq,cE⟩:=rx;split at he
    ·rename_i cs dc;split at he
     ·rename_i cs' hm;cases he;obtain⟨hx,us,el,b0,cS,dT,dY,di⟩:=hr.good.box m cs dc;rw[cq]at b0;cases b0;unfold r3 at hm;split at hm
      ·rename_i clock borns kvs;split at hm
       ·cases hm
       rename_i eT;simp only[jr]at dY;simp only[iw]at di;have mo:=w1 (P:=P) dY;have xM:=Np (P:=P) (w:=w) mR false wY (by simpa using eT);have b5:bl<w.heap.size:=(Array.getElem?_eq_some_iff.1 dY).1;have mn:∀(o':Obj) (bE:Array Value) (ds:List ae),(Instr.mapUpdate t (a.eval jZ) (a.eval kU) (a.eval oi)).run P w= .ok () {w with heap:=w.heap.setIfInBounds bl o'}->jr ds bE el.1=o'->iw w ν ds bE.toList->some ds=some cs'->
         (⟨none,.mapUpdate t jZ kU oi,type,pos,after,guard⟩:Oper).wp P a w K Q:=by
        intro o' bE ds hq Bg kd hG;cases hG;refine Fe (w':={w with heap:=w.heap.setIfInBounds bl o'}) ?_ (da _ _ _ (hr.setBox (w':={w with heap:=w.heap.setIfInBounds bl o'}) dc cq (us:=bE) (el:=el) rfl rfl rfl (fun j ai=>?_) Ψ ?_ kd).1)
        ·simp only[execOp,hq,fu,fw,gq]
        ·exact Array.getElem?_setIfInBounds_ne (Ne.symm ai)
        ·rw[Bg];simp[b5]
       split at hm
       ·rename_i x5 zs;obtain⟨j,u,bE,e,f1,f2,f3,f4,f5,f6,f7⟩:=Ee mR wY rh borns kvs us.toList 0 _ di.1 di.2.len zs;refine mn (.map (fZ borns bE).toArray clock) bE.toArray (.hdm clock borns::x5) ?_ (by simp[jr]) (by simp only[iw];exact⟨by simpa using f2,⟨by rw[f3];exact di.2.len,di.2.inc,di.2.lt⟩⟩) hm;have K6:(Instr.keyThatStays (((fZ borns us.toList).toArray[j]?.map (·.key)).getD (a.eval kU)) (a.eval kU)).run P w= .ok (a.eval kU) w:=by
         have:((fZ borns us.toList).toArray[j]?.map (·.key)).getD (a.eval kU)=e.key:=by simp[f4]
         rw[this];simp[Instr.keyThatStays,f6]
        simp only[Nat.zero_add]at f1;simp only[Instr.mapUpdate,fu,run_underlying hu,fw,cE,mo,xM,f1.run mR,gq,K6,ER dY];rw[f7];simp
       ·rename_i zs;have f1:=Ee mR wY rh borns kvs us.toList 0 _ di.1 di.2.len zs;simp only at f1;have rW:us.toList.length=2*borns.length:=by rw[HW di.1,di.2.len]
        refine mn (.map ((fZ borns us.toList).toArray.push ⟨a.eval kU,a.eval oi,clock⟩) (clock+1)) (us.toList++[a.eval kU,a.eval oi]).toArray (.hdm (clock+1) (borns++[clock])::(kvs++[bP st.t k,bP st.t v])) ?_ (by simp only[jr,JT borns us.toList clock _ _ rW];simp) ?_ hm
        ·simp only[Instr.mapUpdate,fu,run_underlying hu,fw,cE,mo,xM,f1.run mR,gq,ER dY]
        ·simp only[iw];refine⟨Nd di.1 (by simp only[cz];exact⟨_,_,rfl,wY,_,_,rfl,rh,rfl⟩),⟨by simp[di.2.len];omega,?_,?_⟩⟩
         ·rw[List.pairwise_append];exact⟨di.2.inc,Ψ,fun x af y bG=>by simp at bG;subst bG;exact di.2.lt x af⟩
         ·intro b ah;rcases hl.1 ah with ah|ah
          ·have:=di.2.lt b ah;omega
          ·simp at ah;omega
       ·cases hm
      ·cases hm
     ·cases he
    ·cases he
   ·cases he
  ·cases I
 ·rename_i cg x k v t jZ kU oi;simp only[bJ,eA]at aq;obtain⟨⟨⟨⟨rfl,I⟩,J⟩,au⟩,aP⟩:=aq;have rx:=eD hr J;have wY:=eD hr au;have rh:=eD hr aP;split at I
  ·rename_i sz lO dS p0 z aK;obtain⟨gP,hu,fC⟩:=h7 aE aK;have gv:gP= .map dS p0:=by cases gP<;>simp[mi]at fC;obtain⟨rfl,rfl⟩:=fC;rfl
   subst gv;have mR:=LH aE I;simp only[eR]at he;split at he
   ·rename_i m af;rw[af]at rx;simp only[aJ]at rx;obtain⟨bl,cq,cE⟩:=rx;split at he
    ·rename_i cs dc;split at he
     ·rename_i cs' hm;cases he;obtain⟨hx,us,el,b0,cS,dT,dY,di⟩:=hr.good.box m cs dc;rw[cq]at b0;cases b0;unfold r3 at hm;split at hm
      ·rename_i clock borns kvs;split at hm
       ·cases hm
       rename_i eT;simp only[jr]at dY;simp only[iw]at di;have mo:=w1 (P:=P) dY;have xM:=Np (P:=P) (w:=w) mR false wY (by simpa using eT);have b5:bl<w.heap.size:=(Array.getElem?_eq_some_iff.1 dY).1;have mn:∀(o':Obj) (bE:Array Value) (ds:List ae),(Instr.mapUpdate t (a.eval jZ) (a.eval kU) (a.eval oi)).run P w= .ok () {w with heap:=w.heap.setIfInBounds bl o'}->jr ds bE el.1=o'->iw w ν ds bE.toList->some ds=some cs'->
         (⟨none,.mapUpdate t jZ kU oi,type,pos,after,guard⟩:Oper).wp P a w K Q:=by
        intro o' bE ds hq Bg kd hG;cases hG;refine Fe (w':={w with heap:=w.heap.setIfInBounds bl o'}) ?_ (da _ _ _ (hr.setBox (w':={w with heap:=w.heap.setIfInBounds bl o'}) dc cq (us:=bE) (el:=el) rfl rfl rfl (fun j ai=>?_) Ψ ?_ kd).1)
        ·simp only[execOp,hq,fu,fw,gq]
        ·exact Array.getElem?_setIfInBounds_ne (Ne.symm ai)
        ·rw[Bg];simp[b5]
       split at hm
       ·rename_i x5 zs;obtain⟨j,u,bE,e,f1,f2,f3,f4,f5,f6,f7⟩:=Ee mR wY rh borns kvs us.toList 0 _ di.1 di.2.len zs;refine mn (.map (fZ borns bE).toArray clock) bE.toArray (.hdm clock borns::x5) ?_ (by simp[jr]) (by simp only[iw];exact⟨by simpa using f2,⟨by rw[f3];exact di.2.len,di.2.inc,di.2.lt⟩⟩) hm;have K6:(Instr.keyThatStays (((fZ borns us.toList).toArray[j]?.map (·.key)).getD (a.eval kU)) (a.eval kU)).run P w= .ok (a.eval kU) w:=by
         have:((fZ borns us.toList).toArray[j]?.map (·.key)).getD (a.eval kU)=e.key:=by simp[f4]
         rw[this];simp[Instr.keyThatStays,f6]
        simp only[Nat.zero_add]at f1;simp only[Instr.mapUpdate,fu,run_underlying hu,fw,cE,mo,xM,f1.run mR,gq,K6,ER dY];rw[f7];simp
       ·rename_i zs;have f1:=Ee mR wY rh borns kvs us.toList 0 _ di.1 di.2.len zs;simp only at f1;have rW:us.toList.length=2*borns.length:=by rw[HW di.1,di.2.len]
        refine mn (.map ((fZ borns us.toList).toArray.push ⟨a.eval kU,a.eval oi,clock⟩) (clock+1)) (us.toList++[a.eval kU,a.eval oi]).toArray (.hdm (clock+1) (borns++[clock])::(kvs++[bP st.t k,bP st.t v])) ?_ (by simp only[jr,JT borns us.toList clock _ _ rW];simp) ?_ hm
        ·simp only[Instr.mapUpdate,fu,run_underlying hu,fw,cE,mo,xM,f1.run mR,gq,ER dY]
        ·simp only[iw];refine⟨Nd di.1 (by simp only[cz];exact⟨_,_,rfl,wY,_,_,rfl,rh,rfl⟩),⟨by simp[di.2.len];omega,?_,?_⟩⟩
         ·rw[List.pairwise_append];exact⟨di.2.inc,Ψ,fun x af y bG=>by simp at bG;subst bG;exact di.2.lt x af⟩
         ·intro b ah;rcases hl.1 ah with ah|ah
          ·have:=di.2.lt b ah;omega
          ·simp at ah;omega
       ·cases hm
      ·cases hm
     ·cases he
    ·cases he
   ·cases he
  ·cases I
 ·rename_i d key x t jZ;simp only[bJ,eA,fs]at aq;obtain⟨⟨⟨⟨rfl,J⟩,I⟩,au⟩,_⟩:=aq;have rx:=eD hr au;split at I
  ·rename_i sz lO dS p0 z aK;obtain⟨gP,hu,fC⟩:=h7 aE aK;have gv:gP= .map dS p0:=by cases gP<;>simp[mi]at fC;obtain⟨rfl,rfl⟩:=fC;rfl
   subst gv;simp only[eR]at he;split at he
   ·rename_i m af;rw[af]at rx;have ajq:=rx;simp only[aJ]at rx;obtain⟨bl,cq,cE⟩:=rx;split at he
    ·rename_i cs dc;split at he
     ·rename_i cs' hm;cases he;obtain⟨hx,us,el,b0,cS,dT,dY,di⟩:=hr.good.box m cs dc;rw[cq]at b0;cases b0;unfold EC at hm;split at hm
      ·rename_i clock borns kvs;cases hm;simp only[jr]at dY;have mo:=w1 (P:=P) dY;obtain⟨g1,g2⟩:=hr.newBox (hr.new _ (wg rfl)) (hJ rfl) (cs:=[.hdi clock [] clock,.gmap m]) (us:= #[a.eval jZ]) ⟨0,fun e=>absurd e hB⟩ (by simp only[iw,cz];exact⟨_,_,rfl,ajq,rfl⟩);have Bg:jr [.hdi clock [] clock,.gmap m] #[a.eval jZ] 0= .mapIter (some bl) clock #[] clock:=by simp[jr,cE]
       rw[Bg]at g1 g2;refine lp (v:= .pointer (some ⟨w.heap.size,0,none⟩)) (w':=w.alloc (.mapIter (some bl) clock #[] clock)) ?_ (da _ _ _ (g1.put (d:=some d) (by simpa[hZ]using J) (p:= .ptr κ 0) g2))
       ·simp only[execOp];refine E9 ?_;simp only[Instr.range,fu,run_underlying hu,fw,cE,mo,gq,run_newObj];rfl
      ·cases hm
     ·cases he
    ·cases he
   ·cases he
  ·cases I
 ·rename_i d aqb;simp only[bJ,eA,fs]at aq;obtain⟨⟨I,J⟩,au⟩:=aq;subst I;simp only[eR]at he;split at he
  ·rename_i hY p aN;cases he;obtain⟨v,g1,g2⟩:=akr (o:=⟨some d,op,type,pos,after,guard⟩) aE hr au aN aH;refine lp g1 (da _ _ ν ?_);exact hr.put (d:=some d) (by simpa[hZ]using J) g2
  ·cases he
 ·rename_i d key x el o';simp only[bJ,eA,fs]at aq;obtain⟨⟨⟨I,J⟩,au⟩,lX⟩:=aq;subst I;simp only[eR]at he;cases he;have af:=eD hr au;have ny:=wW af aH;obtain⟨g1,g2⟩:=hr.newBox (hr.new _ (wg rfl)) (hJ rfl) ⟨el,fun e=>by have:=hB e;subst this;simpa using lX⟩ (by rw[l4 (vk ny)];exact ny);rw[mB (vk ny)]at g1 g2;refine lp (v:= .pointer (some ⟨w.heap.size,0,none⟩)) (w':=w.alloc (.cells (a.eval o').cells el)) ?_ (da _ _ _ (g1.put (d:=some d) (by simpa[hZ]using J) (p:= .ptr κ 0) ?_))
  ·simp only[execOp,Instr.box,newVar,newRow,fu,run_newObj,fw,gq];rfl
  ·simpa only[aJ]using g2
 ·rename_i d key z el;simp only[bJ,eA,fs]at aq;obtain⟨⟨⟨I,J⟩,au⟩,lX⟩:=aq;subst I;simp only[eR]at he;cases he;split at au
  ·rename_i f aK;have cK:=Oy au;obtain⟨bh,Ff,z2,z3⟩:=NU aE aK w;rw[<-cK]at z2;obtain⟨_,ny⟩:=Ox w ν z2;obtain⟨g1,g2⟩:=hr.newBox (hr.new _ (wg rfl)) (hJ rfl) ⟨el,fun e=>by have:=hB e;subst this;simpa using lX⟩ (by rw[l4 (vk ny)];exact ny);rw[mB (vk ny)]at g1 g2;refine lp (v:= .pointer (some ⟨w.heap.size,0,none⟩)) (w':=w.alloc (.cells bh.cells el)) ?_ (da _ _ _ (g1.put (d:=some d) (by simpa[hZ]using J) (p:= .ptr κ 0) ?_))
   ·simp only[execOp,Instr.alloc,newVar,newRow,fu,Ff,run_newObj,fw,gq];rfl
   ·simpa only[aJ]using g2
  ·cases au
 ·rename_i sz x y t o' h5;simp only[bJ,eA]at aq;obtain⟨⟨⟨I,J⟩,au⟩,aP⟩:=aq;subst I;split at J
  ·rename_i f aK;simp only[eA]at J;simp only[eR]at he;split at he
   ·rename_i k off af;split at he
    ·rename_i cs dc;cases he;obtain⟨c0,cF,c2,c3⟩:=aH;have rx:=eD hr au;rw[af]at rx;simp only[aJ]at rx;obtain⟨bl,cq,cE⟩:=rx;have j0:=eD hr aP;have wU:=wW j0 cF;have ue:=qo wU;obtain⟨hx,us,el,b0,cS,dT,dY,di⟩:=hr.good.box k cs dc;rw[cq]at b0;cases b0;rw[mB c0]at dY;rw[l4 c0]at di;have a8:=qo di;obtain⟨_,dz⟩:=w4 aE aK w;have wC:(a.eval h5).cells.size=sz:=by rw[c2]at ue;simpa using ue
     have e7:=run_storeCells_at (P:=P) bl off el.1 (a.eval h5).cells.toList 0 us w dY (by simp at a8⊢;omega) (BZ wU);simp only[Nat.add_zero]at e7;refine Fe (w':=w.setRow bl (us.toList.take off++(a.eval h5).cells.toList++us.toList.drop (off+(a.eval h5).cells.toList.length)).toArray) ?_ (da _ _ _ (hr.storeBox dc cq c0 ?_))
     ·simp only[execOp,Instr.storeAt,cE,Instr.sureAddr,storeVar,fu,gq,fw,dz,wC,J,ne_eq,not_true_eq_false,if_false,e7]
     ·simp only[nL];rw[ue];exact zR (zR (EJ off di) wU) (BY _ di)
    ·cases he
   ·rename_i af;generalize KT:bP st.t x=px at he;unfold sj at he;split at he
    ·rename_i dL k n i zc;split at he
     ·rename_i n' el iz xs ab;split at he
      ·rename_i wo;obtain⟨rfl,rfl⟩:=wo;split at he
       ·rename_i q bp;cases he;obtain⟨c0,cF,c2,c3,c4⟩:=aH;have rx:=eD hr au;rw[KT]at rx;have j0:=eD hr aP;have wU:=wW j0 cF;have ue:=qo wU;obtain⟨_,dz⟩:=w4 aE aK w;have wC:(a.eval h5).cells.size=sz:=by rw[c2]at ue;simpa using ue
        obtain⟨bl,off,nq,DJ,e7,ν',n7⟩:=hr.storeRow (P:=P) ab rx bp c0 wU (by simpa[wC]using c3) (fun e=>by have:=er List.length e;simp[wC]at this;omega);refine Fe (w':=w.setRow bl nq) ?_ (da _ _ _ n7);simp only[execOp,Instr.storeAt,DJ,Instr.sureAddr,storeVar,fu,gq,fw,dz,wC,J,ne_eq,not_true_eq_false,if_false,e7]
       ·cases he
      ·cases he
     ·cases he
    ·cases he
  ·cases J
 ·rename_i d sz el xs t len parts;simp only[bJ,eA,fs]at aq;obtain⟨⟨⟨⟨⟨⟨I,J⟩,au⟩,aP⟩,bA⟩,cy⟩,eu⟩:=aq;subst I;subst bA;split at au
  ·rename_i fj aK;simp only[eA]at au;subst au;split at aP
   ·rename_i g aS;simp only[bJ,eA,fs]at aP;obtain⟨rfl,hp⟩:=aP;simp only[eR]at he;cases he;obtain⟨us,g1,g2,g3⟩:=WQ aE hr aK rfl aS eu aH cy;have ld:(w.alloc (.cells us el)).ownsRow w.heap.size el g.size (.slice (some ⟨w.heap.size,0,none⟩) xs.length xs.length) (xs.map (bP st.t)).length us.toList:=by
     refine⟨by simp[g3],.inr ⟨w.heap.size,xs.length,us,Ψ,cc _,heap_alloc_new w _,Ψ,?_,g3,?_⟩⟩
     ·simp only[maxLen];have:xs.length<=xs.length*g.size:=Nat.le_mul_of_pos_right _ hp;omega
     ·rw[vB];simp[g3]
    obtain⟨eZ,ey⟩:=hr.newRow (k:=κ) (xs:=xs.map (bP st.t)) (.inl (hr.new _ (wg rfl))) (World.grownBy_alloc w _ none) ld g2
     (by have:xs.length<=xs.length*g.size:=Nat.le_mul_of_pos_right _ hp;simp only[aR,nh];omega) (hJ rfl)
    simp only[nh]at eZ ey;refine lp (v:= .slice (some ⟨w.heap.size,0,none⟩) xs.length xs.length) (w':=w.alloc (.cells us el)) ?_ (da _ _ _ (eZ.put (d:=some d) (by simpa[hZ]using J) (p:= .slice g.size (.own κ) (xs.map (bP st.t))) ey));have aV:(parts.map fun(x:Nat×iX)=>(x.1,a.eval x.2))=(parts.toList.map fun(x:Nat×iX)=>(x.1,a.eval x.2)).toArray:=by apply Array.ext';simp
    simp only[execOp];refine E9 ?_;rw[<-g1];congr 2
   ·cases aP
  ·cases au
 ·rename_i d sz el x y o' h5 t t';simp only[bJ,eA,fs]at aq;obtain⟨⟨⟨⟨⟨⟨I,J⟩,au⟩,aP⟩,bA⟩,cy⟩,eu⟩:=aq;subst I;subst au;split at aP
  ·rename_i fj aK;simp only[eA]at aP;subst aP;split at bA
   ·rename_i g aS;simp only[bJ,eA,fs]at bA;obtain⟨⟨rfl,hp⟩,v8⟩:=bA;have rx:=eD hr cy;have j0:=eD hr eu;have kO:∀v' w',(uo #[t,t] type #[a.eval o',a.eval h5]).run P w= .ok v' w'->(execOp a.eval ⟨some d,.call ⟨.builtin .append,⟨[o',h5]⟩,⟨[t,t]⟩⟩,type,pos,after,guard⟩).run P w= .ok (.value v') w':=by intro v' w' hq;simp only[execOp,resolve,invoke,builtin,fu,gq,fw,List.map_toArray,fF,List.map_nil];rw[hq];rfl
    obtain⟨e6,kL,z,ao,aL,bB,b9,ee,dC,nu,pd⟩:=(vu aE aS).ex;obtain⟨ds,hG,fC⟩:=h7 aE aK;obtain rfl:=rP fC;simp only[eR]at he;split at he
    ·rename_i dL tag xs iz hC ys af bG;split at he
     ·rename_i ff;obtain⟨rfl,ff⟩:=ff;subst ff;rw[af]at rx;rw[bG]at j0;simp only[aJ]at rx j0;obtain⟨⟨ax,rO,rr,cx1,⟨QA,QB⟩,cx4⟩,rxn,rxo,rxt⟩:=rx;obtain⟨⟨ay,ly,sw,cy1,⟨QC,QD⟩,cy4⟩,_⟩:=j0;split at he
      ·rename_i k;split at he
       ·rename_i ow ab;cases he;obtain⟨cF,c2,c3,c4⟩:=aH;subst c2;obtain⟨n0,l9,eZ,ey,jg⟩:=rxo k rfl;obtain⟨v0,fq,b0,cS,dT,_⟩:=hr.good.own k ow ab;rw[eZ]at b0;simp only[ei,gY]at b0;obtain⟨rfl,rfl⟩:=b0;have nC:a.eval o'=l9:=jg cF.symm;by_cases ht:ys=[]
        ·subst ht;rw[sw,rr]at kO;have hq:=H4 (P:=P) (w:=w) (ty:=type) hG ao ax xs.length rO cx1 ay ly;refine lp (kO _ _ (by simpa using hq)) (da _ _ ν ?_);have e7:{st with t:=put d (.slice ow.sz (.own k) (xs++[])) st.t,e:=dj k ⟨xs.length+([]:List ae).length,ow.el,ow.sz,none⟩ st.e}=({st with e:=dj k ⟨ow.n,ow.el,ow.sz,none⟩ st.e,t:=put d (.slice ow.sz (.own k) xs) st.t}:aU):=by simp[cF]
         rw[<-c3,e7];have kc:=hr.forgetRow ab;refine kc.put (d:=some d) (by simpa[hZ]using J) (p:= .slice ow.sz (.own k) xs) ?_;simp only[aJ];rw[<-c3]at cx4;exact⟨⟨ax,rO,rfl,cx1,⟨QA,QB⟩,cx4⟩,fun e=>(by cases e),(fun g e=>by cases e;exact⟨_,_,eZ,ey,fun e=>by rw[<-rr];exact jg e⟩),fun _ _ e=>(by cases e),fun _ e=>(by cases e)⟩
        ·have hyp:0<ys.length:=by cases ys<;>simp at ht⊢
         rcases cy4 with cy4|⟨lO,oj,hP,rfl,zG,nr⟩
         ·exact absurd cy4 ht
         ·have jf:=rf nr;have tt:∀j u,hP[j]? =some u->w.cell? ((⟨lO,oj,none⟩:Addr).add j)=some u:=fun j u ai=>by rw[o6];exact(u9 zG ai).2
          have nZ:(xs.length+ys.length)*e6.bytes<=140737488355328:=by
           have ks:e6.bytes<=2048:=by rw[b9];exact v8
           have jc:(xs.length+ys.length)*e6.bytes<=(xs.length+ys.length)*2048:=Nat.mul_le_mul_left _ ks;simp only[aR]at c4;omega
          have iS:xs.length+ys.length<=maxLen:=by simp only[aR]at c4;simp only[maxLen];omega
          rw[sw]at kO;have u3:fq.length=ow.n*ow.sz:=cS.1;have q1:z.cells.size=e6.size:=by rw[pd,bB]
          have zm:(∀cur,dr->cur=(0:Nat))->(∃v' w',(uo #[t,t] type #[a.eval o',.slice (some ⟨lO,oj,none⟩) ys.length ly]).run P w= .ok v' w'/\w'.ownsRow w.heap.size ow.el e6.size v' (xs.length+ys.length) (fq++hP)/\w.grownBy w' none/\cV w ν e6.size xs fq)->
            (⟨some d,.call ⟨.builtin .append,⟨[o',h5]⟩,⟨[t,t]⟩⟩,type,pos,after,guard⟩:Oper).wp P a w K Q:=by
           intro _ bR;obtain⟨v',w',f1,f2,f3,f4⟩:=bR;have wb:cV w ν e6.size (xs++ys) (fq++hP):=BW f4 (by rw[bB];exact nr);obtain⟨ij,gA⟩:=hr.newRow (k:=k) (xs:=xs++ys) (.inr ⟨ow,ab,by rw[cF];simp;omega⟩) f3 (by simpa using f2) wb (by simpa using c4) (n':=st.n) (o':=st.o)
            (fun j ai=>⟨ai,fun e=>by subst e;have:=(hr.new _ ai).2.1;rw[eZ]at this;cases this⟩)
           refine lp (kO _ _ f1) (da _ _ ((ν.withOwn k (xs++ys).length v').withRowOf k v' (xs++ys).length ((xs++ys).length*e6.size)) ?_);have:=ij.put (d:=some d) (by simpa[hZ]using J) gA;simpa[bB,fE]using this
          rcases cS.2 with⟨kD,wR⟩|⟨bl,cap,cur,kD,wR,wS,Ex,Ez,HG,BP⟩
          ·
           have rZ:xs=[]:=sI Ω;have tF:fq=[]:=sI (by rw[u3,wR];simp);subst rZ;subst tF;refine zm (fun _ h=>h.elim) ?_;obtain⟨v',w',f1,f2,f3,_⟩:=run_append_own (P:=P) w w.heap.size t type ow.el e6 z e6.size e6.bytes hG ao dC rfl rfl q1 (by rw[bB];exact hp) (.slice none 0 0) 0 [] (World.ownsRow_nil w _ _ _)
            ⟨lO,oj,none⟩ ys.length ly hP (by rw[jf,bB]) tt (zQ nr) (by simpa using iS) (by simpa using nZ) (cc _)
           refine⟨v',w',by rw[nC,kD];exact f1,by simpa using f2,by simpa[ov]using f3,by simp[cV]⟩
          ·have aeB:kg w ν.A bl 0 fq/\cV w ν e6.size xs fq/\True:=by
            rw[nC,kD]at rr;rcases cx4 with cx4|⟨iq,ao5,N3,f1,f2,f3⟩
            ·subst cx4;have:fq=[]:=sI (by rw[u3,cF];simp);subst this;exact⟨trivial,by simp[cV],trivial⟩
            ·subst f1;injection rr with vx1 vx2 vx3;injection vx1 with vx1;injection vx1 with vx1 vx4;subst vx1;subst vx4;have heq:N3=fq:=by
              apply List.ext_getElem?;intro j;have rW:N3.length=fq.length:=by rw[rf f3,u3,cF,c3]
              by_cases ai:j<N3.length
              ·have I:=(u9 f2 (cL ai)).2;rw[Nat.zero_add]at I;have J:=cS.cells (g:=bl) (by rw[kD];rfl) j fq[j] (cL Ω);rw[o6,Nat.zero_add,I]at J;rw[cL ai,cL Ω];exact J
              ·rw[List.getElem?_eq_none Ω,List.getElem?_eq_none Ω]
             subst heq;exact⟨f2,by rw[bB];exact f3,trivial⟩
           obtain⟨fJ,fe,_⟩:=aeB;by_cases oN:xs.length+ys.length<=cap
           ·have anu:cur.size=cap*ow.sz:=HG;have hmul:(xs.length+ys.length)*ow.sz<=cap*ow.sz:=Nat.mul_le_mul_right _ oN;rw[Nat.add_mul]at hmul;have f1:=run_append_room (P:=P) w t type ow.el e6 hG ao bl xs.length cap cur wS ⟨lO,oj,none⟩ ys.length ly hP (by rw[jf,bB]) tt (zQ nr) oN (by rw[jf,bB,<-c3];omega);obtain⟨ij,gA⟩:=hr.inPlace ab (bl:=bl) (cap:=cap) (cur:=cur) (by rw[eZ,<-kD]) wS Ez HG (xs:=xs) (ys:=ys) (us:=fq) (ns:=hP) cF.symm BP (by rw[c3,<-bB];exact fe) (by rw[c3];exact nr) hyp (by rw[cF];exact oN) c4;refine lp (v:= .slice (some ⟨bl,0,none⟩) (ow.n+ys.length) cap) (w':=w.setRow bl (fq++hP++cur.toList.drop (ow.n*ow.sz+hP.length)).toArray) (kO _ _ ?_)
             (da _ _ (ν.withRowOf k (.slice (some ⟨bl,0,none⟩) (ow.n+ys.length) cap) (ow.n+ys.length) ((ow.n+ys.length)*ow.sz)) ?_)
            ·rw[nC,kD,cF,f1,<-BP,cF,c3,bB]
            ·have:=ij.put (d:=some d) (by simpa[hZ]using J) gA;simpa[cF,c3,fE]using this
           ·refine zm (fun _ h=>h.elim) ?_;obtain⟨v',w',f1,f2,f3⟩:=run_append_arg_grows (P:=P) w t type ow.el e6 z e6.size e6.bytes hG ao dC rfl rfl q1 (by rw[bB];exact hp) ⟨bl,0,none⟩ xs.length cap fq (by rw[u3,cF,c3,bB])
             (fun j u ai=>by rw[o6];exact(u9 fJ ai).2) ⟨lO,oj,none⟩ ys.length ly hP (by rw[jf,bB]) tt Ω iS nZ
            exact⟨v',w',by rw[nC,kD,cF];exact f1,f2,f3,fe⟩
       ·cases he
      ·cases he;have GJ:=rxn rfl;have rZ:xs=[]:=by rw[GJ]at rr;injection rr with _ aL;exact sI aL.symm
       subst rZ;have zr:(ej.app d g.size el x y).makes st=true:=by simp only[ej.makes,af]
       have q1:z.cells.size=e6.size:=by rw[pd,bB]
       rw[sw,GJ]at kO;have mn:∀(v':Value) (w':World) (hP:List Value),(uo #[t,t] type #[.slice none 0 0,.slice ay ys.length ly]).run P w= .ok v' w'->w'.ownsRow w.heap.size el g.size v' ys.length hP->w.grownBy w' none->cV w ν g.size ys hP->
         (⟨some d,.call ⟨.builtin .append,⟨[o',h5]⟩,⟨[t,t]⟩⟩,type,pos,after,guard⟩:Oper).wp P a w K Q:=by
        intro v' w' hP f1 f2 f3 f4;obtain⟨ij,gA⟩:=hr.newRow (k:=κ) (xs:=ys) (.inl (hr.new _ (wg zr))) f3 f2 f4 aH (hJ zr);exact lp (kO _ _ f1) (da _ _ _ (ij.put (d:=some d) (by simpa[hZ]using J) gA))
       by_cases ht:ys=[]
       ·subst ht;exact mn _ w [] (H4 hG ao none 0 0 (cc _) ay ly) (World.ownsRow_nil w _ _ _) (alz w _) (by simp[cV])
       ·rcases cy4 with cy4|⟨lO,oj,hP,rfl,zG,nr⟩
        ·exact absurd cy4 ht
        ·have jf:=rf nr;have tt:∀j u,hP[j]? =some u->w.cell? ((⟨lO,oj,none⟩:Addr).add j)=some u:=fun j u ai=>by rw[o6];exact(u9 zG ai).2
         have nZ:ys.length*e6.bytes<=140737488355328:=by
          have I:e6.bytes<=2048:=by rw[b9];exact v8
          have J:ys.length*e6.bytes<=ys.length*2048:=Nat.mul_le_mul_left _ I;simp only[aR]at aH;omega
         have iS:ys.length<=maxLen:=by simp only[aR]at aH;simp only[maxLen];omega
         obtain⟨v',w',f1,f2,f3,_⟩:=run_append_own (P:=P) w w.heap.size t type el e6 z e6.size e6.bytes hG ao dC rfl rfl q1 (by rw[bB];exact hp) (.slice none 0 0) 0 [] (World.ownsRow_nil w _ _ _)
          ⟨lO,oj,none⟩ ys.length ly hP (by rw[jf,bB]) tt (zQ nr) (by simpa using iS) (by simpa using nZ) (cc _)
         exact mn v' w' hP f1 (by rw[<-bB];simpa using f2) (by simpa[ov]using f3) nr
      ·cases he
     ·cases he
    ·cases he
   ·cases bA
  ·cases aP
 ·rename_i d key sz el xs t len parts;simp only[bJ,eA,fs]at aq;obtain⟨⟨⟨⟨⟨⟨I,J⟩,au⟩,aP⟩,bA⟩,cy⟩,eu⟩:=aq;subst I;subst bA;split at au
  ·rename_i fj aK;simp only[eA]at au;subst au;split at aP
   ·rename_i g aS;simp only[bJ,eA,fs]at aP;obtain⟨rfl,hp⟩:=aP;simp only[eR]at he;cases he;obtain⟨us,g1,g2,g3⟩:=WQ aE hr aK rfl aS eu aH cy;have ld:(w.alloc (.cells us el)).ownsRow w.heap.size el g.size (.slice (some ⟨w.heap.size,0,none⟩) xs.length xs.length) (xs.map (bP st.t)).length us.toList:=by
     refine⟨by simp[g3],.inr ⟨w.heap.size,xs.length,us,Ψ,cc _,heap_alloc_new w _,Ψ,?_,g3,?_⟩⟩
     ·simp only[maxLen];have:xs.length<=xs.length*g.size:=Nat.le_mul_of_pos_right _ hp;omega
     ·rw[vB];simp[g3]
    obtain⟨eZ,ey⟩:=hr.newRowM (k:=κ) (xs:=xs.map (bP st.t)) (.inl (hr.new _ (wg rfl))) (World.grownBy_alloc w _ none) ld g2
     (by have:xs.length<=xs.length*g.size:=Nat.le_mul_of_pos_right _ hp;simp only[aR,nh];omega) (hJ rfl)
    simp only[nh]at eZ ey;refine lp (v:= .slice (some ⟨w.heap.size,0,none⟩) xs.length xs.length) (w':=w.alloc (.cells us el)) ?_ (da _ _ _ (eZ.put (d:=some d) (by simpa[hZ]using J) (p:= .row g.size κ xs.length) (ey ⟨_,_,rfl⟩)));have aV:(parts.map fun(x:Nat×iX)=>(x.1,a.eval x.2))=(parts.toList.map fun(x:Nat×iX)=>(x.1,a.eval x.2)).toArray:=by apply Array.ext';simp
    simp only[execOp];refine E9 ?_;rw[<-g1];congr 2
   ·cases aP
  ·cases au
 ·rename_i d key sz el x y o' h5 t t';simp only[bJ,eA,fs]at aq;obtain⟨⟨⟨⟨⟨⟨I,J⟩,au⟩,aP⟩,bA⟩,cy⟩,eu⟩:=aq;subst I;subst au;split at aP
  ·rename_i fj aK;simp only[eA]at aP;subst aP;split at bA
   ·rename_i g aS;simp only[bJ,eA,fs]at bA;obtain⟨⟨rfl,hp⟩,v8⟩:=bA;have rx:=eD hr cy;have j0:=eD hr eu;have kO:∀v' w',(uo #[t,t] type #[a.eval o',a.eval h5]).run P w= .ok v' w'->(execOp a.eval ⟨some d,.call ⟨.builtin .append,⟨[o',h5]⟩,⟨[t,t]⟩⟩,type,pos,after,guard⟩).run P w= .ok (.value v') w':=by intro v' w' hq;simp only[execOp,resolve,invoke,builtin,fu,gq,fw,List.map_toArray,fF,List.map_nil];rw[hq];rfl
    obtain⟨e6,kL,z,ao,aL,bB,b9,ee,dC,nu,pd⟩:=(vu aE aS).ex;obtain⟨ds,hG,fC⟩:=h7 aE aK;obtain rfl:=rP fC;have q1:z.cells.size=e6.size:=by rw[pd,bB]
    simp only[eR]at he;split at he
    ·
     rename_i ys aN;cases he;unfold nn at aN;split at aN
     ·rename_i dL xs iz hC alq af bG;split at aN
      ·rename_i ff;obtain⟨rfl,ff⟩:=ff;subst ff;cases aN;rw[af]at rx;rw[bG]at j0;simp only[aJ]at rx j0;obtain⟨⟨ax,rO,rr,cx1,⟨QA,QB⟩,cx4⟩,rxn,rxo,rxt⟩:=rx;obtain⟨⟨ay,ly,sw,cy1,⟨QC,QD⟩,cy4⟩,_⟩:=j0;have GJ:=rxn trivial;have zr:(ej.appm d key g.size el x y).makes st=true:=by simp only[ej.makes,af]
       rw[sw,GJ]at kO;have mn:∀(v':Value) (w':World) (hP:List Value),(uo #[t,t] type #[.slice none 0 0,.slice ay ys.length ly]).run P w= .ok v' w'->w'.ownsRow w.heap.size el g.size v' ys.length hP->w.grownBy w' none->cV w ν g.size ys hP->
         (⟨some d,.call ⟨.builtin .append,⟨[o',h5]⟩,⟨[t,t]⟩⟩,type,pos,after,guard⟩:Oper).wp P a w K Q:=by
        intro v' w' hP f1 f2 f3 f4;obtain⟨ij,gA⟩:=hr.newRowM (k:=κ) (xs:=ys) (.inl (hr.new _ (wg zr))) f3 f2 f4 aH.1 (hJ zr);exact lp (kO _ _ f1) (da _ _ _ (ij.put (d:=some d) (by simpa[hZ]using J) (gA (HC f2 (by cases ys<;>simp at aH⊢)))))
       by_cases ht:ys=[]
       ·subst ht;exact mn _ w [] (H4 hG ao none 0 0 (cc _) ay ly) (World.ownsRow_nil w _ _ _) (alz w _) (by simp[cV])
       ·rcases cy4 with cy4|⟨lO,oj,hP,rfl,zG,nr⟩
        ·exact absurd cy4 ht
        ·have jf:=rf nr;have tt:∀j u,hP[j]? =some u->w.cell? ((⟨lO,oj,none⟩:Addr).add j)=some u:=fun j u ai=>by rw[o6];exact(u9 zG ai).2
         have nZ:ys.length*e6.bytes<=140737488355328:=by
          have I:e6.bytes<=2048:=by rw[b9];exact v8
          have J:ys.length*e6.bytes<=ys.length*2048:=Nat.mul_le_mul_left _ I;simp only[aR]at aH;omega
         have iS:ys.length<=maxLen:=by simp only[aR]at aH;simp only[maxLen];omega
         obtain⟨v',w',f1,f2,f3,_⟩:=run_append_own (P:=P) w w.heap.size t type el e6 z e6.size e6.bytes hG ao dC rfl rfl q1 (by rw[bB];exact hp) (.slice none 0 0) 0 [] (World.ownsRow_nil w _ _ _)
          ⟨lO,oj,none⟩ ys.length ly hP (by rw[jf,bB]) tt (zQ nr) (by simpa using iS) (by simpa using nZ) (cc _)
         exact mn v' w' hP f1 (by rw[<-bB];simpa using f2) (by simpa[ov]using f3) nr
      ·cases aN
     ·split at aN
      ·split at aN
       ·split at aN<;>cases aN
       ·cases aN
      ·cases aN
     ·cases aN
    ·
     rename_i k xs ys aN;cases he;unfold nn at aN;split at aN
     ·split at aN<;>cases aN
     ·rename_i dL bn n iz hC alq af bG;split at aN
      ·rename_i ff;obtain⟨rfl,ff⟩:=ff;subst ff;split at aN
       ·rename_i n' fj vq xs' ab;split at aN
        ·rename_i iR;obtain⟨rfl,rfl,rfl⟩:=iR;cases aN;rw[af]at rx;rw[bG]at j0;simp only[aJ]at rx j0;obtain⟨⟨bx,rO,rr⟩,rxl,n0,l9,eZ,ey,jg⟩:=rx;obtain⟨⟨ay,ly,sw,cy1,⟨QC,QD⟩,cy4⟩,_⟩:=j0;obtain⟨v0,fq,b0,cS,dT,dY⟩:=hr.good.own k _ ab;rw[eZ]at b0;simp only[ei,gY]at b0 cS;obtain⟨rfl,rfl⟩:=b0;have nC:a.eval o'=l9:=jg rfl;obtain⟨di,mC,tY⟩:=dY xs rfl;simp only at di mC;have u3:fq.length=xs.length*g.size:=by rw[di];exact cS.1
         have lf:xs.length=n0:=di;by_cases ht:ys=[]
         ·subst ht;rw[sw,rr]at kO;have ny:n0<=rO:=by
           rcases cS.2 with⟨kD,wR⟩|⟨bl,cap,cur,kD,wR,wS,Ex,_⟩
           ·rw[wR];exact pT _
           ·rw[<-nC,rr]at kD;injection kD with _ _ e;rw[e];exact Ex
          have hq:=H4 (P:=P) (w:=w) (ty:=type) hG ao (some ⟨bx,0,none⟩) n0 rO ny ay ly;refine lp (kO _ _ (by simpa using hq)) (da _ _ ν ?_);have hS:∀et,look et (dj k ⟨n0,fj,g.size,some xs⟩ st.e)=look et st.e:=fun et=>by
           rw[jK];split
           ·rename_i e;subst e;rw[ab]
           ·rfl
          have kc:cm C {st with e:=dj k ⟨n0,fj,g.size,some xs⟩ st.e} a w ν:=
           ⟨⟨hr.good.alt,hr.good.box,hr.good.inj,fun g o aS=>hr.good.own g o (by rw[<-hS g];exact aS),fun g et n n' v v' bl bH a2=>hr.good.oinj g et n n' v v' bl (by rw[<-hS g];exact bH) (by rw[<-hS et];exact a2),
           fun g j n v bl bH=>hr.good.obx g j n v bl (by rw[<-hS g];exact bH),hr.good.one,fun bl ah=>hr.good.otr bl (ah.imp id (fun⟨g,n,v,bH,a2⟩=>⟨g,n,v,by rw[<-hS g];exact bH,a2⟩))⟩,hr.fr,hr.defers,hr.size,hr.slot,hr.new,hr.ext,hr.obk⟩
          have au:=kc.put (d:=some d) (by simpa[hZ]using J) (p:= .row g.size k n0) (v:= .slice (some ⟨bx,0,none⟩) n0 rO) (by simp only[aJ];exact⟨⟨_,_,rfl⟩,rxl,_,_,eZ,cc _,fun _=>by rw[<-rr];exact nC⟩)
          simpa[lf,fE]using au
         ·have hyp:0<ys.length:=by cases ys<;>simp at ht⊢
          rcases cy4 with cy4|⟨lO,oj,hP,rfl,zG,nr⟩
          ·exact absurd cy4 ht
          ·have jf:=rf nr;have tt:∀j u,hP[j]? =some u->w.cell? ((⟨lO,oj,none⟩:Addr).add j)=some u:=fun j u ai=>by rw[o6];exact(u9 zG ai).2
           have nZ:(xs.length+ys.length)*e6.bytes<=140737488355328:=by
            have ks:e6.bytes<=2048:=by rw[b9];exact v8
            have jc:(xs.length+ys.length)*e6.bytes<=(xs.length+ys.length)*2048:=Nat.mul_le_mul_left _ ks;simp only[aR]at aH;omega
           have iS:xs.length+ys.length<=maxLen:=by simp only[aR]at aH;simp only[maxLen];omega
           have wb:cV w ν g.size (xs++ys) (fq++hP):=BW mC nr;rw[sw,nC]at kO;have zm:(∃v' w',(uo #[t,t] type #[l9,.slice (some ⟨lO,oj,none⟩) ys.length ly]).run P w= .ok v' w'/\w'.ownsRow w.heap.size fj e6.size v' (xs.length+ys.length) (fq++hP)/\w.grownBy w' none)->
             (⟨some d,.call ⟨.builtin .append,⟨[o',h5]⟩,⟨[t,t]⟩⟩,type,pos,after,guard⟩:Oper).wp P a w K Q:=by
            intro bR;obtain⟨v',w',f1,f2,f3⟩:=bR;obtain⟨ij,gA⟩:=hr.newRowM (k:=k) (xs:=xs++ys) (el:=fj) (sz:=g.size) (.inr ⟨_,ab,by simp;omega⟩) f3 (by rw[<-bB];simpa using f2) wb (by simpa using aH) (n':=st.n) (o':=st.o)
             (fun j ai=>⟨ai,fun e=>by subst e;have:=(hr.new _ ai).2.1;rw[eZ]at this;cases this⟩)
            refine lp (kO _ _ f1) (da _ _ (ν.withOwn k (xs++ys).length v') ?_);have:=ij.put (d:=some d) (by simpa[hZ]using J) (gA (by simpa using HC f2 Ω));simpa[fE]using this
           rcases cS.2 with⟨kD,wR⟩|⟨bl,cap,cur,kD,wR,wS,Ex,Ez,HG,BP⟩
           ·
            have rZ:xs=[]:=sI Ω;have tF:fq=[]:=sI (by rw[u3,rZ];simp);subst rZ;subst tF;refine zm ?_;obtain⟨v',w',f1,f2,f3,_⟩:=run_append_own (P:=P) w w.heap.size t type fj e6 z e6.size e6.bytes hG ao dC rfl rfl q1 (by rw[bB];exact hp) (.slice none 0 0) 0 [] (World.ownsRow_nil w _ _ _)
             ⟨lO,oj,none⟩ ys.length ly hP (by rw[jf,bB]) tt (zQ nr) (by simpa using iS) (by simpa using nZ) (cc _)
            exact⟨v',w',by rw[kD];exact f1,by simpa using f2,by simpa[ov]using f3⟩
           ·have hT:l9.ownBlock=some bl:=by rw[kD];rfl
            by_cases oN:xs.length+ys.length<=cap
            ·have hmul:(xs.length+ys.length)*g.size<=cap*g.size:=Nat.mul_le_mul_right _ oN;rw[Nat.add_mul]at hmul;have f1:=run_append_room (P:=P) w t type fj e6 hG ao bl xs.length cap cur wS ⟨lO,oj,none⟩ ys.length ly hP (by rw[jf,bB]) tt (zQ nr) oN (by rw[jf,bB];omega);generalize DZ:(cur.toList.take (xs.length*e6.size)++hP++cur.toList.drop (xs.length*e6.size+hP.length)).toArray=l3 at f1;have k9:(w.setRow bl l3).heap[bl]? =some (.cells l3 fj (0,0)):=setRow_heap w bl cur l3 fj _ wS;have aD:(fq++hP).length=(xs++ys).length*g.size:=by rw[gx,u3,jf,gx,Nat.add_mul]
             have bA:cur.toList.take (xs.length*e6.size)=fq:=by rw[lf,bB];exact BP
             have gn:l3.size=cap*g.size:=by rw[<-DZ];simp only[List.size_toArray,gx,pS,hX,Array.length_toList];rw[bB];omega
             have oO:l3.toList.take ((xs++ys).length*g.size)=fq++hP:=by rw[<-DZ,bA];simp only[<-aD];rw[List.take_append_of_le_length (cc _),hE]
             obtain⟨ij,_,gA⟩:=hr.setRowM (w':=w.setRow bl l3) ab rfl eZ hT (v':= .slice (some ⟨bl,0,none⟩) (xs.length+ys.length) cap) rfl (xs':=xs++ys) (us:=fq++hP) (.inr (by simp;omega)) rfl rfl rfl (fun j ai=>setRow_other w bl j l3 ai) (setRow_size w bl l3)
              ⟨aD,.inr ⟨bl,cap,l3,Ψ,pT _,k9,by simpa using oN,Ez,gn,oO⟩⟩ wb
             replace gA:=gA (by simpa using aH);refine lp (v:= .slice (some ⟨bl,0,none⟩) (xs.length+ys.length) cap) (w':=w.setRow bl l3) (kO _ _ ?_) (da _ _ (ν.withOwn k (xs++ys).length (.slice (some ⟨bl,0,none⟩) (xs.length+ys.length) cap)) ?_)
             ·rw[kD,<-lf];exact f1
             ·have:=ij.put (d:=some d) (by simpa[hZ]using J) gA;simpa[fE]using this
            ·refine zm ?_;obtain⟨v',w',f1,f2,f3⟩:=run_append_arg_grows (P:=P) w t type fj e6 z e6.size e6.bytes hG ao dC rfl rfl q1 (by rw[bB];exact hp) ⟨bl,0,none⟩ xs.length cap fq (by rw[u3,bB])
              (fun j u ai=>by have:=cS.cells hT j u ai;exact this) ⟨lO,oj,none⟩ ys.length ly hP (by rw[jf,bB]) tt Ω iS nZ
             exact⟨v',w',by rw[kD,<-lf];exact f1,f2,f3⟩
        ·cases aN
       ·cases aN
      ·cases aN
     ·cases aN
    ·cases he
   ·cases bA
  ·cases aP
 ·rename_i sz x y t o' h5;simp only[bJ,eA]at aq;obtain⟨⟨⟨I,J⟩,au⟩,aP⟩:=aq;subst I;split at J
  ·rename_i f aK;simp only[eA]at J;simp only[eR]at he;generalize KT:bP st.t x=px at he;unfold sj at he;split at he
   ·rename_i dL k n i zc;split at he
    ·rename_i n' el iz xs ab;split at he
     ·rename_i wo;obtain⟨rfl,rfl⟩:=wo;split at he
      ·rename_i q bp;cases he;obtain⟨c0,cF,c2,c3,c4⟩:=aH;have rx:=eD hr au;rw[KT]at rx;have j0:=eD hr aP;have wU:=wW j0 cF;have ue:=qo wU;obtain⟨_,dz⟩:=w4 aE aK w;have wC:(a.eval h5).cells.size=sz:=by rw[c2]at ue;simpa using ue
       obtain⟨bl,off,nq,DJ,e7,ν',n7⟩:=hr.storeRow (P:=P) ab rx bp c0 wU (by simpa[wC]using c3) (fun e=>by have:=er List.length e;simp[wC]at this;omega);refine Fe (w':=w.setRow bl nq) ?_ (da _ _ _ n7);simp only[execOp,Instr.storeAt,DJ,Instr.sureAddr,storeVar,fu,gq,fw,dz,wC,J,ne_eq,not_true_eq_false,if_false,e7]
      ·cases he
     ·cases he
    ·cases he
   ·cases he
  ·cases J
 ·rename_i d el x y o' h5 t t';exact O2 aE hr (d:=d) (el:=el) (x:=x) (y:=y) (by simpa only[se]using aq) (by simpa only[eR]using he) aH da
 ·rename_i d key sz el z x t o' h5;simp only[bJ,eA,fs]at aq;obtain⟨⟨⟨⟨⟨I,J⟩,au⟩,aP⟩,bA⟩,cy⟩:=aq;subst I;split at au
  ·rename_i fj aK;simp only[eA]at au;subst au;split at aP
   ·rename_i g aS;simp only[bJ,eA,fs]at aP;obtain⟨⟨⟨rfl,hp⟩,v8⟩,cK⟩:=aP;obtain rfl:=Oy cK;have rx:=eD hr bA;have j0:=eD hr cy;simp only[eR]at he;split at he
    ·rename_i hU n af;cases he;obtain⟨zt,jf⟩:=aH;obtain⟨m,rfl⟩:=Int.eq_ofNat_of_zero_le zt;rw[af]at rx j0;simp only[aJ]at rx j0;obtain⟨e6,kL,bh,ao,aL,bB,b9,ee,dC,nu,pd⟩:=(vu aE aS).ex;obtain⟨ds,hG,fC⟩:=h7 aE aK;obtain rfl:=rP fC;have iS:m<=aR:=by simp only[aR]at jf⊢;omega
     have nZ:e6.bytes*m<=281474976710656:=by have I:e6.bytes*m<=2048*m:=Nat.mul_le_mul_right _ Ω;simp only[aR]at iS;omega
     obtain⟨aeZ,SB⟩:=Ox w ν nu;obtain⟨w',g1,g2,g3⟩:=run_make_full (P:=P) w w.heap.size t el e6 bh e6.size hG ao dC rfl hU hU m nZ (by simp only[maxLen];simp only[aR]at iS;omega) (cc _);have ld:w'.ownsRow w.heap.size el g.size (.slice (some ⟨w.heap.size,0,none⟩) m m) (List.replicate m g.zero).length (madeCells bh.cells (m*bh.cells.size)).toList:=by rw[bB,<-pd]at g2;rw[List.length_replicate,<-pd];exact g2
     obtain⟨eZ,ey⟩:=hr.newRowM (k:=κ) (xs:=List.replicate m g.zero) (.inl (hr.new _ (wg rfl))) g3 ld (by rw[<-pd];exact UD aeZ Ω (BZ SB) m) (by simpa using iS) (hJ rfl);simp only[List.length_replicate]at eZ ey;simp only[Int.toNat_natCast]at da;refine lp (v:= .slice (some ⟨w.heap.size,0,none⟩) m m) (w':=w') ?_ (da _ _ _ (eZ.put (d:=some d) (by simpa[hZ]using J) (p:= .row g.size κ m) (ey ⟨_,_,rfl⟩)));simp only[execOp];refine E9 ?_;rw[rx,j0];exact g1
    ·cases he
   ·cases aP
  ·cases au
 ·cases aq
theorem O9{N:Nat}{bk:List (Nat×dh)}{d:Nat}{key:aW Nat}{o:Oper}(h:se N bk (.mkmap d key) o=true):key≠some 861:=by
 rintro rfl;obtain⟨dst,op,type,pos,after,guard⟩:=o;generalize aw:ej.mkmap d (some 861)=i at h;unfold se at h;dsimp only at h;split at h<;>first|(cases aw;done)|(cases h;done)|skip
 cases aw;simp at h
theorem Y4{N:Nat}{bk:List (Nat×dh)}{st:aU}{d:Nat}{key:aW Nat}{x:dm}{o:Oper}(h:se N bk (.range d key x) o=true):jq st key≠ .obj 861:=by
 intro e;obtain rfl:=Hn e;obtain⟨dst,op,type,pos,after,guard⟩:=o;generalize aw:ej.range d (some 861) x=i at h;unfold se at h;dsimp only at h;split at h<;>first|(cases aw;done)|(cases h;done)|skip
 cases aw;simp at h
theorem ajt{P:bS}{bk:List (Nat×dh)}(aE:eW P bk=true){C:eK}{st st':aU}{a:Act}{w:World}{ν:aQ}(hr:cm C st a w ν){i:ej}{o:Oper}(aq:se C.N bk i o=true)
  {c:Prop} (he:mE st i=some (c,st')) (aH:c) {K:Act->World->Prop} {Q:Exit->Act->World->Prop} (da:∀ch w' ν',cm C st' ch w' ν'->K ch w'):o.wp P a w K Q:=by
 have jX:q2 st none->fresh st.n st.o (.loc st.n):=fun h=>yb (key:=none) h;have DD:∀j,fresh (st.n+1) st.o j->fresh st.n st.o j/\j≠ .loc st.n:=yc (key:=none);cases i with
 |v d i=>exact jt (κ:= .loc 0) (n':=0) (o₁:=[]) aE hr aq (fun h=>by simp[ej.makes]at h) (fun h=>by simp[ej.makes]at h) (by simpa only[mE,eR]using he) aH da
 |box d key x=>simp only[mE]at he;cases he;exact jt (κ:=jq st key) (n':=oe st key) (o₁:=og st key) aE hr aq (fun _=>yb aH.1) (fun _=>yc) (by simp only[eR]) aH.2 da (hB:=Hn)
 |alloc d key z=>simp only[mE]at he;cases he;exact jt (κ:=jq st key) (n':=oe st key) (o₁:=og st key) aE hr aq (fun _=>yb aH) (fun _=>yc) (by simp only[eR]) trivial da (hB:=Hn)
 |mks d key sz el z x=>
  simp only[mE]at he;split at he
  ·rename_i hU n af;cases he;exact jt (κ:=jq st key) (n':=oe st key) (o₁:=og st key) aE hr aq (fun _=>yb aH.1) (fun _=>yc) (by simp only[eR,af]) aH.2 da
  ·cases he
 |apps d el x y=>exact O2 aE hr aq (by simpa only[mE]using he) aH da
 |storeE sz x y=>exact jt (κ:= .loc 0) (n':=0) (o₁:=[]) aE hr aq (fun h=>by simp[ej.makes]at h) (fun h=>by simp[ej.makes]at h) (by simpa only[mE,eR]using he) aH da
 |store sz x y=>exact jt (κ:= .loc 0) (n':=0) (o₁:=[]) aE hr aq (fun h=>by simp[ej.makes]at h) (fun h=>by simp[ej.makes]at h) (by simpa only[mE,eR]using he) aH da
 |bsl d sz el xs=>simp only[mE]at he;cases he;exact jt (κ:= .loc st.n) (n':=st.n+1) (o₁:=st.o) aE hr aq (fun _=>jX aH.1) (fun _=>DD) (by simp only[eR]) aH.2 da
 |bslm d key sz el xs=>simp only[mE]at he;cases he;exact jt (κ:=jq st key) (n':=oe st key) (o₁:=og st key) aE hr aq (fun _=>yb aH.1) (fun _=>yc) (by simp only[eR]) aH.2 da
 |appm d key sz el x y=>
  simp only[mE]at he;split at he
  ·rename_i ys aN;cases he;exact jt (κ:=jq st key) (n':=oe st key) (o₁:=og st key) aE hr aq (fun _=>yb aH.1) (fun _=>yc) (by simp only[eR,aN]) aH.2 da
  ·rename_i k xs ys aN;cases he;refine jt (κ:= .loc 0) (n':=0) (o₁:=[]) aE hr aq (fun h=>?_) (fun h=>?_) (by simp only[eR,aN]) aH da;all_goals
    exfalso
    simp only[ej.makes]at h
    split at h
    ·rename_i af
     unfold nn at aN
     rw[af]at aN
     split at aN
     ·split at aN<;>cases aN
     ·rename_i I _;cases I
     ·cases aN
    ·cases h
  ·cases he
 |mkmap d key=>simp only[mE]at he;cases he;exact jt (κ:=jq st key) (n':=oe st key) (o₁:=og st key) aE hr aq (fun _=>yb aH) (fun _=>yc) (by simp only[eR]) trivial da (hB:=fun e=>O9 aq (Hn e))
 |mput cg x k v=>exact jt (κ:= .loc 0) (n':=0) (o₁:=[]) aE hr aq (fun h=>by simp[ej.makes]at h) (fun h=>by simp[ej.makes]at h) (by simpa only[mE,eR]using he) aH da
 |range d key x=>
  simp only[mE]at he;split at he
  ·rename_i m af;split at he
   ·rename_i cs dc;split at he
    ·rename_i cs' hm;cases he;exact jt (κ:=jq st key) (n':=oe st key) (o₁:=og st key) aE hr aq (fun _=>yb aH) (fun _=>yc) (by simp only[eR,af,dc,hm]) trivial da (hB:=Y4 aq)
    ·cases he
   ·cases he
  ·cases he
 |app d sz el x y=>
  simp only[mE]at he;split at he
  ·rename_i dL tag xs iz hC ys af bG;split at he
   ·rename_i ff;split at he
    ·rename_i k;split at he
     ·rename_i ow ab;cases he;refine jt (κ:= .loc 0) (n':=0) (o₁:=[]) aE hr aq (fun h=>by simp[ej.makes,af]at h) (fun h=>by simp[ej.makes,af]at h) ?_ aH da;simp only[eR,af,bG,ff,and_self,if_true,ab]
     ·cases he
    ·cases he;refine jt (κ:= .loc st.n) (n':=st.n+1) (o₁:=st.o) aE hr aq (fun _=>jX aH.1) (fun _=>DD) ?_ aH.2 da;simp only[eR,af,bG,ff,and_self,if_true]
    ·cases he
   ·cases he
  ·cases he
structure dJ where
 b:List (aC×List ae)
 e:List (aC×dn)
def fY(ν:aQ)(s:dJ)(bl:Nat):Prop:=(∃k,(look k s.b).isSome/\ν.bx k=some bl)\/(∃g n v,(look g s.e).isSome/\ν.ow g=some (n,v)/\v.ownBlock=some bl)
def qR(ν:aQ)(s:dJ):Prop:= ∀k,(look k s.b=none->ν.bx k=none)/\(look k s.e=none->ν.ow k=none)/\∀j b,¬ν.tr k j b
def ev(s:dJ):List aC:=s.b.map (·.1)++s.e.map (·.1)
def hV(s:dJ):Prop:=(∀m,look (.loc m) s.b=none)/\(∀m,look (.loc m) s.e=none)
def xd(P:bS)(f:FuncId)(vs:Array Value)(w:World)(R:Ending->World->Prop):Prop:=((∃fn,P.funcs[f]? =some fn/\fn.body.isSome=true/\(fn.name== "runtime.NumGoroutine")=false)/\Calls P f vs w R)\/ ∃v w',(callFunc f vs).run P w= .ok (.value v) w'/\R (.returned v) w'
def b3(P:bS)(f:FuncId)(args:List ae)(s:dJ)(Q:ae->dJ->Prop):Prop:=
 ∀(w:World) (ν:aQ) (vs:Array Value) (gl:oZ w ν),Good (fY ν s) w ν s.b s.e->qR ν s->cz w ν args vs.toList->
  xd P f vs w fun e w'=> ∃v r al ν',e= .returned v/\Q r al/\aJ w' ν' r v/\Good (fun bl=>fY ν s bl\/w.heap.size<=bl) w' ν' al.b al.e/\qR ν' al/\hV al/\ox ⟨w,ν,fY ν s,0,ev s,gl,[]⟩ w' ν'
def AP(κ:aW Nat)(ν:aQ)(s:dJ):Prop:= ∀k,(look k s.b=none->ν.bx k=none)/\(look k s.e=none->ν.ow k=none)/\∀j b,ν.tr k j b->∃m,κ=some m/\k= .loc m
theorem qR.k{ν:aQ}{s:dJ}(h:qR ν s):AP none ν s:=fun k=>⟨(h k).1,(h k).2.1,fun j b ah=>absurd ah ((h k).2.2 j b)⟩
def FnK(P:bS)(f:FuncId)(κ:Nat)(args:List ae)(s:dJ)(Q:ae->dJ->Prop):Prop:=
 ∀(w:World) (ν:aQ) (vs:Array Value) (gl:oZ w ν),Good (fY ν s) w ν s.b s.e->qR ν s->cz w ν args vs.toList->
  xd P f vs w fun e w'=> ∃v r al ν',e= .returned v/\Q r al/\aJ w' ν' r v/\Good (fun bl=>fY ν s bl\/w.heap.size<=bl) w' ν' al.b al.e/\AP (some κ) ν' al/\hV al/\ox ⟨w,ν,fY ν s,0,ev s,gl,[]⟩ w' ν'
def bW(P:bS)(f:FuncId)(args:List ae)(r:ae):Prop:=b3 P f args ⟨[],[]⟩ fun cZ al=>cZ=r/\al=⟨[],[]⟩
theorem x7{α:Type}{k:aC}{x:α}:∀{l:List (aC×α)},look k l=some x->(k,x)∈l
 |[],h=>by simp[look]at h
 |(i,y)::r,h=>by
  simp only[look]at h;split at h
  ·rename_i e;subst e;cases h;simp
  ·exact List.mem_cons_of_mem _ (x7 h)
theorem wO{s:dJ}{k:aC}(h:(look k s.b).isSome\/(look k s.e).isSome):k∈ev s:=by
 unfold ev;rcases h with h|h<;>obtain⟨x,af⟩:=fv.1 h<;>have:=x7 af
 ·exact ni _ (nj.2 ⟨_,this,rfl⟩)
 ·exact k2 _ (nj.2 ⟨_,this,rfl⟩)
section
open Classical
noncomputable def aQ.cut(ν:aQ)(S:aC->Prop):aQ:={A:=ν.A,bx:=fun k=>if S k then ν.bx k else none,ow:=fun k=>if S k then ν.ow k else none,tr:=fun k j b=>S k/\ν.tr k j b}
theorem aQ.cut_bx{ν:aQ}{S:aC->Prop}{k:aC}(h:S k):(ν.cut S).bx k=ν.bx k:=by simp[aQ.cut,h]
theorem aQ.cut_ow{ν:aQ}{S:aC->Prop}{k:aC}(h:S k):(ν.cut S).ow k=ν.ow k:=by simp[aQ.cut,h]
theorem aQ.cut_no{ν:aQ}{S:aC->Prop}{k:aC}(h:¬S k):(ν.cut S).bx k=none/\(ν.cut S).ow k=none/\∀j b,¬(ν.cut S).tr k j b:=by simp[aQ.cut,h]
theorem aQ.cut_some{ν:aQ}{S:aC->Prop}{k:aC}{b:Nat}(h:(ν.cut S).bx k=some b):S k/\ν.bx k=some b:=by
 by_cases az:S k
 ·exact⟨az,by rw[aQ.cut_bx az]at h;exact h⟩
 ·rw[(aQ.cut_no az).1]at h;cases h
theorem aQ.cut_someO{ν:aQ}{S:aC->Prop}{k:aC}{b:Nat×Value}(h:(ν.cut S).ow k=some b):S k/\ν.ow k=some b:=by
 by_cases az:S k
 ·exact⟨az,by rw[aQ.cut_ow az]at h;exact h⟩
 ·rw[(aQ.cut_no az).2.1]at h;cases h
theorem oZ.cut{w:World}{ν:aQ}(h:oZ w ν)(S:aC->Prop):oZ w (ν.cut S):=h
theorem nR.cut(S:aC->Prop)(w:World)(ν:aQ):nR S w ν w (ν.cut S):=⟨fun _ _ h=>⟨h,rfl⟩,fun k b ab h=>by rw[aQ.cut_bx ab];exact h,fun g n u aS h=>⟨n,u,by rw[aQ.cut_ow aS];exact h,.inl ⟨rfl,rfl⟩⟩,fun _ _ _=>rfl,fun _ _ _ ab h=>⟨ab,h⟩⟩
end
def qs(S:aC->Prop)(gV b:List (aC×List ae)):Prop:= ∀k cs,look k gV=some cs->look k b=some cs/\S k/\kinL S cs
def rj(S:aC->Prop)(hg e:List (aC×dn)):Prop:= ∀k o,look k hg=some o->look k e=some o/\S k/\cw S o
theorem Good.cut{pr VE:Nat->Prop}{w:World}{ν:aQ}{b gV:List (aC×List ae)}{e hg:List (aC×dn)}(h:Good pr w ν b e){S:aC->Prop}(ah:qs S gV b)(he:rj S hg e)
  (oM:∀bl,pr bl->(∃k,(look k gV).isSome/\(ν.cut S).bx k=some bl)\/(∃g n v,(look g hg).isSome/\(ν.cut S).ow g=some (n,v)/\v.ownBlock=some bl)->VE bl):Good VE w (ν.cut S) gV hg:=by
 have v7:∀k,(look k gV).isSome->(look k b).isSome/\S k:=fun k ab=>by obtain⟨cs,dc⟩:=fv.1 ab;have:=ah k cs dc;exact⟨by simp[this.1],this.2.1⟩
 have Gq:∀k,(look k hg).isSome->(look k e).isSome/\S k:=fun k ab=>by obtain⟨cs,dc⟩:=fv.1 ab;have:=he k cs dc;exact⟨by simp[this.1],this.2.1⟩
 refine⟨h.alt,fun k cs ab=>?_,fun k bn bl I J au aP=>?_,fun g o aS=>?_,fun g et n n' v v' bl I J au aP bA cy=>?_,fun g k n v bl I J au aP bA=>?_,fun k=>?_,fun bl aE k j ai=>?_⟩
 ·obtain⟨g1,g2,g3⟩:=ah k cs ab;obtain⟨bl,us,el,f1,f2,f3,f4,f5⟩:=h.box k cs g1;have jE:(ν.cut S).bx k=some bl:=by rw[aQ.cut_bx g2];exact f1
  exact⟨bl,us,el,jE,oM bl f2 (.inl ⟨k,by simp[ab],jE⟩),f3,f4,M8 (nR.cut S w ν) g3 f5⟩
 ·obtain⟨bH,a2⟩:=v7 k I;obtain⟨cq,cE⟩:=v7 bn J;exact h.inj k bn bl bH cq (aQ.cut_some au).2 (aQ.cut_some aP).2
 ·obtain⟨g1,g2,g3⟩:=he g o aS;obtain⟨v,us,f1,f2,f3,f4⟩:=h.own g o g1;have oL:(ν.cut S).ow g=some (o.n,v):=by rw[aQ.cut_ow g2];exact f1
  exact⟨v,us,oL,f2,fun bl fc=>⟨oM bl (f3 bl fc).1 (.inr ⟨g,o.n,v,by simp[aS],oL,fc⟩),(f3 bl fc).2⟩,
   fun xs af=>⟨(f4 xs af).1,HT (nR.cut S w ν) _ _ _ (g3 xs af) (f4 xs af).2.1,(f4 xs af).2.2⟩⟩
 ·obtain⟨bH,a2⟩:=Gq g I;obtain⟨cq,cE⟩:=Gq et J;exact h.oinj g et n n' v v' bl bH cq (aQ.cut_someO au).2 (aQ.cut_someO aP).2 bA cy
 ·obtain⟨bH,a2⟩:=Gq g I;obtain⟨cq,cE⟩:=v7 k J;exact h.obx g k n v bl bH cq (aQ.cut_someO au).2 aP (aQ.cut_some bA).2
 ·by_cases az:S k
  ·rw[aQ.cut_bx az,aQ.cut_ow az];exact h.one k
  ·exact .inl (aQ.cut_no az).1
 ·refine h.otr bl ?_ k j ai.2;rcases aE with⟨bn,bH,a2⟩|⟨g,n,v,bH,a2,a3⟩
  ·exact .inl ⟨bn,(v7 bn bH).1,(aQ.cut_some a2).2⟩
  ·exact .inr ⟨g,n,v,(Gq g bH).1,(aQ.cut_someO a2).2,a3⟩
structure il (ob:List aC) (st st':aU):Prop where
 t:∀x∈st'.t,get x.1 st.t=x.2/\kin (fun k=> ¬fresh st'.n st'.o k) x.2
 b:qs (fun k=> ¬fresh st'.n st'.o k) st'.b st.b
 e:rj (fun k=> ¬fresh st'.n st'.o k) st'.e st.e
 o:∀m∈ob,m∈st'.o
theorem Ka:∀(i:Nat) (l:List (Nat×ae)),get i l= .junk\/(i,get i l)∈l
 |_,[]=>.inl rfl
 |i,(j,p)::r=>by
  by_cases h:j=i
  ·subst h;right;simp[get]
  ·rcases Ka i r with I|I
   ·left;simp[get,h,I]
   ·right;simp[get,h];right;exact I
theorem cm.weaker{C:eK}{st st':aU}{a:Act}{w:World}{ν:aQ}(h:cm C st a w ν)(hw:il C.ob st st'):cm C st' a w (ν.cut fun k=> ¬fresh st'.n st'.o k):=by
 refine⟨h.good.cut hw.b hw.e (fun bl aV _=>aV),⟨h.fr.os,h.fr.tape,h.fr.output,h.fr.size,h.fr.block,h.fr.keep,h.fr.fresh,fun n b ah=>?_,h.fr.obn,fun m n u hm=>?_,h.fr.obr,fun k j bn eQ b I J=>h.fr.trd k j bn eQ b I.2 J.2,fun k j b ah=>h.fr.trb k j b ah.2,fun k j b ah=>?_,h.fr.sh,fun j n u b ao aL=>h.fr.nrow j n u b (aQ.cut_someO ao).2 aL⟩,h.defers,h.size,fun i=>?_,fun k ab=>aQ.cut_no (fun aM=>aM ab),fun x af=>⟨sb (nR.cut _ w ν) _ _ (oQ (fun k ab aK=>aK.2 (hw.o k ab)) _ (h.ext x af).2) (h.ext x af).1,(h.ext x af).2⟩,fun m hm aK=>aK.2 (hw.o m hm)⟩
 ·rw[aQ.cut_bx (fun bR=>bR.2 (hw.o _ (h.fr.obn n b ah)))];exact h.fr.obj n b ah
 ·rw[aQ.cut_ow (fun bR=>bR.2 (hw.o _ (h.fr.obr m n u hm)))];exact h.fr.row m n u hm
 ·rw[aQ.cut_bx ah.1,aQ.cut_ow ah.1];exact h.fr.trn k j b ah.2
 ·rcases Ka i st'.t with ai|hm
  ·rw[ai];simp[aJ]
  ·obtain⟨I,J⟩:=hw.t _ hm;simp only at I;have:=h.slot i;rw[I]at this;exact sb (nR.cut _ w ν) _ _ J this
mutual
def bD:ae->ae
 | .slice sz _ xs=>.slice sz .no (bC xs)
 | .agg cs=>.agg (bC cs)
 | .tuple vs=>.tuple (bC vs)
 | .eptr x=>.eptr (bD x)
 | .iface t x=>.iface t (bD x)
 | .func f dP=>.func f (bC dP)
 |p=>p
def bC:List ae->List ae
 |[]=>[]
 |x::xs=>bD x::bC xs
end
theorem nc:∀xs,(bC xs).length=xs.length
 |[]=>rfl
 |x::xs=>by simp[bC,nc xs]
mutual
theorem Gc{t:Bool}{w:World}{A:Nat->Nat->Prop}:∀(p:ae) (F:Nat->Prop) (v:Value),cB t w A F p v->cB t w A F (bD p) v
 | .int _ _,_,_,h=>by simpa only[bD]using h
 | .bool _,_,_,h=>by simpa only[bD]using h
 | .str _,_,_,h=>by simpa only[bD]using h
 | .slice sz tag xs,F,v,h=>by
  simp only[cB,bD]at h⊢;obtain⟨a,cap,I,J,au,aP⟩:=h;refine⟨a,cap,by rw[nc];exact I,by rw[nc];exact J,by rw[nc];exact au,?_⟩;rcases aP with rfl|⟨b,off,us,G,ao,aL,bB,b9,ee,dC⟩
  ·exact .inl rfl
  ·exact .inr ⟨b,off,us,G,ao,aL,bB,b9,ee,RP sz xs G us dC⟩
 | .agg cs,F,v,h=>by simp only[cB,bD]at h⊢;obtain⟨us,I,J⟩:=h;exact⟨us,I,RQ cs F _ J⟩
 | .junk,_,_,h=>by simp[cB]at h
 | .ptr _ _,_,_,h=>by simp[cB]at h
 | .eptr _,_,_,h=>by simp[cB]at h
 | .iface _ _,_,_,h=>by simp[cB]at h
 | .nilp,_,_,h=>by simp[cB]at h
 | .tuple _,_,_,h=>by simp[cB]at h
 | .func _ _,_,_,h=>by simp[cB]at h
 | .gmap _,_,_,h=>by simp[cB]at h
 | .row _ _ _,_,_,h=>by simp[cB]at h
 | .rptr _ _ _ _ _,_,_,h=>by simp[cB]at h
 | .hdm _ _,_,_,h=>by simp[cB]at h
 | .hdi _ _ _,_,_,h=>by simp[cB]at h
 | .cst _,_,_,h=>by simp[cB]at h
theorem RQ{t:Bool}{w:World}{A:Nat->Nat->Prop}:∀(cs:List ae) (F:Nat->Prop) (us:List Value),kr t w A F cs us->kr t w A F (bC cs) us
 |[],_,_,h=>by simpa only[bC]using h
 |c::cs,F,us,h=>by simp only[kr,bC]at h⊢;obtain⟨u,bE,gJ,gK,I,J,⟨bA,cy⟩,eu⟩:=h;exact⟨u,bE,gJ,gK,I,J,⟨Gc c gJ u bA,cy⟩,RQ cs gK bE eu⟩
theorem RP{t:Bool}{w:World}{A:Nat->Nat->Prop}(sz:Nat):∀(cs:List ae) (F:Nat->Prop) (us:List Value),jD t w A F sz cs us->jD t w A F sz (bC cs) us
 |[],_,_,h=>by simpa only[bC]using h
 |c::cs,F,us,h=>by simp only[jD,bC]at h⊢;obtain⟨u,bE,gJ,gK,I,J,⟨bA,cy⟩,eu⟩:=h;exact⟨u,bE,gJ,gK,I,J,⟨Gc c gJ u bA,cy⟩,RP sz cs gK bE eu⟩
end
theorem C6{t:Bool}{w:World}{A:Nat->Nat->Prop}{F:Nat->Prop}{sz:Nat}{tag:iY}(hC:iY){xs:List ae}(v:Value)(h:cB t w A F (.slice sz tag xs) v):cB t w A F (.slice sz hC (bC xs)) v:=by have:=Gc _ F v h;simp only[bD,cB]at this⊢;exact this
mutual
theorem yn{w:World}{ν:aQ}:∀(p:ae) (v:Value),aJ w ν p v->aJ w ν (bD p) v
 | .junk,_,h=>by simpa only[bD]using h
 | .int k n,_,h=>by simpa only[bD]using h
 | .bool b,_,h=>by simpa only[bD]using h
 | .str s,_,h=>by simpa only[bD]using h
 | .slice sz tag xs,v,h=>by
  simp only[aJ,bD]at h⊢;obtain⟨⟨a,cap,I,J,au,aP⟩,bA,cy⟩:=h;refine⟨⟨a,cap,by rw[nc];exact I,by rw[nc];exact J,by rw[nc];exact au,?_⟩,fun e=>(by cases e),fun g e=>(by cases e),fun _ _ e=>(by cases e),fun _ e=>(by cases e)⟩;rcases aP with rfl|⟨b,off,us,aP,cy,eu⟩
  ·exact .inl rfl
  ·exact .inr ⟨b,off,us,aP,cy,Wx sz xs us eu⟩
 | .agg cs,v,h=>by simp only[aJ,bD]at h⊢;obtain⟨us,I,J⟩:=h;exact⟨us,I,WB cs _ J⟩
 | .ptr key off,v,h=>by simpa only[bD]using h
 | .iface t x,v,h=>by simp only[aJ,bD]at h⊢;obtain⟨u,I,J⟩:=h;exact⟨u,I,yn x u J⟩
 | .eptr x,v,h=>by simp only[aJ,bD]at h⊢;obtain⟨b,off,u,I,J,au⟩:=h;exact⟨b,off,u,I,yn x u J,au⟩
 | .nilp,_,h=>by simpa only[bD]using h
 | .tuple vs,v,h=>by simp only[aJ,bD]at h⊢;obtain⟨us,I,J⟩:=h;exact⟨us,I,HX vs _ J⟩
 | .func f dP,v,h=>by simp only[aJ,bD]at h⊢;obtain⟨us,I,J⟩:=h;exact⟨us,I,HX dP _ J⟩
 | .gmap key,v,h=>by simpa only[bD]using h
 | .row _ _ _,v,h=>by simpa only[bD]using h
 | .rptr _ _ _ _ _,v,h=>by simpa only[bD]using h
 | .cst _,v,h=>by simpa only[bD]using h
theorem WB{w:World}{ν:aQ}:∀(cs:List ae) (us:List Value),ck w ν cs us->ck w ν (bC cs) us
 |[],_,h=>by simpa only[bC]using h
 |c::cs,us,h=>by simp only[ck,bC]at h⊢;obtain⟨u,bE,I,J,au⟩:=h;exact⟨u,bE,I,⟨yn c u J.1,J.2⟩,WB cs bE au⟩
theorem HX{w:World}{ν:aQ}:∀(cs:List ae) (us:List Value),cz w ν cs us->cz w ν (bC cs) us
 |[],_,h=>by simpa only[bC]using h
 |c::cs,us,h=>by simp only[cz,bC]at h⊢;obtain⟨u,bE,I,J,au⟩:=h;exact⟨u,bE,I,yn c u J,HX cs bE au⟩
theorem Wx{w:World}{ν:aQ}(sz:Nat):∀(xs:List ae) (us:List Value),cV w ν sz xs us->cV w ν sz (bC xs) us
 |[],_,h=>by simpa only[bC]using h
 |x::xs,us,h=>by simp only[cV,bC]at h⊢;obtain⟨u,bE,I,⟨J,au,aP⟩,bA⟩:=h;exact⟨u,bE,I,⟨yn x u J,au,aP⟩,Wx sz xs bE bA⟩
end
def ak(s:dJ)(k:aC):Prop:=(look k s.b).isSome=true\/(look k s.e).isSome=true
def bc{α β:Type}(s:List (aC×β)):List (aC×α)->List (aC×α)
 |[]=>[]
 |(k,x)::r=>match look k s with
  |some _=>bc s r
  |none=>(k,x)::bc s r
theorem r2{α β:Type}(s:List (aC×β))(k:aC):∀l:List (aC×α),look k (bc s l)=if(look k s).isSome then none else look k l
 |[]=>by simp[bc,look]
 |(i,x)::r=>by
  simp only[bc];by_cases e:i=k
  ·subst e;cases h:look i s with
   |some y=>simp[r2 s i r,h]
   |none=>simp[look]
  ·cases h:look i s with
   |some y=>simp[r2 s k r,look,e]
   |none=>simp[look,e,r2 s k r]
theorem nH{α:Type}(k:aC):∀l c6:List (aC×α),look k (l++c6)=match look k l with|some x=>some x|none=>look k c6
 |[],c6=>by simp[look]
 |(i,x)::r,c6=>by
  by_cases e:i=k
  ·simp[look,e]
  ·simp[look,e,nH k r c6]
def after(st:aU)(s al:dJ)(d:aW Nat)(r:ae):aU:={t:=fE d r st.t,b:=bc s.b st.b++al.b,e:=bc s.e st.e++al.e,n:=st.n,o:=st.o++ev al}
section
open Classical
noncomputable def aQ.join(ν ν':aQ)(s al:dJ):aQ:={A:=ν'.A,bx:=fun k=>if(look k s.b).isSome\/(look k al.b).isSome then ν'.bx k else ν.bx k,ow:=fun k=>if(look k s.e).isSome\/(look k al.e).isSome then ν'.ow k else ν.ow k,tr:=fun k j b=>ν.tr k j b\/ν'.tr k j b}
end
theorem cm.callK{C:eK}{st:aU}{a:Act}{w w':World}{ν ν':aQ}(h:cm C st a w ν){s al:dJ}(ah:qs (ak s) s.b st.b)(he:rj (ak s) s.e st.e)(la:hV s)
  (aS:Good (fun bl=>fY (ν.cut (ak s)) s bl\/w.heap.size<=bl) w' ν' al.b al.e) {κ:aW Nat} (af:AP κ ν' al) (GS:∀m,κ=some m->ν.bx (.loc m)=none/\ν.ow (.loc m)=none/\∀j b,¬ν.tr (.loc m) j b) {n':Nat} {o':List aC} (hJ:∀k,fresh n' o' k->fresh st.n (st.o++ev al) k/\∀m,κ=some m->k≠ .loc m) (tv:hV al) (aK:ox ⟨w,ν.cut (ak s),fY (ν.cut (ak s)) s,0,ev s,h.fr.gl.cut _,[]⟩ w' ν')
  (KO:∀m,(look (.obj m) al.b).isSome->(look (.obj m) s.b).isSome\/ .obj m∉st.o) (b7:∀m,(look (.obj m) al.e).isSome->(look (.obj m) s.e).isSome\/ .obj m∉st.o) (d:aW Nat) (aI:hZ C.N d=true) {r:ae} {v:Value} (hr:aJ w' ν' r v):
  cm C {after st s al d r with n:=n',o:=o'} (a.put d v) w' (ν.join ν' s al):=by
 have x0:∀k,(look k s.b).isSome->(look k st.b).isSome:=fun k ab=>by obtain⟨cs,dc⟩:=fv.1 ab;simp[(ah k cs dc).1]
 have hs:∀k,(look k s.e).isSome->(look k st.e).isSome:=fun k ab=>by obtain⟨cs,dc⟩:=fv.1 ab;simp[(he k cs dc).1]
 have aeP:∀k,(look k al.b).isSome->¬(look k s.b).isSome->ν.bx k=none:=fun k ab aM=>by
  cases k with
  |loc m=>rw[tv.1 m]at ab;cases ab
  |obj m=>exact(h.new (.obj m) ⟨trivial,(KO m ab).resolve_left aM⟩).1
 have aeQ:∀k,(look k al.e).isSome->¬(look k s.e).isSome->ν.ow k=none:=fun k ab aM=>by
  cases k with
  |loc m=>rw[tv.2 m]at ab;cases ab
  |obj m=>exact(h.new (.obj m) ⟨trivial,(b7 m ab).resolve_left aM⟩).2.1
 have afJ:∀k,(look k s.b).isSome->(ν.join ν' s al).bx k=ν'.bx k:=fun k ab=>by simp[aQ.join,ab]
 have TU:∀k,(look k al.b).isSome->(ν.join ν' s al).bx k=ν'.bx k:=fun k ab=>by simp[aQ.join,ab]
 have TV:∀k,ν.bx k≠none->¬(look k s.b).isSome->(ν.join ν' s al).bx k=ν.bx k:=fun k I J=>by have au:¬(look k al.b).isSome:=fun au=>I (aeP k au J);simp[aQ.join,J,au]
 have afK:∀k,(look k s.e).isSome->(ν.join ν' s al).ow k=ν'.ow k:=fun k ab=>by simp[aQ.join,ab]
 have Lz:∀k,(look k al.e).isSome->(ν.join ν' s al).ow k=ν'.ow k:=fun k ab=>by simp[aQ.join,ab]
 have LA:∀k,ν.ow k≠none->¬(look k s.e).isSome->(ν.join ν' s al).ow k=ν.ow k:=fun k I J=>by have au:¬(look k al.e).isSome:=fun au=>I (aeQ k au J);simp[aQ.join,J,au]
 have Yk:∀k b,ν'.bx k=some b->(look k al.b).isSome:=fun k b ab=>by
  cases aD:look k al.b with
  |some _=>rfl
  |none=>rw[(af k).1 aD]at ab;cases ab
 have Yl:∀k b,ν'.ow k=some b->(look k al.e).isSome:=fun k b ab=>by
  cases aD:look k al.e with
  |some _=>rfl
  |none=>rw[(af k).2.1 aD]at ab;cases ab
 have aq:mK w ν w' (ν.join ν' s al):=by
  refine⟨fun b o bf=>aK.keep b o bf,fun k b _ ab=>?_,fun g n u _ aS=>?_,fun b o bf=>aK.sh b o bf,fun _ _ _ _ h=>.inl h⟩
  ·by_cases az:(look k s.b).isSome
   ·rw[afJ k az];cases k with
    |loc m=>rw[la.1 m]at az;cases az
    |obj m=>exact aK.obj m b (by rw[aQ.cut_bx (.inl az)];exact ab)
   ·rw[TV k (by rw[ab];simp) az];exact ab
  ·by_cases az:(look g s.e).isSome
   ·rw[afK g az];cases g with
    |loc m=>rw[la.2 m]at az;cases az
    |obj m=>exact aK.row m n u (by rw[aQ.cut_ow (.inr az)];exact aS)
   ·rw[LA g (by rw[aS];simp) az];exact⟨n,u,aS,.inl ⟨rfl,rfl⟩⟩
 have hK:mK w' ν' w' (ν.join ν' s al):=⟨fun b o bf=>⟨bf,rfl⟩,fun k b _ ab=>by rw[TU k (Yk k b ab)];exact ab,fun g n u _ ab=>⟨n,u,by rw[Lz g (Yl g _ ab)];exact ab,.inl ⟨rfl,rfl⟩⟩,fun _ _ _=>rfl,fun _ _ _ _ h=>.inr h⟩
 have oE:∀bl,fY (ν.cut (ak s)) s bl->C.pr bl/\bl<w.heap.size:=by
  intro bl fc;rcases fc with⟨k,I,J⟩|⟨g,n,u,I,J,au⟩
  ·have aP:=(aQ.cut_some J).2;obtain⟨cs,dc⟩:=fv.1 (x0 k I);obtain⟨hx,us,el,g1,g2,_⟩:=h.good.box k cs dc;rw[aP]at g1;cases g1;exact⟨g2,h.good.boxLt dc aP⟩
  ·have aP:=(aQ.cut_someO J).2;obtain⟨o,GL⟩:=fv.1 (hs g I);obtain⟨v',us,g1,g2,g3,_⟩:=h.good.own g o GL;rw[aP]at g1;cases g1;exact⟨(g3 bl au).1,h.good.ownLt GL aP au⟩
 have Te:∀bl,fY (ν.cut (ak s)) s bl\/w.heap.size<=bl->C.pr bl:=fun bl fc=>by
  rcases fc with fc|fc
  ·exact(oE bl fc).1
  ·exact .inr (Nat.le_trans h.fr.size fc)
 have ae4:∀k cs bl,look k st.b=some cs->¬(look k s.b).isSome->ν.bx k=some bl->¬fY (ν.cut (ak s)) s bl:=by
  intro k cs bl I J au aP;rcases aP with⟨bn,bH,a2⟩|⟨g,n,u,bH,a2,a3⟩
  ·have:=h.good.inj k bn bl (by simp[I]) (x0 bn bH) au (aQ.cut_some a2).2;subst this;exact J bH
  ·exact h.good.obx g k n u bl (hs g bH) (by simp[I]) (aQ.cut_someO a2).2 a3 au
 have ae5:∀g o n u bl,look g st.e=some o->¬(look g s.e).isSome->ν.ow g=some (n,u)->u.ownBlock=some bl->¬fY (ν.cut (ak s)) s bl:=by
  intro g o n u bl I J au aP bA;rcases bA with⟨bn,bH,a2⟩|⟨et,n',eJ,bH,a2,a3⟩
  ·exact h.good.obx g bn n u bl (by simp[I]) (x0 bn bH) au aP (aQ.cut_some a2).2
  ·have:=h.good.oinj g et n n' u eJ bl (by simp[I]) (hs et bH) au (aQ.cut_someO a2).2 aP a3;subst this;exact J bH
 have Qk:∀k cs,look k (bc s.b st.b++al.b)=some cs->(¬(look k s.b).isSome/\look k st.b=some cs)\/look k al.b=some cs:=by
  intro k cs ab;rw[nH,r2]at ab;by_cases az:(look k s.b).isSome
  ·simp only[az,if_true]at ab;exact .inr ab
  ·simp only[az]at ab;cases aD:look k st.b with
   |some x=>simp[aD]at ab;subst ab;exact .inl ⟨az,rfl⟩
   |none=>simp[aD]at ab;exact .inr ab
 have Ql:∀k cs,look k (bc s.e st.e++al.e)=some cs->(¬(look k s.e).isSome/\look k st.e=some cs)\/look k al.e=some cs:=by
  intro k cs ab;rw[nH,r2]at ab;by_cases az:(look k s.e).isSome
  ·simp only[az,if_true]at ab;exact .inr ab
  ·simp only[az]at ab;cases aD:look k st.e with
   |some x=>simp[aD]at ab;subst ab;exact .inl ⟨az,rfl⟩
   |none=>simp[aD]at ab;exact .inr ab
 have w3:∀bl,fY (ν.cut (ak s)) s bl\/w.heap.size<=bl->∀hx,hx<w.heap.size->¬fY (ν.cut (ak s)) s hx->bl≠hx:=by
  intro bl I hx J au e;subst e;rcases I with I|I
  ·exact au I
  ·omega
 have LG:∀bl,bl<w.heap.size->¬fY (ν.cut (ak s)) s bl->w'.heap[bl]? =w.heap[bl]?:=fun bl I J=>aK.block bl I J;have isB:∀k bl,(look k (bc s.b st.b++al.b)).isSome->(ν.join ν' s al).bx k=some bl->(¬(look k s.b).isSome/\(look k st.b).isSome/\ν.bx k=some bl)\/((look k al.b).isSome/\ν'.bx k=some bl):=by
  intro k bl ab jE;obtain⟨cs,dc⟩:=fv.1 ab;rcases Qk k cs dc with⟨I,J⟩|I
  ·obtain⟨hx,us,el,g1,_⟩:=h.good.box k cs J;rw[TV k (by rw[g1];simp) I]at jE;exact .inl ⟨I,by simp[J],jE⟩
  ·rw[TU k (by simp[I])]at jE;exact .inr ⟨by simp[I],jE⟩
 have GW:∀k x,(look k (bc s.e st.e++al.e)).isSome->(ν.join ν' s al).ow k=some x->(¬(look k s.e).isSome/\(look k st.e).isSome/\ν.ow k=some x)\/((look k al.e).isSome/\ν'.ow k=some x):=by
  intro k x ab jE;obtain⟨cs,dc⟩:=fv.1 ab;rcases Ql k cs dc with⟨I,J⟩|I
  ·obtain⟨v',us,g1,_⟩:=h.good.own k cs J;rw[LA k (by rw[g1];simp) I]at jE;exact .inl ⟨I,by simp[J],jE⟩
  ·rw[Lz k (by simp[I])]at jE;exact .inr ⟨by simp[I],jE⟩
 have CJ:∀k bl,¬(look k s.b).isSome->(look k st.b).isSome->ν.bx k=some bl->bl<w.heap.size/\¬fY (ν.cut (ak s)) s bl:=by intro k bl I J au;obtain⟨cs,dc⟩:=fv.1 J;exact⟨h.good.boxLt dc au,ae4 k cs bl dc I au⟩
 have zU:∀k n u bl,¬(look k s.e).isSome->(look k st.e).isSome->ν.ow k=some (n,u)->u.ownBlock=some bl->bl<w.heap.size/\¬fY (ν.cut (ak s)) s bl:=by intro k n u bl I J au aP;obtain⟨cs,dc⟩:=fv.1 J;exact⟨h.good.ownLt dc au aP,ae5 k cs n u bl dc I au aP⟩
 have Fs:∀k bl,(look k al.b).isSome->ν'.bx k=some bl->fY (ν.cut (ak s)) s bl\/w.heap.size<=bl:=by intro k bl I J;obtain⟨cs,dc⟩:=fv.1 I;obtain⟨hx,us,el,g1,g2,_⟩:=aS.box k cs dc;rw[J]at g1;cases g1;exact g2
 have HZ:∀k n u bl,(look k al.e).isSome->ν'.ow k=some (n,u)->u.ownBlock=some bl->fY (ν.cut (ak s)) s bl\/w.heap.size<=bl:=by intro k n u bl I J au;obtain⟨cs,dc⟩:=fv.1 I;obtain⟨v',us,g1,g2,g3,_⟩:=aS.own k cs dc;rw[J]at g1;cases g1;exact(g3 bl au).1
 have bf:∀bl o,ν'.A bl o->bl<w.heap.size->¬fY (ν.cut (ak s)) s bl->ν.A bl o:=by
  intro bl o I J au;rcases aK.fresh bl o I with aP|aP|aP
  ·exact aP
  ·exact absurd aP au
  ·simp only at aP;omega
 have n7:cm C {t:=st.t,b:=bc s.b st.b++al.b,e:=bc s.e st.e++al.e,n:=n',o:=o'} a w' (ν.join ν' s al):=by
  refine h.over aq rfl ⟨aS.alt,fun k cs ab=>?_,fun k bn bl I J au aP=>?_,fun g o fb=>?_,fun g et n n' u eJ bl I J au aP bA cy=>?_,fun g k n u bl I J au aP bA=>?_,fun k=>?_,fun bl aE k j fR=>?_⟩
   ⟨aK.os.trans h.fr.os,aK.tape.trans h.fr.tape,aK.output.trans h.fr.output,Nat.le_trans h.fr.size aK.size,fun k ab hm=>?_,fun b o td=>?_,fun b o td=>?_,fun n b aM=>aq.bx _ _ trivial (h.fr.obj n b aM),h.fr.obn,
    fun m n u hm=>EN (h.fr.row m n u hm) (fun n u=>aq.ow _ n u trivial),h.fr.obr,fun k j bn eQ b I J=>?_,fun k j b ah=>?_,fun k j b ah=>?_,fun b o bf=>(aq.sh b o (h.fr.keep b o bf).1).trans (h.fr.sh b o bf),fun j n u b ao aL=>h.fr.nrow j n u b (by simpa[aQ.join,la.2 j,tv.2 j]using ao) aL⟩ (fun k ab=>?_) (fun m hm=>rR (cc _) (fun _ h=>ni _ h) (hJ m hm).1)
  ·rcases Qk k cs ab with⟨I,J⟩|I
   ·obtain⟨bl,us,el,g1,g2,g3,g4,g5⟩:=h.good.box k cs J;obtain⟨cq,cE⟩:=CJ k bl I (by simp[J]) g1;exact⟨bl,us,el,aq.bx _ _ trivial g1,g2,fun o td=>g3 o (bf bl o td cq cE),by rw[LG bl cq cE];exact g4,qn aq g5⟩
   ·obtain⟨bl,us,el,g1,g2,g3,g4,g5⟩:=aS.box k cs I;exact⟨bl,us,el,hK.bx _ _ trivial g1,Te bl g2,g3,g4,qn hK g5⟩
  ·rcases isB k bl I au with⟨bH,a2,a3⟩|⟨bH,a2⟩<;>rcases isB bn bl J aP with⟨cq,cE,gD⟩|⟨cq,cE⟩
   ·exact h.good.inj k bn bl a2 cE a3 gD
   ·obtain⟨cF,c2⟩:=CJ k bl bH a2 a3;exact absurd rfl (w3 bl (Fs bn bl cq cE) bl cF c2)
   ·obtain⟨cF,c2⟩:=CJ bn bl cq cE gD;exact absurd rfl (w3 bl (Fs k bl bH a2) bl cF c2)
   ·exact aS.inj k bn bl bH cq a2 cE
  ·rcases Ql g o fb with⟨I,J⟩|I
   ·obtain⟨u,us,g1,g2,g3,g4⟩:=h.good.own g o J;refine⟨u,us,by rw[LA g (by rw[g1];simp) I];exact g1,⟨g2.1,?_⟩,fun bl fc=>?_,sc aq (fun bl fc j td=>?_) g4⟩
    ·rcases g2.2 with aL|⟨iq,cap,cur,f1,f2,f3,f4⟩
     ·exact .inl aL
     ·obtain⟨cq,cE⟩:=zU g _ u iq I (by simp[J]) g1 (by rw[f1];rfl);exact .inr ⟨iq,cap,cur,f1,f2,by rw[LG iq cq cE];exact f3,f4⟩
    ·obtain⟨cq,cE⟩:=zU g _ u bl I (by simp[J]) g1 fc;exact⟨(g3 bl fc).1,fun j td=>(g3 bl fc).2 j (bf bl j td cq cE)⟩
    ·obtain⟨cq,cE⟩:=zU g _ u bl I (by simp[J]) g1 fc;exact bf bl j td cq cE
   ·obtain⟨u,us,g1,g2,g3,g4⟩:=aS.own g o I;exact⟨u,us,by rw[Lz g (by simp[I])];exact g1,g2,fun bl fc=>⟨Te bl (g3 bl fc).1,(g3 bl fc).2⟩,sc hK (fun _ _ _ h=>h) g4⟩
  ·rcases GW g _ I au with⟨bH,a2,a3⟩|⟨bH,a2⟩<;>rcases GW et _ J aP with⟨cq,cE,gD⟩|⟨cq,cE⟩
   ·exact h.good.oinj g et n n' u eJ bl a2 cE a3 gD bA cy
   ·obtain⟨cF,c2⟩:=zU g n u bl bH a2 a3 bA;exact absurd rfl (w3 bl (HZ et n' eJ bl cq cE cy) bl cF c2)
   ·obtain⟨cF,c2⟩:=zU et n' eJ bl cq cE gD cy;exact absurd rfl (w3 bl (HZ g n u bl bH a2 bA) bl cF c2)
   ·exact aS.oinj g et n n' u eJ bl bH cq a2 cE bA cy
  ·rcases GW g _ I au with⟨bH,a2,a3⟩|⟨bH,a2⟩<;>rcases isB k bl J bA with⟨cq,cE,gD⟩|⟨cq,cE⟩
   ·exact h.good.obx g k n u bl a2 cE a3 aP gD
   ·obtain⟨cF,c2⟩:=zU g n u bl bH a2 a3 aP;exact absurd rfl (w3 bl (Fs k bl cq cE) bl cF c2)
   ·obtain⟨cF,c2⟩:=CJ k bl cq cE gD;exact absurd rfl (w3 bl (HZ g n u bl bH a2 aP) bl cF c2)
   ·exact aS.obx g k n u bl bH cq a2 aP cE
  ·
   cases jE:(ν.join ν' s al).bx k with
   |none=>exact .inl rfl
   |some bl=>
    right;cases oL:(ν.join ν' s al).ow k with
    |none=>rfl
    |some x=>
     exfalso;have ao:(ν.bx k=some bl/\¬(look k s.b).isSome/\¬(look k al.b).isSome)\/ν'.bx k=some bl:=by
      by_cases az:(look k s.b).isSome\/(look k al.b).isSome
      ·right;simpa[aQ.join,az]using jE
      ·left;simp only[not_or]at az;exact⟨by simpa[aQ.join,az.1,az.2]using jE,az.1,az.2⟩
     have aL:(ν.ow k=some x/\¬(look k s.e).isSome/\¬(look k al.e).isSome)\/ν'.ow k=some x:=by
      by_cases az:(look k s.e).isSome\/(look k al.e).isSome
      ·right;simpa[aQ.join,az]using oL
      ·left;simp only[not_or]at az;exact⟨by simpa[aQ.join,az.1,az.2]using oL,az.1,az.2⟩
     rcases ao with⟨bH,a2,a3⟩|bH<;>rcases aL with⟨cq,cE,gD⟩|cq
     ·rcases h.good.one k with bR|bR
      ·rw[bR]at bH;cases bH
      ·rw[bR]at cq;cases cq
     ·have wi:=Yl k x cq;have ff:(look k s.e).isSome:=by
       cases k with
       |loc m=>rw[tv.2 m]at wi;cases wi
       |obj m=>
        rcases b7 m wi with bR|bR
        ·exact bR
        ·rw[(h.new (.obj m) ⟨trivial,bR⟩).1]at bH;cases bH
      obtain⟨o,GL⟩:=fv.1 (hs k ff);obtain⟨v',us,g1,_⟩:=h.good.own k o GL;rcases h.good.one k with bR|bR
      ·rw[bR]at bH;cases bH
      ·rw[bR]at g1;cases g1
     ·have KE:=Yk k bl bH;have ff:(look k s.b).isSome:=by
       cases k with
       |loc m=>rw[tv.1 m]at KE;cases KE
       |obj m=>
        rcases KO m KE with bR|bR
        ·exact bR
        ·rw[(h.new (.obj m) ⟨trivial,bR⟩).2.1]at cq;cases cq
      obtain⟨cs,dc⟩:=fv.1 (x0 k ff);obtain⟨hx,us,el,g1,_⟩:=h.good.box k cs dc;rcases h.good.one k with bR|bR
      ·rw[bR]at g1;cases g1
      ·rw[bR]at cq;cases cq
     ·rcases aS.one k with bR|bR
      ·rw[bR]at bH;cases bH
      ·rw[bR]at cq;cases cq
  ·have SZ:∀k j,ν'.tr k j bl->w.heap.size<=bl:=fun k j bR=>by
    rcases(aK.trb k j bl bR).1 with a2|a2
    ·obtain⟨m,_,hm⟩:=(af k).2.2 j bl bR;rw[hm]at a2;cases a2
    ·exact a2
   have hold:fY (ν.cut (ak s)) s bl->¬ν.tr k j bl:=by
    rintro(⟨bn,bH,a2⟩|⟨g,n,u,bH,a2,a3⟩) bR
    ·exact h.good.otr bl (.inl ⟨bn,x0 bn bH,(aQ.cut_some a2).2⟩) k j bR
    ·exact h.good.otr bl (.inr ⟨g,n,u,hs g bH,(aQ.cut_someO a2).2,a3⟩) k j bR
   have k9:fY (ν.cut (ak s)) s bl\/w.heap.size<=bl->¬ν.tr k j bl:=by
    rintro(I|I) bR
    ·exact hold I bR
    ·have:=(h.fr.trb k j bl bR).2;omega
   rcases aE with⟨bn,bH,a2⟩|⟨g,n,u,bH,a2,a3⟩
   ·rcases isB bn bl bH a2 with⟨cq,cE,gD⟩|⟨cq,cE⟩
    ·rcases fR with fR|fR
     ·exact h.good.otr bl (.inl ⟨bn,cE,gD⟩) k j fR
     ·have:=(CJ bn bl cq cE gD).1;have:=SZ k j fR;omega
    ·rcases fR with fR|fR
     ·exact k9 (Fs bn bl cq cE) fR
     ·exact aS.otr bl (.inl ⟨bn,cq,cE⟩) k j fR
   ·rcases GW g _ bH a2 with⟨cq,cE,gD⟩|⟨cq,cE⟩
    ·rcases fR with fR|fR
     ·exact h.good.otr bl (.inr ⟨g,n,u,cE,gD,a3⟩) k j fR
     ·have:=(zU g n u bl cq cE gD a3).1;have:=SZ k j fR;omega
    ·rcases fR with fR|fR
     ·exact k9 (HZ g n u bl cq cE a3) fR
     ·exact aS.otr bl (.inr ⟨g,n,u,cq,cE,a3⟩) k j fR
  ·have b5:k<w.heap.size:=Nat.lt_of_lt_of_le ab h.fr.size;rw[LG k b5 fun fc=>by
    rcases(oE k fc).1 with I|I
    ·exact hm I
    ·omega]
   exact h.fr.block k ab hm
  ·obtain⟨cD,dI⟩:=h.fr.keep b o td;obtain⟨hA,kz⟩:=aK.keep b o cD;exact⟨hA,kz.trans dI⟩
  ·rcases aK.fresh b o td with aP|aP|aP
   ·exact h.fr.fresh b o aP
   ·exact .inr (oE b aP).1
   ·exact .inr (.inr (Nat.le_trans h.fr.size aP))
  ·rcases I with I|I<;>rcases J with J|J
   ·exact h.fr.trd k j bn eQ b I J
   ·have bH:=(h.fr.trb k j b I).2;have a2:=(aK.trb bn eQ b J).1;rcases a2 with a2|a2
    ·obtain⟨m,_,hm⟩:=(af bn).2.2 eQ b J;rw[hm]at a2;cases a2
    ·simp only at a2;omega
   ·have bH:=(h.fr.trb bn eQ b J).2;have a2:=(aK.trb k j b I).1;rcases a2 with a2|a2
    ·obtain⟨m,_,hm⟩:=(af k).2.2 j b I;rw[hm]at a2;cases a2
    ·simp only at a2;omega
   ·exact aK.trd k j bn eQ b I J
  ·rcases ah with ah|ah
   ·exact⟨(h.fr.trb k j b ah).1,Nat.lt_of_lt_of_le (h.fr.trb k j b ah).2 aK.size⟩
   ·refine⟨.inr ?_,(aK.trb k j b ah).2⟩;rcases(aK.trb k j b ah).1 with a2|a2
    ·obtain⟨m,_,hm⟩:=(af k).2.2 j b ah;rw[hm]at a2;cases a2
    ·exact Nat.le_trans h.fr.size a2
  ·have key:ν.bx k=none/\ν.ow k=none/\¬(look k al.b).isSome/\¬(look k al.e).isSome:=by
    rcases ah with ah|ah
    ·obtain⟨t1,t2⟩:=h.fr.trn k j b ah;refine⟨t1,t2,fun bR=>?_,fun bR=>?_⟩
     ·cases k with
      |loc m=>rw[tv.1 m]at bR;cases bR
      |obj m=>
       rcases KO m bR with bA|bA
       ·obtain⟨cs,dc⟩:=fv.1 (x0 _ bA);obtain⟨hx,us,el,g1,_⟩:=h.good.box _ cs dc;rw[t1]at g1;cases g1
       ·exact(h.new (.obj m) ⟨trivial,bA⟩).2.2 j b ah
     ·cases k with
      |loc m=>rw[tv.2 m]at bR;cases bR
      |obj m=>
       rcases b7 m bR with bA|bA
       ·obtain⟨cs,dc⟩:=fv.1 (hs _ bA);obtain⟨hx,us,g1,_⟩:=h.good.own _ cs dc;rw[t2]at g1;cases g1
       ·exact(h.new (.obj m) ⟨trivial,bA⟩).2.2 j b ah
    ·obtain⟨m,hm,rfl⟩:=(af k).2.2 j b ah;obtain⟨t1,t2,_⟩:=GS m hm;exact⟨t1,t2,by simp[tv.1 m],by simp[tv.2 m]⟩
   obtain⟨t1,t2,t3,t4⟩:=key;have t5:¬(look k s.b).isSome:=fun bR=>by obtain⟨cs,dc⟩:=fv.1 (x0 _ bR);obtain⟨hx,us,el,g1,_⟩:=h.good.box _ cs dc;rw[t1]at g1;cases g1
   have t6:¬(look k s.e).isSome:=fun bR=>by obtain⟨cs,dc⟩:=fv.1 (hs _ bR);obtain⟨hx,us,g1,_⟩:=h.good.own _ cs dc;rw[t2]at g1;cases g1
   exact⟨by simp[aQ.join,t3,t5,t1],by simp[aQ.join,t4,t6,t2]⟩
  ·
   simp only at ab;obtain⟨ab,aew⟩:=hJ k ab;have S6:(∀j b,¬ν.tr k j b)->∀j b,¬(ν.join ν' s al).tr k j b:=fun I j b ah=>by
    rcases ah with ah|ah
    ·exact I j b ah
    ·obtain⟨m,hm,e⟩:=(af k).2.2 j b ah;exact aew m hm e
   cases k with
   |loc m=>obtain⟨hi,gd,jL⟩:=h.new (.loc m) (rR (cc _) (fun _ h=>ni _ h) ab);exact⟨by simp[aQ.join,la.1 m,tv.1 m,hi],by simp[aQ.join,la.2 m,tv.2 m,gd],S6 jL⟩
   |obj m=>
    simp only[fresh,hl,not_or,true_and]at ab;obtain⟨hi,gd,jL⟩:=h.new (.obj m) ⟨trivial,ab.1⟩;have b0:¬(look (.obj m) al.b).isSome:=fun bR=>ab.2 (wO (.inl bR));have cS:¬(look (.obj m) al.e).isSome:=fun bR=>ab.2 (wO (.inr bR));have dT:¬(look (.obj m) s.b).isSome:=fun bR=>by obtain⟨cs,dc⟩:=fv.1 (x0 _ bR);obtain⟨hx,us,el,g1,_⟩:=h.good.box _ cs dc;rw[hi]at g1;cases g1
    have dY:¬(look (.obj m) s.e).isSome:=fun bR=>by obtain⟨cs,dc⟩:=fv.1 (hs _ bR);obtain⟨v',us,g1,_⟩:=h.good.own _ cs dc;rw[gd]at g1;cases g1
    exact⟨by simp[aQ.join,b0,dT,hi],by simp[aQ.join,cS,dY,gd],S6 jL⟩
 exact n7.put aI (wX hK hr)
end
end Go.Pv
