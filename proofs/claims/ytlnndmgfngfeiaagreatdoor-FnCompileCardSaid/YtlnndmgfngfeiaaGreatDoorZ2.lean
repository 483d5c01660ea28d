/- A call, by its contract. -/
import Derived.Deep.AppendSrc
import Derived.Laws.OwnMore
import Derived.Test.YtlnndmgfngfeiaaGreatDoorZ1
set_option linter.all false
set_option maxHeartbeats 4000000
set_option maxRecDepth 4000
open Bool renaming and_eq_true->bB,false_eq_true->iR
open ByteArray renaming size->UF
open Go renaming Program->bW,TypeId->gx
open Go.Builtin renaming append_->sr
open Go.Result renaming andThen_ok->e8
open Go.Sem renaming run_bind->e2,run_pure->fC
open Go.Value renaming cells->l1,int->mE,ownBlock->ni
open Go.World.grownBy renaming refl->agZ
open List renaming append_assoc->l2,cons_append->iT,eq_nil_of_length_eq_zero->l3,getElem?_append_left->mF,getElem?_eq_getElem->bO,getElem?_eq_some_iff->cX,length_append->dF,length_cons->e3,length_drop->kH,length_map->qk,length_pos_iff->re,length_take->pt,map_cons->eQ,mem_append->iG,mem_append_left->rf,mem_map->pv,take_length->jl,take_of_length_le->pw
open Nat renaming le_refl->da,zero_add->nk
open Option renaming isSome_iff_exists->fv,isSome_none->tE,map_some->su
open Option.some renaming injEq->dL
open Prod.mk renaming injEq->gp
open _root_ renaming ByteArray->kG,False->dK,Option->be,UInt8->aF,beq_iff_eq->dO,congrArg->fT,decide_eq_true_eq->ef,if_neg->bf,if_pos->bN
namespace Go.Pv
section
open Go Go.RowKit
theorem ct.inPlace{C:eH}{st:bb}{a:Act}{w:World}{ν:aT}(h:ct C st a w ν){k:aJ}{o:dw}(aa:look k st.e=some o){bl cap:Nat}{cur:Array Value}(aS:ν.ow k=some (o.n,.slice (some ⟨bl,0,none⟩) o.n cap))
  (qF:w.heap[bl]? =some (.cells cur o.el (0,0))) (rN:cap<=maxLen) (ev:cur.size=cap*o.sz) {xs ys:List ag} {us ns:List Value} (mu:xs.length=o.n) (jV:cur.toList.take (o.n*o.sz)=us) (aD:cI w ν o.sz xs us) (PM:cI w ν o.sz ys ns)
  (fb:0<ys.length) (nD:o.n+ys.length<=cap) (fW:xs.length+ys.length<=bA):
  ct C {st with e:=cR k ⟨o.n+ys.length,o.el,o.sz,none⟩ st.e} a (w.setRow bl (us++ns++cur.toList.drop (o.n*o.sz+ns.length)).toArray)
   (ν.withRowOf k (.slice (some ⟨bl,0,none⟩) (o.n+ys.length) cap) (o.n+ys.length) ((o.n+ys.length)*o.sz))/\
  aR (w.setRow bl (us++ns++cur.toList.drop (o.n*o.sz+ns.length)).toArray) (ν.withRowOf k (.slice (some ⟨bl,0,none⟩) (o.n+ys.length) cap) (o.n+ys.length) ((o.n+ys.length)*o.sz))
   (.slice o.sz (.own k) (xs++ys)) (.slice (some ⟨bl,0,none⟩) (o.n+ys.length) cap):=by
 have je:=qW PM;have qM:=qW aD;rw[mu]at qM;have hmul:(o.n+ys.length)*o.sz<=cap*o.sz:=Nat.mul_le_mul_right _ nD;rw[Nat.add_mul]at hmul;obtain⟨v0,eN,b9,cx,dp,_⟩:=h.good.own k o aa;rw[aS]at b9;cases b9;obtain⟨c6,cH⟩:=dp bl rfl;generalize rW:w.setRow bl (us++ns++cur.toList.drop (o.n*o.sz+ns.length)).toArray=w';have ka:∀j,j≠bl->w'.heap[j]? =w.heap[j]?:=fun j al=>by rw[<-rW];exact setRow_other w bl j _ al
 have lh:w'.heap[bl]? =some (.cells (us++ns++cur.toList.drop (o.n*o.sz+ns.length)).toArray o.el (0,0)):=by rw[<-rW];exact setRow_heap w bl cur _ o.el _ qF
 have Jd:w'.heap.size=w.heap.size:=by rw[<-rW];exact setRow_size w bl _
 have mh:∀j,j<o.n*o.sz->w'.cell? ⟨bl,j,none⟩=w.cell? ⟨bl,j,none⟩:=by intro j al;simp only[World.cell?,lh,qF,tE,iR,if_false];rw[List.getElem?_toArray,l2,mF Ω,<-jV,List.getElem?_take,bN al];simp
 have aj:lA w ν w' (ν.withRowOf k (.slice (some ⟨bl,0,none⟩) (o.n+ys.length) cap) (o.n+ys.length) ((o.n+ys.length)*o.sz)):=by
  refine⟨fun b j bg=>⟨.inl bg,?_⟩,fun j b _ al=>al,fun g n u _ iv=>?_,fun b j bg=>?_,fun _ _ _ _ h=>h⟩;rotate_left 2
  ·by_cases e:b=bl
   ·subst e;simp only[shape,lh,qF,List.size_toArray,dF,kH,Array.length_toList];congr 2;omega
   ·exact yp (ka b e)
  ·by_cases e:b=bl
   ·subst e;exact mh j (cH j bg)
   ·exact World.cell?_of_block (ka b e)
  ·by_cases e:g=k
   ·subst e;rw[aS]at iv;cases iv;exact⟨o.n+ys.length,.slice (some ⟨bl,0,none⟩) (o.n+ys.length) cap,by simp[aT.withRowOf],.inr Ω⟩
   ·exact⟨n,u,by simp[aT.withRowOf,e,iv],.inl ⟨rfl,rfl⟩⟩
 have kA:∀g,(look g (cR k ⟨o.n+ys.length,o.el,o.sz,none⟩ st.e)).isSome->g=k\/(g≠k/\(look g st.e).isSome/\(ν.withRowOf k (.slice (some ⟨bl,0,none⟩) (o.n+ys.length) cap) (o.n+ys.length) ((o.n+ys.length)*o.sz)).ow g=ν.ow g):=by
  intro g gu;by_cases e:g=k
  ·exact .inl e
  ·rw[jr,bf (Ne.symm e)]at gu;exact .inr ⟨e,gu,by simp[aT.withRowOf,e]⟩
 have aiI:bl<w.heap.size:=(Array.getElem?_eq_some_iff.1 qF).1;have Bx:∀j u,(us++ns)[j]? =some u->w'.cell? ⟨bl,j,none⟩=some u:=by intro j u al;have eS:=(cX.1 al).1;simp only[World.cell?,lh,tE,iR,if_false];rw[List.getElem?_toArray,mF eS];exact al
 refine⟨h.over aj rfl ⟨fun b j bg=>?_,fun j dP al=>?_,h.good.inj,fun g o' eU=>?_,fun g eK n n' u e7 b I J av aV bE ch=>?_,fun g j n u b I J av aV bE=>?_,fun j=>?_,fun b af=>h.good.otr b ?_⟩
  ⟨by rw[<-rW];exact h.fr.os,by rw[<-rW];exact h.fr.tape,by rw[<-rW];exact h.fr.output,by rw[Jd];exact h.fr.size,fun j al hm=>?_,fun b j bg=>?_,fun b j bg=>?_,h.fr.obj,h.fr.obn,fun m n u hm=>CY (h.fr.row m n u hm) (fun n u=>aj.ow _ n u trivial),h.fr.obr,h.fr.trd,fun k j b af=>⟨(h.fr.trb k j b af).1,by rw[Jd];exact(h.fr.trb k j b af).2⟩,fun bz j b af=>?_,fun b o bg=>(aj.sh b o (h.fr.keep b o bg).1).trans (h.fr.sh b o bg),fun j n u b aq aU=>(by
   by_cases e:aJ.loc j=k
   ·subst e;simp only[aT.withRowOf,if_true,dL,gp]at aq;rw[<-aq.2]at aU;have bR:b=bl:=by simpa[ni]using aU.symm
    subst bR;exact h.fr.nrow j _ _ b aS rfl
   ·simp only[aT.withRowOf,bf e]at aq;exact h.fr.nrow j n u b aq aU)⟩ (fun m hm=>?_),?_⟩
 ·rw[Jd];rcases bg with bg|⟨bg,_⟩
  ·exact h.good.alt b j bg
  ·simp only[ni,dL]at bg;omega
 ·obtain⟨b,bF,eJ,g1,g2,g3,g4,g5⟩:=h.good.box j dP al;have cE:b≠bl:=fun e=>h.good.obx k j o.n _ bl (by simp[aa]) (by simp[al]) aS rfl (by rw[<-e];exact g1);refine⟨b,bF,eJ,g1,g2,fun i bg=>?_,by rw[ka b cE];exact g4,pe aj g5⟩;rcases bg with bg|⟨bg,_⟩
  ·exact g3 i bg
  ·simp only[ni,dL]at bg;exact cE bg.symm
 ·simp only at eU;rw[jr]at eU;by_cases e:k=g
  ·rw[bN e]at eU;cases eU;subst e;refine⟨.slice (some ⟨bl,0,none⟩) (o.n+ys.length) cap,us++ns,by simp[aT.withRowOf],⟨by rw[dF,qM,je,Nat.add_mul],.inr ⟨bl,cap,_,rfl,Nat.zero_le _,lh,nD,rN,?_,?_⟩⟩,fun b af=>⟨?_,fun j bg=>?_⟩,fun ys bC=>by cases bC⟩
   ·simp only[List.size_toArray,dF,kH,Array.length_toList];omega
   ·have aE:(us++ns).length=(o.n+ys.length)*o.sz:=by rw[dF,qM,je,Nat.add_mul]
    simp only[<-aE];rw[List.take_append_of_le_length (da _),jl]
   ·simp only[ni,dL]at af;subst af;exact c6
   ·simp only[ni,dL]at af;subst af;rcases bg with bg|⟨_,bg⟩
    ·have:=cH j bg;simp only;rw[Nat.add_mul];omega
    ·exact bg
  ·rw[bf e]at eU;obtain⟨v0,eN,aq,aU,bR,ds⟩:=h.good.own g o' eU;have cE:∀b,v0.ownBlock=some b->b≠bl:=fun b af HI=>e (h.good.oinj k g o.n o'.n _ v0 bl (by simp[aa]) (by simp[eU]) aS aq rfl (by rw[<-HI];exact af));have vD:∀b,v0.ownBlock=some b->∀j,(ν.withRowOf k (.slice (some ⟨bl,0,none⟩) (o.n+ys.length) cap) (o.n+ys.length) ((o.n+ys.length)*o.sz)).A b j->ν.A b j:=fun b af j bg=>by
    rcases bg with bg|⟨bg,_⟩
    ·exact bg
    ·simp only[ni,dL]at bg;exact absurd bg.symm (cE b af)
   refine⟨v0,eN,by simp[aT.withRowOf,Ne.symm e,aq],⟨aU.1,?_⟩,fun b af=>⟨(bR b af).1,fun j bg=>(bR b af).2 j (vD b af j bg)⟩,qY aj vD ds⟩;rcases aU.2 with aU|⟨hD,w8,l9,f1,f2,f3,f4⟩
   ·exact .inl aU
   ·exact .inr ⟨hD,w8,l9,f1,f2,by rw[ka hD (cE hD (by rw[f1];rfl))];exact f3,f4⟩
 ·rcases kA g I with rfl|⟨gV,fH,h4⟩<;>rcases kA eK J with rfl|⟨m1,m2,m3⟩
  ·rfl
  ·exfalso;simp only[aT.withRowOf,if_true,dL,gp]at av;rw[m3]at aV;rw[<-av.2]at bE;simp only[ni,dL]at bE;subst bE;exact m1 (h.good.oinj eK g n' o.n e7 _ bl m2 (by simp[aa]) aV aS ch rfl)
  ·exfalso;simp only[aT.withRowOf,if_true,dL,gp]at aV;rw[h4]at av;rw[<-aV.2]at ch;simp only[ni,dL]at ch;subst ch;exact gV (h.good.oinj g eK n o.n u _ bl fH (by simp[aa]) av aS bE rfl)
  ·rw[h4]at av;rw[m3]at aV;exact h.good.oinj g eK n n' u e7 b fH m2 av aV bE ch
 ·rcases kA g I with rfl|⟨gV,fH,h4⟩
  ·simp only[aT.withRowOf,if_true,dL,gp]at av;rw[<-av.2]at aV;simp only[ni,dL]at aV;subst aV;exact h.good.obx g j o.n _ bl (by simp[aa]) J aS rfl bE
  ·rw[h4]at av;exact h.good.obx g j n u b fH J av aV bE
 ·by_cases e:j=k
  ·subst e;rcases h.good.one j with I|I
   ·exact .inl I
   ·rw[I]at aS;cases aS
  ·rcases h.good.one j with I|I
   ·exact .inl I
   ·exact .inr (by simp[aT.withRowOf,e,I])
 ·rcases af with af|⟨g,n,u,bV,a2,a3⟩
  ·exact .inl af
  ·rcases kA g bV with rfl|⟨gV,fH,h4⟩
   ·simp only[aT.withRowOf,if_true,dL,gp]at a2;rw[<-a2.2]at a3;exact .inr ⟨g,_,_,by simp[aa],aS,a3⟩
   ·exact .inr ⟨g,n,u,fH,by rw[<-h4];exact a2,a3⟩
 ·rw[ka j fun e=>by subst e;exact c6.elim hm (fun g2=>Ω)];exact h.fr.block j al hm
 ·obtain⟨dh,ed⟩:=h.fr.keep b j bg;exact⟨.inl dh,(aj.A b j dh).2.trans ed⟩
 ·rcases bg with bg|⟨bg,_⟩
  ·exact h.fr.fresh b j bg
  ·simp only[ni,dL]at bg;subst bg;exact .inr c6
 ·obtain⟨t1,t2⟩:=h.fr.trn bz j b af;have cE:bz≠k:=fun e=>by subst e;rw[t2]at aS;cases aS
  exact⟨t1,by simp[aT.withRowOf,cE,t2]⟩
 ·obtain⟨dh,ed,hO⟩:=h.new m hm;refine⟨dh,?_,hO⟩;have:m≠k:=fun e=>by subst e;rw[ed]at aS;cases aS
  simp[aT.withRowOf,this,ed]
 ·simp only[aR];refine⟨⟨some ⟨bl,0,none⟩,cap,by simp[mu],by simp;omega,⟨rN,by simpa using fW⟩,.inr ⟨bl,0,us++ns,rfl,xY _ 0 fun j u al=>?_,Ad (Ae aj aD) (Ae aj PM)⟩⟩,fun e=>(by cases e),fun g e=>?_,fun _ _ e=>(by cases e),fun _ e=>(by cases e)⟩
  ·have eS:=(cX.1 al).1;rw[nk];refine⟨.inr ⟨rfl,?_⟩,Bx j u al⟩;rw[dF,qM,je]at eS;rw[Nat.add_mul];exact eS
  ·cases e;exact⟨o.n+ys.length,.slice (some ⟨bl,0,none⟩) (o.n+ys.length) cap,by simp[aT.withRowOf],by simp[mu],fun _=>rfl⟩
theorem Gp{P:bW}{w:World}{t ty e:gx}{i:TypeInfo}(aI:P.underlying t=some (.slice e))(aw:P.info? e=some i)(b:be Addr)(n cap:Nat)(aK:n<=cap)(x:be Addr)(c:Nat):
  (sr #[t,t] ty #[.slice b n cap,.slice x 0 c]).run P w= .ok (.slice b n cap) w:=by
 cases b<;>cases x<;>simp[sr,run_underlying aI,sizeOf,typeInfo,aw,Builtin.lenOf,aK,Builtin.firstCells,loadCells,loadCellsFrom,storeCells]
inductive dG where
 |v (d:Nat) (i:fD)
 |box (d:Nat) (key:be Nat) (x:cS)
 |alloc (d:Nat) (key:be Nat) (zero:ag)
 |store (sz:Nat) (x y:cS)
 |bsl (d:Nat) (sz el:Nat) (xs:List cS)
 |app (d:Nat) (sz el:Nat) (x y:cS)
 |bslm (d:Nat) (key:be Nat) (sz el:Nat) (xs:List cS)
 |appm (d:Nat) (key:be Nat) (sz el:Nat) (x y:cS)
 |mkmap (d:Nat) (key:be Nat)
 |mput (b0:jN) (x k v:cS)
 |range (d:Nat) (key:be Nat) (x:cS)
 |storeE (sz:Nat) (x y:cS)
 |mks (d:Nat) (key:be Nat) (sz el:Nat) (z:ag) (x:cS)
 |apps (d el:Nat) (x y:cS)
def iy(st:bb):be Nat->aJ
 |none=>.loc st.n
 |some m=>.obj m
def pX(st:bb):be Nat->Prop
 |none=>.loc st.n∉st.o
 |some m=>.obj m∉st.o
def mX(st:bb):be Nat->Nat
 |none=>st.n+1
 |some _=>st.n
def mY(st:bb):be Nat->List aJ
 |none=>st.o
 |some m=>.obj m::st.o
theorem wc{st:bb}{key:be Nat}(h:pX st key):fresh st.n st.o (iy st key):=by cases key<;>simp[iy,fresh,pX]at h⊢ <;>exact h
theorem we{st:bb}{key:be Nat}:∀j,fresh (mX st key) (mY st key) j->fresh st.n st.o j/\j≠iy st key:=by
 intro j al;cases key<;>cases j<;>simp[fresh,mX,mY,iy]at al⊢
 ·exact⟨⟨Ω,al.2⟩,Ω⟩
 ·exact al
 ·exact al
 ·exact⟨al.2,al.1⟩
def qs(sz:Nat):List ag->Prop
 |[]=>True
 |p::bY=>(ez p=true/\(cells p).length=sz)/\qs sz bY
def uD(b0:jN)(k v:ag):List ag->be (List ag)
 | .hdm clock borns::kvs=>if zD b0 k=false then none else match x3 b0 k v kvs with
  |some (some vY)=>some (.hdm clock borns::vY)
  |some none=>some (.hdm (clock+1) (borns++[clock])::(kvs++[k,v]))
  |none=>none
 |_=>none
def CR(m:aJ):List ag->be (List ag)
 | .hdm clock _::_=>some [.hdi clock [] clock,.gmap m]
 |_=>none
def l6(st:bb)(sz el:Nat)(x y:ag):be ((be (aJ×List ag))×List ag):=
 match x,y with
 | .slice dj .nil _,.slice hR _ ys=>if dj=sz/\hR=sz then some (none,ys)else none
 | .row dj k n,.slice hR _ ys=>if dj=sz/\hR=sz then
   match look k st.e with
   |some ⟨n',eJ,tv,some xs⟩=>if n'=n/\eJ=el/\tv=sz then some (some (k,xs),ys)else none
   |_=>none
  else none
 |_,_=>none
def qZ:ag->Nat->List ag->ag
 | .agg dP,f,cs=>.agg (oz dP f cs)
 |_,_,[q]=>q
 |_,_,_=>.junk
def q2(st:bb)(sz:Nat)(p v:ag):be (Prop×bb):=
 match p with
 | .rptr dj k n i f=>match look k st.e with
  |some ⟨n',el,hR,some xs⟩=>if n'=n/\hR=dj then
    match xs[i]? with
    |some q=>some (ez q=true/\ez v=true/\(cells v).length=sz/\f+sz<=(cells q).length/\0<sz,{st with e:=cR k ⟨n',el,hR,some (xs.set i (qZ q f (cells v)))⟩ st.e})
    |none=>none
   else none
  |_=>none
 |_=>none
def fK(s:List aF):List ag:=s.map fun c=>.int .u8 c.toNat
def AW(st:bb)(d el:Nat)(x y:ag):be (Prop×bb):=
 match x,y with
 | .row sz k n,.str s=>match look k st.e with
  |some ⟨n',eJ,dj,some xs⟩=>if n'=n/\eJ=el/\dj=1/\sz=1 then some (xs.length+s.length<=bA,
    {st with t:=put d (.row 1 k (xs.length+s.length)) st.t,e:=cR k ⟨xs.length+s.length,el,1,some (xs++fK s)⟩ st.e})else none
  |_=>none
 | .slice sz .nil _,.str s=>if sz=1 then some ((.obj 862∉st.o)/\s≠[]/\s.length<=bA,
   {t:=put d (.row 1 (.obj 862) s.length) st.t,b:=st.b,e:=cR (.obj 862) ⟨s.length,el,1,some (fK s)⟩ st.e,n:=st.n,o:= .obj 862::st.o})else none
 |_,_=>none
def lu(st:bb):dG->be (Prop×bb)
 | .mks d key sz el z x=>match bL st.t x with
  | .int _ n=>some (pX st key/\0<=n/\n<=bA,
    {t:=put d (.row sz (iy st key) n.toNat) st.t,b:=st.b,e:=cR (iy st key) ⟨n.toNat,el,sz,some (List.replicate n.toNat z)⟩ st.e,n:=mX st key,o:=mY st key})
  |_=>none
 | .bslm d key sz el xs=>some (pX st key/\qs sz (xs.map (bL st.t)),
   {t:=put d (.row sz (iy st key) xs.length) st.t,b:=st.b,e:=cR (iy st key) ⟨xs.length,el,sz,some (xs.map (bL st.t))⟩ st.e,n:=mX st key,o:=mY st key})
 | .appm d key sz el x y=>match l6 st sz el (bL st.t x) (bL st.t y)with
  |some (none,ys)=>some (pX st key/\ys.length<=bA/\ys≠[],
    {t:=put d (.row sz (iy st key) ys.length) st.t,b:=st.b,e:=cR (iy st key) ⟨ys.length,el,sz,some ys⟩ st.e,n:=mX st key,o:=mY st key})
  |some (some (k,xs),ys)=>some (xs.length+ys.length<=bA,{st with t:=put d (.row sz k (xs.length+ys.length)) st.t,e:=cR k ⟨xs.length+ys.length,el,sz,some (xs++ys)⟩ st.e})
  |none=>none
 | .mkmap d key=>some (pX st key,{t:=put d (.gmap (iy st key)) st.t,b:=cR (iy st key) [.hdm 0 []] st.b,e:=st.e,n:=mX st key,o:=mY st key})
 | .mput b0 x k v=>match bL st.t x with
  | .gmap m=>match look m st.b with
   |some cs=>match uD b0 (bL st.t k) (bL st.t v) cs with
    |some cs'=>some (True,{st with b:=cR m cs' st.b})
    |none=>none
   |none=>none
  |_=>none
 | .range d key x=>match bL st.t x with
  | .gmap m=>match look m st.b with
   |some cs=>match CR m cs with
    |some cs'=>some (pX st key,{t:=put d (.ptr (iy st key) 0) st.t,b:=cR (iy st key) cs' st.b,e:=st.e,n:=mX st key,o:=mY st key})
    |none=>none
   |none=>none
  |_=>none
 | .v d i=>match gB st i with
  |some (c,p)=>some (c,{st with t:=put d p st.t})
  |none=>none
 | .storeE sz x y=>q2 st sz (bL st.t x) (bL st.t y)
 | .apps d el x y=>AW st d el (bL st.t x) (bL st.t y)
 | .box d key x=>some (pX st key/\ez (bL st.t x)=true,
   {t:=put d (.ptr (iy st key) 0) st.t,b:=cR (iy st key) (cells (bL st.t x)) st.b,e:=st.e,n:=mX st key,o:=mY st key})
 | .alloc d key z=>some (pX st key,{t:=put d (.ptr (iy st key) 0) st.t,b:=cR (iy st key) (cells z) st.b,e:=st.e,n:=mX st key,o:=mY st key})
 | .store sz x y=>match bL st.t x with
  | .ptr k off=>match look k st.b with
   |some cs=>some (iB cs=true/\ez (bL st.t y)=true/\(cells (bL st.t y)).length=sz/\off+sz<=cs.length,{st with b:=cR k (oz cs off (cells (bL st.t y))) st.b})
   |none=>none
  |p=>q2 st sz p (bL st.t y)
 | .bsl d sz el xs=>some (pX st none/\qs sz (xs.map (bL st.t)),
   {st with t:=put d (.slice sz (.own (.loc st.n)) (xs.map (bL st.t))) st.t,e:=cR (.loc st.n) ⟨xs.length,el,sz,none⟩ st.e,n:=st.n+1})
 | .app d sz el x y=>match bL st.t x,bL st.t y with
  | .slice dj tag xs,.slice hR _ ys=>if dj=sz/\hR=sz then
    match tag with
    | .own k=>match look k st.e with
     |some o=>some (o.n=xs.length/\o.el=el/\o.sz=sz/\xs.length+ys.length<=bA,
       {st with t:=put d (.slice sz (.own k) (xs++ys)) st.t,e:=cR k ⟨xs.length+ys.length,el,sz,none⟩ st.e})
     |none=>none
    | .nil=>some (pX st none/\ys.length<=bA,{st with t:=put d (.slice sz (.own (.loc st.n)) ys) st.t,e:=cR (.loc st.n) ⟨ys.length,el,sz,none⟩ st.e,n:=st.n+1})
    |_=>none
   else none
  |_,_=>none
def dY(κ:aJ)(n':Nat)(o':List aJ)(st:bb):dG->be (Prop×bb)
 | .mks d _ sz el z x=>match bL st.t x with
  | .int _ n=>some (0<=n/\n<=bA,
    {t:=put d (.row sz κ n.toNat) st.t,b:=st.b,e:=cR κ ⟨n.toNat,el,sz,some (List.replicate n.toNat z)⟩ st.e,n:=n',o:=o'})
  |_=>none
 | .bslm d _ sz el xs=>some (qs sz (xs.map (bL st.t)),
   {t:=put d (.row sz κ xs.length) st.t,b:=st.b,e:=cR κ ⟨xs.length,el,sz,some (xs.map (bL st.t))⟩ st.e,n:=n',o:=o'})
 | .appm d _ sz el x y=>match l6 st sz el (bL st.t x) (bL st.t y)with
  |some (none,ys)=>some (ys.length<=bA/\ys≠[],
    {t:=put d (.row sz κ ys.length) st.t,b:=st.b,e:=cR κ ⟨ys.length,el,sz,some ys⟩ st.e,n:=n',o:=o'})
  |some (some (k,xs),ys)=>some (xs.length+ys.length<=bA,{st with t:=put d (.row sz k (xs.length+ys.length)) st.t,e:=cR k ⟨xs.length+ys.length,el,sz,some (xs++ys)⟩ st.e})
  |none=>none
 | .mkmap d _=>some (True,{t:=put d (.gmap κ) st.t,b:=cR κ [.hdm 0 []] st.b,e:=st.e,n:=n',o:=o'})
 | .mput b0 x k v=>match bL st.t x with
  | .gmap m=>match look m st.b with
   |some cs=>match uD b0 (bL st.t k) (bL st.t v) cs with
    |some cs'=>some (True,{st with b:=cR m cs' st.b})
    |none=>none
   |none=>none
  |_=>none
 | .range d _ x=>match bL st.t x with
  | .gmap m=>match look m st.b with
   |some cs=>match CR m cs with
    |some cs'=>some (True,{t:=put d (.ptr κ 0) st.t,b:=cR κ cs' st.b,e:=st.e,n:=n',o:=o'})
    |none=>none
   |none=>none
  |_=>none
 | .v d i=>match gB st i with
  |some (c,p)=>some (c,{st with t:=put d p st.t})
  |none=>none
 | .storeE sz x y=>q2 st sz (bL st.t x) (bL st.t y)
 | .apps d el x y=>AW st d el (bL st.t x) (bL st.t y)
 | .box d _ x=>some (ez (bL st.t x)=true,{t:=put d (.ptr κ 0) st.t,b:=cR κ (cells (bL st.t x)) st.b,e:=st.e,n:=n',o:=o'})
 | .alloc d _ z=>some (True,{t:=put d (.ptr κ 0) st.t,b:=cR κ (cells z) st.b,e:=st.e,n:=n',o:=o'})
 | .store sz x y=>match bL st.t x with
  | .ptr k off=>match look k st.b with
   |some cs=>some (iB cs=true/\ez (bL st.t y)=true/\(cells (bL st.t y)).length=sz/\off+sz<=cs.length,{st with b:=cR k (oz cs off (cells (bL st.t y))) st.b})
   |none=>none
  |p=>q2 st sz p (bL st.t y)
 | .bsl d sz el xs=>some (qs sz (xs.map (bL st.t)),
   {st with t:=put d (.slice sz (.own κ) (xs.map (bL st.t))) st.t,e:=cR κ ⟨xs.length,el,sz,none⟩ st.e,n:=n',o:=o'})
 | .app d sz el x y=>match bL st.t x,bL st.t y with
  | .slice dj tag xs,.slice hR _ ys=>if dj=sz/\hR=sz then
    match tag with
    | .own k=>match look k st.e with
     |some o=>some (o.n=xs.length/\o.el=el/\o.sz=sz/\xs.length+ys.length<=bA,
       {st with t:=put d (.slice sz (.own k) (xs++ys)) st.t,e:=cR k ⟨xs.length+ys.length,el,sz,none⟩ st.e})
     |none=>none
    | .nil=>some (ys.length<=bA,{st with t:=put d (.slice sz (.own κ) ys) st.t,e:=cR κ ⟨ys.length,el,sz,none⟩ st.e,n:=n',o:=o'})
    |_=>none
   else none
  |_,_=>none
def wm:Nat->List cS->List (Nat×Operand)->Bool
 |_,[],[]=>true
 |i,x::xs,(j,o)::os=>i==j&&dS x o&&wm (i+1) xs os
 |_,_,_=>false
def dG.bok(κ:aJ):dG->Prop
 | .mkmap _ _| .range _ _ _=>κ≠ .obj 861
 | .alloc _ key _| .box _ key _=>κ= .obj 861->key=some 861
 |_=>True
theorem FK{st:bb}{key:be Nat}(h:iy st key= .obj 861):key=some 861:=by cases key<;>simp[iy]at h⊢;exact h
def q0(N:Nat)(bs:List (Nat×du))(i:dG)(o:Oper):Bool:=
 match i,o.op with
 | .mkmap d key,.makeMap _ none=>o.dst==some d&&decide (d<N)&&key !=some 861
 | .mput b0 x k v,.mapUpdate t lZ kh ou=>o.dst==none&&(match dE bs t with|some ⟨_,_,.map mv _,_⟩=>xW bs b0 mv|_=>false)&&dS x lZ&&dS k kh&&dS v ou
 | .mput b0 x k v,.insert t lZ kh ou=>o.dst==none&&(match dE bs t with|some ⟨_,_,.map mv _,_⟩=>xW bs b0 mv|_=>false)&&dS x lZ&&dS k kh&&dS v ou
 | .range d key x,.range t lZ=>o.dst==some d&&decide (d<N)&&(match dE bs t with|some ⟨_,_,.map _ _,_⟩=>true|_=>false)&&dS x lZ&&key !=some 861
 | .v d i,op=>o.dst==some d&&decide (d<N)&&C7 bs i op
 | .box d key x,.box el o'=>o.dst==some d&&decide (d<N)&&dS x o'&&(key !=some 861||el==C6)
 | .alloc d key z,.alloc el=>o.dst==some d&&decide (d<N)&&(match dE bs el with|some f=>AA z f.zero|none=>false)&&(key !=some 861||el==C6)
 | .store sz x y,.store t o' hf=>o.dst==none&&(match dE bs t with|some f=>f.size==sz|none=>false)&&dS x o'&&dS y hf
 | .bsl d sz el xs,.buildSlice t len parts=>o.dst==some d&&decide (d<N)&&(match dE bs t with|some ⟨_,_,.slice eJ,_⟩=>el==eJ|_=>false)&&(match dE bs el with|some f=>f.size==sz&&decide (0<sz)|none=>false)
   &&len==xs.length&&decide (len*sz<=16777216)&&wm 0 xs parts.toList
 | .app d sz el x y,.call ⟨.builtin .append,⟨[o',hf]⟩,⟨[t,eB]⟩⟩=>o.dst==some d&&decide (d<N)&&t==eB&&(match dE bs t with|some ⟨_,_,.slice eJ,_⟩=>el==eJ|_=>false)
   &&(match dE bs el with|some f=>f.size==sz&&decide (0<sz)&&decide (f.bytes<=2048)|none=>false)&&dS x o'&&dS y hf
 | .bslm d _ sz el xs,.buildSlice t len parts=>o.dst==some d&&decide (d<N)&&(match dE bs t with|some ⟨_,_,.slice eJ,_⟩=>el==eJ|_=>false)&&(match dE bs el with|some f=>f.size==sz&&decide (0<sz)|none=>false)
   &&len==xs.length&&decide (len*sz<=16777216)&&wm 0 xs parts.toList
 | .appm d _ sz el x y,.call ⟨.builtin .append,⟨[o',hf]⟩,⟨[t,eB]⟩⟩=>o.dst==some d&&decide (d<N)&&t==eB&&(match dE bs t with|some ⟨_,_,.slice eJ,_⟩=>el==eJ|_=>false)
   &&(match dE bs el with|some f=>f.size==sz&&decide (0<sz)&&decide (f.bytes<=2048)|none=>false)&&dS x o'&&dS y hf
 | .storeE sz x y,.store t o' hf=>o.dst==none&&(match dE bs t with|some f=>f.size==sz|none=>false)&&dS x o'&&dS y hf
 | .apps d el x y,.call ⟨.builtin .append,⟨[o',hf]⟩,⟨[t,eB]⟩⟩=>o.dst==some d&&decide (d<N)&&(match dE bs t with|some ⟨_,_,.slice eJ,_⟩=>el==eJ|_=>false)&&(match dE bs eB with|some ⟨_,_,.str,_⟩=>true|_=>false)
   &&(match dE bs el with|some f=>f.size==1&&decide (f.bytes<=2048)|none=>false)&&dS x o'&&dS y hf
 | .mks d _ sz el z x,.makeSlice t o' hf=>o.dst==some d&&decide (d<N)&&(match dE bs t with|some ⟨_,_,.slice eJ,_⟩=>el==eJ|_=>false)
   &&(match dE bs el with|some f=>f.size==sz&&decide (0<sz)&&decide (f.bytes<=2048)&&AA z f.zero|none=>false)&&dS x o'&&dS x hf
 |_,_=>false
theorem Ty{w:World}{ν:aT}{C:eH}{st:bb}{a:Act}(hr:ct C st a w ν){sz:Nat}:
  ∀(xs:List cS) (i:Nat) (os:List (Nat×Operand)) (pre:List ag) (us:Array Value) (vs:List Value),wm i xs os=true->qs sz (xs.map (bL st.t))->us.toList.take (i*sz)=vs->cI w ν sz pre vs->i=pre.length->us.size=(i+xs.length)*sz->
  ∃bF:Array Value,Instr.fill (fun i=>some (i*sz,sz)) us (os.map fun(x:Nat×Operand)=>(x.1,a.eval x.2))=some bF/\cI w ν sz (pre++xs.map (bL st.t)) bF.toList/\bF.size=us.size
 |[],i,[],pre,us,vs,_,_,aS,h,aw,ao=>by refine⟨us,by simp[Instr.fill],?_,rfl⟩;have aE:=qW h;have:us.toList.take (i*sz)=us.toList:=pw (by simp at ao⊢;omega);rw[this]at aS;simpa[aS]using h
 |[],_,_::_,_,_,_,ec,_,_,_,_,_=>by simp[wm]at ec
 |_::_,_,[],_,_,_,ec,_,_,_,_,_=>by simp[wm]at ec
 |x::xs,i,(j,o)::os,pre,us,vs,ec,b4,aS,h,aw,ao=>by
  simp only[wm,bB,dO]at ec;obtain⟨⟨rfl,I⟩,J⟩:=ec;simp only[eQ,qs]at b4;obtain⟨⟨Je,hlen⟩,b4⟩:=b4;have ad:=dT hr I;have lK:=uU ad Je;have mi:=pf lK;have cT:(a.eval o).cells.size=sz:=by rw[hlen]at mi;simpa using mi
  have hmul:i*sz+sz<=us.size:=by rw[ao,e3,show i+(xs.length+1)=(i+1)+xs.length from by omega,Nat.add_mul,Nat.succ_mul];omega
  have s5:=H3 (w:=w) (ν:=ν) (a.eval o).cells.toList 0 (i*sz) us (by simp[cT];omega);have rU:cI w ν sz (pre++[bL st.t x]) (vs++(a.eval o).cells.toList):=by refine Ad h ?_;simp only[cI];exact⟨a.eval o,[],Ψ,⟨ad,cT,Ag lK⟩,rfl⟩
  have o4:vs.length=i*sz:=by rw[<-aS];simp;omega
  obtain⟨bF,g1,g2,g3⟩:=Ty hr xs (i+1) os (pre++[bL st.t x]) (((a.eval o).cells.toList.zipIdx 0).foldl (fun cs (x:Value×Nat)=>cs.setIfInBounds (i*sz+x.2) x.1) us) (vs++(a.eval o).cells.toList) J b4
   (by
    rw[s5];simp only[Nat.add_zero];rw[aS];have:(vs++(a.eval o).cells.toList).length=(i+1)*sz:=by rw[dF,o4,Nat.succ_mul];simp[cT]
    rw[<-this,List.take_append_of_le_length (da _),jl]) rU (by simp[aw])
   (by have bD:=fT List.length s5;simp only[Array.length_toList,dF,pt,kH,cT]at bD;rw[bD,ao,e3,show i+(xs.length+1)=i+1+xs.length from by omega];rw[ao,e3,show i+(xs.length+1)=i+1+xs.length from by omega]at hmul;omega)
  refine⟨bF,?_,by simpa using g2,?_⟩
  ·simp only[eQ,Instr.fill];rw[bf (by simp[cT];omega),<-g1];congr 1;rw[<-Array.foldl_toList];simp
  ·rw[g3];have bD:=fT List.length s5;simp only[Array.length_toList,dF,pt,kH,cT]at bD;rw[bD];omega
theorem afj{P:bW}(w:World)(t pj ty e:gx)(i:TypeInfo)(aI:P.underlying t=some (.slice e))(hu:P.underlying pj=some .string)(aw:P.info? e=some i)(Em:i.size=1)
  (g yo K3:Nat) (cur:Array Value) (aO:w.heap[g]? =some (.cells cur e (0,0))) (s:kG) (nD:yo+s.size<=K3) (aao:yo+s.size<=cur.size):
  (sr #[t,pj] ty #[.slice (some ⟨g,0,none⟩) yo K3,.string s]).run P w=
   .ok (.slice (some ⟨g,0,none⟩) (yo+s.size) K3) (w.setRow g (cur.toList.take yo++byteCells s++cur.toList.drop (yo+s.size)).toArray):=by
 have B1:=Src.ofString (P:=P) w hu s;have eZ:=run_storeCells_at P g yo e (byteCells s) 0 cur w aO (by simpa[byteCells_length]using aao) B1.one;simp only[Nat.add_zero,byteCells_length]at eZ;simp[sr,run_underlying aI,run_underlying hu,sizeOf,typeInfo,aw,Em,B1.len,nD,B1.cells,Addr.add_lit,eZ]
theorem Tv{P:bW}(w:World)(t pj ty e:gx)(i:TypeInfo)(z:Value)(aI:P.underlying t=some (.slice e))(hu:P.underlying pj=some .string)(aw:P.info? e=some i)(cn:i.zero=some z)(Em:i.size=1)(pV:z.cells.size=1)
  (v:Value) (n:Nat) (xs:List Value) (kc:w.ownsRow 0 e 1 v n xs) (s:kG) (cap:Nat) (base:be Addr) (aS:v= .slice base n cap) (rN:cap<n+s.size) (zj:n+s.size<=maxLen) (mO:(n+s.size)*i.bytes<=140737488355328):
  ∃v' w',(sr #[t,pj] ty #[v,.string s]).run P w= .ok v' w'/\w'.ownsRow w.heap.size e 1 v' (n+s.size) (xs++byteCells s)/\w.grownBy w' none:=by
 subst aS;have B1:=Src.ofString (P:=P) w hu s;have mu:xs.length=n:=by simpa using kc.1
 have hold:(Builtin.firstCells i.size n (.slice base n cap)).run P w.drew= .ok xs.toArray w.drew:=by
  rw[Em];rcases kc.2 with⟨aq,rfl⟩|⟨g,w8,cur,aq,aiH,aO,xL,zp,cT,Ji⟩
  ·injection aq with aq aU bR;subst aq;have:xs=[]:=l3 mu;subst this;exact run_firstCells_none w.drew 1 0 0 cap
  ·have DV:=aq;injection aq with aq aU bR;subst aq;refine run_firstCells_some w.drew 1 n _ n cap xs Ω fun j u al=>?_;have:=kc.cells (g:=g) rfl j u al;simpa using this
 have hr:=run_append_grow_src (P:=P) w t pj ty e i z aI aw cn base n cap xs hold (.string s) s.size (byteCells s) (by rw[Em];exact B1) rN (by simp only[maxLen]at zj;omega) (growslice_fits Ω mO);have jc:=grownCap_ge w (n+s.size) cap e;have zp:grownCap w (n+s.size) cap e<=maxLen:=grownCap_le_maxLen w (n+s.size) cap e zj;refine⟨_,_,hr,⟨by simp[byteCells_length,mu],.inr ⟨w.heap.size,_,_,rfl,da _,heap_alloc_new w.drew _,jc,zp,?_,?_⟩⟩,⟨rfl,rfl,rfl,Ψ,fun k aa _=>heap_alloc_old w.drew _ aa⟩⟩
 ·simp only[Array.size_append,List.size_toArray,size_zeroCells,pV,dF,byteCells_length,mu];omega
 ·simp only[Array.toList_append,List.toList_toArray];rw[List.take_left' (by simp[byteCells_length,mu])]
theorem KS(w:World)(ν:aT):∀s:List aF,cI w ν 1 (fK s) (s.map fun c=>mE .u8 c.toNat)
 |[]=>by simp[fK,cI]
 |c::s=>by have:=KS w ν s;simp only[fK,eQ,cI]at this⊢;exact⟨.int .u8 c.toNat,_,rfl,⟨by simp[aR],rfl,by intro x ad;simp[l1]at ad;subst ad;rfl⟩,this⟩
theorem kn{P:bW}{o:Oper}{a:Act}{w w':World}{v:Value}{K:Act->World->Prop}{Q:Exit->Act->World->Prop}(h:(execOp a.eval o).run P w= .ok (.value v) w')(aa:K (a.put o.dst v) w'):o.wp P a w K Q:=by unfold Oper.wp;rw[h];exact aa
theorem Df{P:bW}{o:Oper}{a:Act}{w w':World}{K:Act->World->Prop}{Q:Exit->Act->World->Prop}(h:(execOp a.eval o).run P w= .ok .skip w')(aa:K (a.put o.dst undef) w'):o.wp P a w K Q:=by unfold Oper.wp;rw[h];exact aa
theorem C9{P:bW}{w w':World}{x:Sem Value}{v:Value}(h:x.run P w= .ok v w'):(do pure (Next.value (<-x)):Sem Next).run P w= .ok (.value v) w':=by simp[h]
theorem Tw{P:bW}{bs:List (Nat×du)}(aI:fS P bs=true){C:eH}{st:bb}{a:Act}{w:World}{ν:aT}(hr:ct C st a w ν){t el:Nat}{f g:du}(aM:dE bs t=some f)(aa:f.kind= .slice el)(aO:dE bs el=some g)
  {xs:List cS} {os:List (Nat×Operand)} (ec:wm 0 xs os=true) (ev:qs g.size (xs.map (bL st.t))) (hlen:xs.length*g.size<=16777216):
  ∃us:Array Value,(Instr.buildSlice t xs.length (os.map fun(x:Nat×Operand)=>(x.1,a.eval x.2)).toArray).run P w= .ok (.slice (some ⟨w.heap.size,0,none⟩) xs.length xs.length) (w.alloc (.cells us el))/\
   cI w ν g.size (xs.map (bL st.t)) us.toList/\us.size=xs.length*g.size:=by
 obtain⟨d,a7,eY⟩:=hg aI aM;rw[aa]at eY;obtain rfl:=qB eY;obtain⟨_,ao⟩:=u4 aI aO w;obtain⟨z,abD,QA,ai8⟩:=Lo aI aO w;have aK:¬xs.length*g.size>2 ^ 24:=Ω
 let init:Array Value:=if xs.length*g.size=0 then(Array.range (xs.length*g.size)).map ((#[]:Array Value)[· %(#[]:Array Value).size]!)else(Array.range (xs.length*g.size)).map (z.cells[· %z.cells.size]!)
 have P2:init.size=xs.length*g.size:=by simp only[init];split<;>simp
 obtain⟨bF,g1,g2,g3⟩:=Ty (a:=a) hr xs 0 os [] init [] ec ev Ψ (by simp[cI]) rfl (by rw[P2];simp);refine⟨bF,?_,by simpa using g2,by rw[g3,P2]⟩;simp only[init]at g1;by_cases bD:xs.length*g.size=0
 ·rw[bN bD]at g1;rw[bD]at g1;have Bm:¬(0:Nat)>2 ^ 24:=by decide
  simp only[Instr.buildSlice,e2,run_underlying a7,e8,ao,if_false,fC,bD,if_true,Bm,g1,newRow,run_newObj];rfl
 ·rw[bf bD]at g1;simp only[Instr.buildSlice,e2,run_underlying a7,e8,ao,aK,if_false,fC,bD,abD,g1,newRow,run_newObj];rfl
theorem Cu{P:bW}{w:World}{ν:aT}{b0:jN}{t:gx}(a7:tG P b0 t){k v:ag}{fo LM:Value}(aa:aR w ν k fo)(aS:aR w ν v LM):
  ∀(borns:List Nat) (kvs:List ag) (us:List Value) (i:Nat) (r:be (List ag)),cD w ν kvs us->kvs.length=2*borns.length->x3 b0 k v kvs=some r->
  match r with
  |none=>hU P w b0 t fo (fk borns us) i none
  |some vY=> ∃j u bF e,hU P w b0 t fo (fk borns us) i (some (i+j,u))/\cD w ν vY bF/\vY.length=kvs.length/\(fk borns us)[j]? =some e/\e.key=fo/\Instr.sameBits 10000 e.key fo=true/\fk borns bF=(fk borns us).modify j (fun e=>{e with key:=fo,val:=LM})
 |[],[],us,i,r,h,_,hm=>by simp only[x3]at hm;cases hm;simp only[cD]at h;subst h;simpa[fk]using hU.nil P w b0 t fo i
 |[],_::_,_,_,_,_,aE,_=>by simp at aE
 |b::eE,[],_,_,_,_,aE,_=>by simp at aE
 |b::eE,[_],_,_,_,_,aE,_=>by simp at aE;omega
 |b::eE,bz::v'::kvs,us,i,r,h,aE,hm=>by
  simp only[cD]at h;obtain⟨iq,Au,rfl,I,h7,pn,rfl,J,av⟩:=h;simp only[x3]at hm;simp only[fk];cases bG:vW b0 k bz with
  |none=>simp[bG]at hm
  |some hD=>
   obtain⟨s1,s2⟩:=Ra a7 aa I bG;simp only[bG]at hm;cases hD with
   |true=>simp only[dL]at hm;subst hm;obtain⟨rfl,Ak⟩:=s2 rfl;refine⟨0,h7,iq::LM::pn,⟨iq,h7,b⟩,hU.hit (e:=⟨iq,h7,b⟩) s1,?_,Ψ,Ψ,rfl,Ak,by simp[fk]⟩;simp only[cD];exact⟨_,_,rfl,aa,_,_,rfl,aS,av⟩
   |false=>
    simp only at hm;have a8:=fun dt dv=>Cu a7 aa aS eE kvs pn (i+1) dt av (by simp at aE;omega) dv;split at hm
    ·rename_i dt dv;cases hm;obtain⟨j,u,bF,e,g1,g2,g3,g4,g5,g6,g7⟩:=a8 _ dv;refine⟨j+1,u,iq::h7::bF,e,hU.miss (e:=⟨iq,h7,b⟩) s1 (by rw[show i+(j+1)=i+1+j from by omega];exact g1),?_,by simp[g3],by simpa using g4,g5,g6,by simp[fk,g7]⟩;simp only[cD];exact⟨_,_,rfl,I,_,_,rfl,J,g2⟩
    ·rename_i dv;cases hm;exact hU.miss (e:=⟨iq,h7,b⟩) s1 (a8 _ dv)
    ·cases hm
theorem HL:∀(borns:List Nat) (us:List Value) (b:Nat) (k v:Value),us.length=2*borns.length->fk (borns++[b]) (us++[k,v])=fk borns us++[⟨k,v,b⟩]
 |[],us,b,k,v,h=>by have:us=[]:=l3 (by simpa using h);subst this;simp[fk]
 |fy::eE,[],b,k,v,h=>by simp at h
 |fy::eE,[_],b,k,v,h=>by simp at h;omega
 |fy::eE,bz::v'::us,b,k,v,h=>by simp only[iT,fk,HL eE us b k v (by simp at h;omega)]
theorem KX{w:World}{ν:aT}:∀{bY bM:List ag} {vs us:List Value},cD w ν bY vs->cD w ν bM us->cD w ν (bY++bM) (vs++us)
 |[],bM,vs,us,h,cr=>by simp only[cD]at h;subst h;simpa using cr
 |p::bY,bM,vs,us,h,cr=>by simp only[cD]at h;obtain⟨u,bF,rfl,I,J⟩:=h;simp only[iT,cD];exact⟨u,_,rfl,I,KX J cr⟩
theorem Gj{w:World}{ν:aT}:∀{bY:List ag} {vs:List Value},cD w ν bY vs->vs.length=bY.length
 |[],vs,h=>by simp only[cD]at h;subst h;rfl
 |p::bY,vs,h=>by simp only[cD]at h;obtain⟨u,bF,rfl,_,J⟩:=h;simp[Gj J]
theorem CZ{P:bW}{w:World}{r:Nat}{o o':Obj}(af:w.heap[r]? =some o)(aK:∀c e f,o≠ .cells c e f:=by simp):(setObj r o').run P w= .ok () {w with heap:=w.heap.setIfInBounds r o'}:=by simp only[setObj,Sem.run,af]
def dG.makes(st:bb):dG->Bool
 | .box _ _ _| .alloc _ _ _| .bsl _ _ _ _| .bslm _ _ _ _ _| .mkmap _ _| .range _ _ _| .mks _ _ _ _ _ _=>true
 | .appm _ _ _ _ x _=>match bL st.t x with
  | .slice _ .nil _=>true
  |_=>false
 | .app _ _ _ x _=>match bL st.t x with
  | .slice _ .nil _=>true
  |_=>false
 |_=>false
theorem ct.forgetRow{C:eH}{st:bb}{a:Act}{w:World}{ν:aT}(hr:ct C st a w ν){k:aJ}{ow:dw}(aa:look k st.e=some ow):ct C {st with e:=cR k ⟨ow.n,ow.el,ow.sz,none⟩ st.e} a w ν:=by
 have ih:∀g,(look g (cR k ⟨ow.n,ow.el,ow.sz,none⟩ st.e)).isSome->(look g st.e).isSome:=fun g aO=>by
  rw[jr]at aO;split at aO
  ·rename_i e;subst e;simp[aa]
  ·exact aO
 refine⟨⟨hr.good.alt,hr.good.box,hr.good.inj,fun g o aO=>?_,fun g eK n n' v v' bl bV a2=>hr.good.oinj g eK n n' v v' bl (ih g bV) (ih eK a2),fun g j n v bl bV=>hr.good.obx g j n v bl (ih g bV),hr.good.one,fun bl af=>hr.good.otr bl (af.imp id (fun⟨g,n,v,bV,a2⟩=>⟨g,n,v,ih g bV,a2⟩))⟩,hr.fr,hr.defers,hr.size,hr.slot,hr.new,hr.ext,hr.obk⟩;simp only at aO;rw[jr]at aO;split at aO
 ·rename_i e;subst e;cases aO;obtain⟨v,us,b9,cx,dp,_⟩:=hr.good.own k ow aa;exact⟨v,us,b9,cx,dp,fun xs ad=>by cases ad⟩
 ·exact hr.good.own g o aO
theorem FX{w:World}{base el sz n:Nat}{v:Value}{us:List Value}(h:w.ownsRow base el sz v n us)(aK:0<n):∃b cap,v= .slice (some ⟨b,0,none⟩) n cap:=by
 rcases h.2 with⟨aq,aU⟩|⟨hD,cap,cur,f1,_⟩
 ·omega
 ·exact⟨_,_,f1⟩
theorem Tk{w:World}{ν:aT}{sz:Nat}:∀{xs:List ag} {us:List Value} {i:Nat} {q iC:ag} {e7:Value},cI w ν sz xs us->xs[i]? =some q->aR w ν iC e7->e7.cells.size=sz->(∀c∈e7.cells.toList,c.oneCell'=true)->cI w ν sz (xs.set i iC) (us.take (i*sz)++e7.cells.toList++us.drop (i*sz+sz))
 |[],_,_,_,_,_,_,bG,_,_,_=>by simp at bG
 |x::xs,us,0,q,iC,e7,h,bG,hr,ao,aj=>by
  simp only[cI]at h;obtain⟨u,bF,rfl,⟨I,J,av⟩,bE⟩:=h;have aE:u.cells.toList.length=sz:=by simpa using J
  simp only[List.set_cons_zero,cI];refine⟨e7,bF,?_,⟨hr,ao,aj⟩,bE⟩;simp[<-aE]
 |x::xs,us,i+1,q,iC,e7,h,bG,hr,ao,aj=>by
  simp only[cI]at h;obtain⟨u,bF,rfl,⟨I,J,av⟩,bE⟩:=h;have aE:u.cells.toList.length=sz:=by simpa using J
  have a8:=Tk bE (by simpa using bG) hr ao aj;simp only[List.set_cons_succ,cI];refine⟨u,_,?_,⟨I,J,av⟩,a8⟩;have e:(i+1)*sz+sz=u.cells.toList.length+(i*sz+sz):=by rw[aE,Nat.succ_mul];omega
  rw[TT _ _ _ _ aE,e,<-List.drop_drop];simp
theorem afi{w:World}{ν:aT}{q:ag}{v:Value}(bG:aR w ν q v)(ao:ez q=true){cs:List ag}{us:List Value}(aD:cG w ν cs us){f:Nat}(aM:f+us.length<=v.cells.size)(cE:us≠[]):
  ∃v',aR w ν (qZ q f cs) v'/\v'.cells.toList=v.cells.toList.take f++us++v.cells.toList.drop (f+us.length)/\v'.cells.size=v.cells.size/\∀c∈v'.cells.toList,c.oneCell'=true:=by
 have hlen:=pf aD;have j4:=uU bG ao;by_cases b4:∃dP,q= .agg dP
 ·obtain⟨dP,rfl⟩:=b4;simp only[aR]at bG;obtain⟨vs,rfl,gh⟩:=bG;simp only[l1]at aM⊢;have lh:cG w ν (oz dP f cs) (vs.toList.take f++us++vs.toList.drop (f+us.length)):=by unfold oz;rw[hlen];exact yi (yi (CU f gh) aD) (Af _ gh)
  refine⟨.agg (vs.toList.take f++us++vs.toList.drop (f+us.length)).toArray,by simp only[qZ,aR];exact⟨_,rfl,by simpa using lh⟩,by simp[l1],?_,fun c mP=>?_⟩
  ·simp[l1];omega
  ·exact Ag lh c (by simpa[l1]using mP)
 ·have zl:∀cs,q≠ .agg cs:=fun cs e=>b4 ⟨cs,e⟩;obtain⟨I,J⟩:=KY bG ao zl;rw[J]at aM⊢;match us,cE,aD with
  |u::bF,_,aD=>
   simp at aM;obtain⟨rfl,rfl⟩:f=0/\bF=[]:=⟨Ω,List.length_eq_zero_iff.1 Ω⟩;match cs,aD,hlen with
   |[c],aD,_=>
    simp only[cG]at aD;obtain⟨nf,eN,aq,⟨Z3,PN⟩,_⟩:=aD;cases aq;have hu:u.cells= #[u]:=by cases u<;>first|rfl|cases PN
    have Jb:qZ q 0 [c]=c:=by cases q<;>first|rfl|exact absurd rfl (zl _)
    rw[Jb];refine⟨u,Z3,by simp[hu],by simp[hu],fun c mP=>?_⟩;rw[hu]at mP;simp at mP;subst mP;exact PN
theorem afJ{α:Type}(A us:List α)(a f sz N:Nat)(I:f+us.length<=sz)(J:a+sz<=N)(av:N<=A.length):
  ((A.take (a+f)++us++A.drop (a+f+us.length)).toArray.toList).take N=(A.take N).take a++((((A.take N).drop a).take sz).take f++us++(((A.take N).drop a).take sz).drop (f+us.length))++(A.take N).drop (a+sz):=by
 have aq:(A.take N).take a++(((A.take N).drop a).take sz).take f=A.take (a+f):=by rw[List.take_take (i:=f),Nat.min_eq_left (show f<=sz by omega),<-List.take_add,List.take_take,Nat.min_eq_left Ω]
 have aU:(((A.take N).drop a).take sz).drop (f+us.length)++(A.take N).drop (a+sz)=(A.take N).drop (a+f+us.length):=by
  have aE:f+us.length<=(((A.take N).drop a).take sz).length:=by simp;omega
  have ib:(A.take N).drop (a+sz)=((A.take N).drop a).drop sz:=by rw[List.drop_drop]
  rw[ib,<-List.drop_append_of_le_length aE,List.take_append_drop,List.drop_drop];congr 1;omega
 have bR:(A.take N).drop (a+f+us.length)=(A.drop (a+f+us.length)).take (N-(a+f+us.length)):=by rw[List.drop_take]
 have aE:(A.take (a+f)++us).length=a+f+us.length:=by simp;omega
 simp only[l2]at*;rw[aU,bR,<-l2 (List.take a _),aq];have ja:N=(A.take (a+f)++us).length+(N-(a+f+us.length)):=by rw[aE];omega
 rw[<-l2,<-l2];conv=>lhs;rw[ja,List.take_length_add_append]
theorem ct.storeRow{P:bW}{C:eH}{st:bb}{a:Act}{w:World}{ν:aT}(h:ct C st a w ν){k:aJ}{n el sz:Nat}{xs:List ag}(aa:look k st.e=some ⟨n,el,sz,some xs⟩){i f:Nat}{u:Value}(ad:aR w ν (.rptr sz k n i f) u){q:ag}(bG:xs[i]? =some q)(ao:ez q=true)
  {cs:List ag} {us:List Value} (aD:cG w ν cs us) (aM:f+us.length<=(cells q).length) (cE:us≠[]):
  ∃bl off l9,u= .pointer (some ⟨bl,off,none⟩)/\(storeCells ⟨bl,off,none⟩ us).run P w= .ok () (w.setRow bl l9)/\∃ν',ct C {st with e:=cR k ⟨n,el,sz,some (xs.set i (qZ q f cs))⟩ st.e} a (w.setRow bl l9) ν':=by
 simp only[aR]at ad;obtain⟨_,aw,n',e7,I,J,av⟩:=ad;obtain⟨v,eN,b9,cx,dp,c6⟩:=h.good.own k _ aa;rw[I]at b9;simp only[dL,gp]at b9;obtain⟨rfl,rfl⟩:=b9;obtain⟨bl,af,rfl⟩:=av rfl;obtain⟨cH,iD,p6⟩:=c6 xs rfl;simp only at cH iD;obtain⟨v,fp,fI,nb⟩:=Ge i iD bG;have mi:=pf (uU fp ao);have abe:(cells q).length=sz:=by rw[<-mi];simpa using fI
 have EH:f+us.length<=sz:=by rw[<-abe];exact aM
 have hmul:i*sz+sz<=n'*sz:=by have:=Nat.mul_le_mul_right sz (show i+1<=n' from aw);rwa[Nat.succ_mul]at this
 rcases cx.2 with⟨aq,aU⟩|⟨g,cap,cur,rfl,vH,IJ,xL,zp,cT,Ji⟩
 ·rw[aq]at af;simp[ni]at af
 simp only[ni,dL]at af;subst af;simp only at Ji cT xL IJ;have rN:n'*sz<=cur.size:=by rw[cT];exact Nat.mul_le_mul_right sz xL
 have eZ:=run_storeCells_at P g (i*sz+f) el us 0 cur w IJ Ω (Ag aD);simp only[Nat.add_zero]at eZ;refine⟨g,i*sz+f,_,rfl,eZ,?_⟩;generalize qF:(cur.toList.take (i*sz+f)++us++cur.toList.drop (i*sz+f+us.length)).toArray=l9;obtain⟨v',iA,hv,uL,CE⟩:=afi fp ao aD (f:=f) (by rw[fI];exact EH) cE;have lk:=Tk iD bG iA (by rw[uL,fI]) CE;have hlen:eN.length=n'*sz:=cx.1;have aa5:l9.toList.take (n'*sz)=eN.take (i*sz)++v'.cells.toList++eN.drop (i*sz+sz):=by rw[<-qF,hv,nb,<-Ji];exact afJ cur.toList us (i*sz) f sz (n'*sz) EH hmul (by simpa using rN)
 have Z2:l9.size=cap*sz:=by rw[<-qF,<-cT];simp;omega
 have aiY:(xs.set i (qZ q f cs)).length=n':=by simp[cH]
 obtain⟨CF,_,_⟩:=h.setRowM (w':=w.setRow g l9) aa rfl I (bl:=g) rfl (v':= .slice (some ⟨g,0,none⟩) n' cap) rfl (xs':=xs.set i (qZ q f cs)) (us:=eN.take (i*sz)++v'.cells.toList++eN.drop (i*sz+sz)) (.inl ⟨by simp[cH],rfl⟩) rfl rfl rfl (fun j al=>setRow_other w g j l9 al) (setRow_size w g l9)
  ⟨by rw[qW lk],.inr ⟨g,cap,l9,by simp[cH],Nat.zero_le _,setRow_heap w g cur l9 el _ IJ,by simpa[cH]using xL,zp,Z2,by simpa[cH]using aa5⟩⟩ lk
 exact⟨_,by simpa[cH]using CF⟩
theorem acF(z:Array Value)(n:Nat)(h:0<z.size):(madeCells z ((n+1)*z.size)).toList=z.toList++(madeCells z (n*z.size)).toList:=by
 apply List.ext_getElem?;intro j;rw[List.getElem?_append];have he:(n+1)*z.size=n*z.size+z.size:=by rw[Nat.add_mul,Nat.one_mul]
 simp only[madeCells,Array.getElem?_toList,Array.length_toList,Array.getElem?_map];by_cases al:j<z.size
 ·rw[bN al,Array.getElem?_range,bN Ω];simp[Nat.mod_eq_of_lt al,al]
 ·rw[bf al,Array.getElem?_range,Array.getElem?_range];by_cases aa:j<n*z.size+z.size
  ·rw[bN Ω,bN Ω];simp only[su];rw[<-Nat.mod_eq_sub_mod Ω]
  ·rw[bf Ω,bf Ω]
theorem Rw{w:World}{ν:aT}{p:ag}{z:Value}(hr:aR w ν p z)(h:0<z.cells.size)(aj:∀c∈z.cells.toList,c.oneCell'=true):∀n,cI w ν z.cells.size (List.replicate n p) (madeCells z.cells (n*z.cells.size)).toList
 |0=>by simp[cI,madeCells]
 |n+1=>by rw[acF _ _ h];simp only[List.replicate_succ,cI];exact⟨z,_,rfl,⟨hr,rfl,aj⟩,Rw hr h aj n⟩
theorem Me{P:bW}{bs:List (Nat×du)}(aI:fS P bs=true){C:eH}{st st':bb}{a:Act}{w:World}{ν:aT}(hr:ct C st a w ν){d el:Nat}{x y:cS}{o:Oper}(aj:q0 C.N bs (.apps d el x y) o=true)
  {c:Prop} (he:AW st d el (bL st.t x) (bL st.t y)=some (c,st')) (aD:c) {K:Act->World->Prop} {Q:Exit->Act->World->Prop} (dk:∀cV w' ν',ct C st' cV w' ν'->K cV w'):o.wp P a w K Q:=by
 obtain⟨dst,op,type,pos,after,guard⟩:=o;generalize aw:dG.apps d el x y=i at aj;unfold q0 at aj;dsimp only at aj;split at aj<;>first|(cases aw;done)|(cases aj;done)|skip
 rename_i o' hf t eB;cases aw;simp only[bB,dO,ef]at aj;obtain⟨⟨⟨⟨⟨⟨I,J⟩,aV⟩,ao⟩,bE⟩,ch⟩,dD⟩:=aj;subst I;split at aV
 ·rename_i eJ aM;simp only[dO]at aV;subst aV;split at ao
  ·rename_i EH;split at bE
   ·rename_i g aO;simp only[bB,dO,ef]at bE;obtain⟨mn,ud⟩:=bE;have rx:=dT hr ch;have jh:=dT hr dD;have jT:∀v' w',(sr #[t,eB] type #[a.eval o',a.eval hf]).run P w= .ok v' w'->(execOp a.eval ⟨some d,.call ⟨.builtin .append,⟨[o',hf]⟩,⟨[t,eB]⟩⟩,type,pos,after,guard⟩).run P w= .ok (.value v') w':=by intro v' w' hc;simp only[execOp,resolve,invoke,builtin,e2,fC,e8,List.map_toArray,eQ,List.map_nil];rw[hc];rfl
    obtain⟨eC,jR,z,aq,aU,bR,ds,hn,gY,mc,n1⟩:=(tx aI aO).ex;obtain⟨dP,hJ,eY⟩:=hg aI aM;obtain rfl:=qB eY;obtain⟨ah8,IA,aaf⟩:=hg aI EH;obtain rfl:=vu aaf;have pV:z.cells.size=1:=by rw[n1,mn]
    have oZ:eC.size=1:=by rw[bR,mn]
    unfold AW at he;split at he
    ·rename_i sz k n s ad bC;split at he
     ·rename_i n' eJ dj xs aa;split at he
      ·rename_i lM;obtain⟨rfl,rfl,rfl,rfl⟩:=lM;cases he;rw[ad]at rx;rw[bC]at jh;simp only[aR]at rx jh;obtain⟨⟨bx,sI,qi⟩,rxl,n0,nf,fp,fI,nb⟩:=rx;obtain⟨q8,lQ⟩:=jh;obtain⟨v0,eN,b9,cx,dp,c6⟩:=hr.good.own k _ aa;rw[fp]at b9;simp only[dL,gp]at b9 cx;obtain⟨rfl,rfl⟩:=b9;have mr:a.eval o'=nf:=nb rfl;obtain⟨cH,iD,p6⟩:=c6 xs rfl;simp only at cH iD;have eL:(⟨s.toArray⟩:kG).size=s.length:=by simp[UF]
       have Bx:byteCells ⟨s.toArray⟩=s.map fun c=>mE .u8 c.toNat:=by simp[byteCells]
       have s6:eN.length=xs.length:=by rw[cH];simpa using cx.1
       have ue:cI w ν 1 (xs++fK s) (eN++byteCells ⟨s.toArray⟩):=by rw[Bx];exact Ad iD (KS w ν s)
       have er:(fK s).length=s.length:=by simp[fK]
       have mO:(xs.length+s.length)*eC.bytes<=140737488355328:=by
        have mN:eC.bytes<=2048:=by rw[ds];exact ud
        have sS:(xs.length+s.length)*eC.bytes<=(xs.length+s.length)*2048:=Nat.mul_le_mul_left _ mN;simp only[bA]at aD;omega
       have mR:xs.length+s.length<=maxLen:=by simp only[bA]at aD;simp only[maxLen];omega
       rw[q8,mr]at jT;have xD:∀(base:be Addr) (cap:Nat),nf= .slice base xs.length cap->n0<=cap->cap<xs.length+s.length->(⟨some d,.call ⟨.builtin .append,⟨[o',hf]⟩,⟨[t,eB]⟩⟩,type,pos,after,guard⟩:Oper).wp P a w K Q:=by
        intro base cap hu xL rN;obtain⟨v',w',f1,f2,f3⟩:=Tv (P:=P) w t eB type eJ eC z hJ IA aq gY oZ pV nf xs.length eN (by rw[cH];exact cx) ⟨s.toArray⟩ cap base hu (by rw[eL];exact rN) (by rw[eL];exact mR) (by rw[eL];exact mO);rw[eL]at f2;obtain⟨iA,hv⟩:=hr.newRowM (k:=k) (xs:=xs++fK s) (el:=eJ) (sz:=1) (.inr ⟨_,aa,by simp[er];omega⟩) f3 (by rw[dF,er];exact f2) ue (by rw[dF,er];exact aD) (n':=st.n) (o':=st.o)
         (fun j al=>⟨al,fun e=>by subst e;have:=(hr.new _ al).2.1;rw[fp]at this;cases this⟩)
        refine kn (jT _ _ f1) (dk _ _ (ν.withOwn k (xs++fK s).length v') ?_);have:=iA.put (d:=some d) (by simpa[hE]using J) (hv (by rw[dF,er];exact FX f2 Ω));simpa[e6,er]using this
       rcases cx.2 with⟨jJ,uN⟩|⟨bl,cap,cur,jJ,uN,uO,CM,CN,F1,zZ⟩
       ·rw[<-mr,qi]at jJ;cases jJ
       ·have jf:nf.ownBlock=some bl:=by rw[jJ];rfl
        by_cases nD:xs.length+s.length<=cap
        ·have f1:=afj (P:=P) w t eB type eJ eC hJ IA aq oZ bl xs.length cap cur uO ⟨s.toArray⟩ (by rw[eL];exact nD) (by rw[eL];omega);rw[eL]at f1;generalize B9:(cur.toList.take xs.length++byteCells ⟨s.toArray⟩++cur.toList.drop (xs.length+s.length)).toArray=kV at f1;have lh:(w.setRow bl kV).heap[bl]? =some (.cells kV eJ (0,0)):=setRow_heap w bl cur kV eJ _ uO;have vP:(byteCells ⟨s.toArray⟩).length=s.length:=by rw[byteCells_length,eL]
         have aE:(eN++byteCells ⟨s.toArray⟩).length=(xs++fK s).length*1:=by rw[dF,s6,vP,dF,er,Nat.mul_one]
         have bE:cur.toList.take xs.length=eN:=by rw[cH];simpa using zZ
         have mq:kV.size=cap*1:=by rw[<-B9];simp only[List.size_toArray,dF,pt,kH,Array.length_toList,vP];omega
         have s4:kV.toList.take ((xs++fK s).length*1)=eN++byteCells ⟨s.toArray⟩:=by rw[<-B9,bE,<-aE];exact List.take_left
         obtain⟨iA,_,hv⟩:=hr.setRowM (w':=w.setRow bl kV) aa rfl fp jf (v':= .slice (some ⟨bl,0,none⟩) (xs.length+s.length) cap) rfl (xs':=xs++fK s) (us:=eN++byteCells ⟨s.toArray⟩)
          (by
           by_cases bD:s=[]
           ·subst bD;exact .inl ⟨by simp[fK,cH],by rw[jJ];simp[cH]⟩
           ·exact .inr (by have:=re.2 bD;simp[er];omega)) rfl rfl rfl (fun j al=>setRow_other w bl j kV al) (setRow_size w bl kV)
          ⟨aE,.inr ⟨bl,cap,kV,by simp[er],Nat.zero_le _,lh,by simpa[er]using nD,CN,mq,s4⟩⟩ ue
         replace hv:=hv (by simpa[er]using aD);refine kn (v:= .slice (some ⟨bl,0,none⟩) (xs.length+s.length) cap) (w':=w.setRow bl kV) (jT _ _ ?_) (dk _ _ (ν.withOwn k (xs++fK s).length (.slice (some ⟨bl,0,none⟩) (xs.length+s.length) cap)) ?_)
         ·rw[jJ,<-cH];exact f1
         ·have:=iA.put (d:=some d) (by simpa[hE]using J) hv;simpa[e6,er]using this
        ·exact xD _ cap (by rw[jJ,<-cH]) CM Ω
      ·cases he
     ·cases he
    ·rename_i sz xs s ad bC;split at he
     ·rename_i ev;obtain rfl:=ev;cases he;obtain⟨hI,fV,jb⟩:=aD;rw[ad]at rx;rw[bC]at jh;simp only[aR]at rx jh;have mr:=rx.2.1 trivial;obtain⟨q8,lQ⟩:=jh;have eL:(⟨s.toArray⟩:kG).size=s.length:=by simp[UF]
      have Bx:byteCells ⟨s.toArray⟩=s.map fun c=>mE .u8 c.toNat:=by simp[byteCells]
      have ue:cI w ν 1 (fK s) (byteCells ⟨s.toArray⟩):=by rw[Bx];exact KS w ν s
      have er:(fK s).length=s.length:=by simp[fK]
      have fb:0<s.length:=re.2 fV;have mO:(0+s.length)*eC.bytes<=140737488355328:=by
       have mN:eC.bytes<=2048:=by rw[ds];exact ud
       have sS:(0+s.length)*eC.bytes<=(0+s.length)*2048:=Nat.mul_le_mul_left _ mN;simp only[bA]at jb;omega
      have mR:0+s.length<=maxLen:=by simp only[bA]at jb;simp only[maxLen];omega
      rw[q8,mr]at jT;obtain⟨v',w',f1,f2,f3⟩:=Tv (P:=P) w t eB type el eC z hJ IA aq gY oZ pV (.slice none 0 0) 0 [] ⟨rfl,.inl ⟨rfl,rfl⟩⟩ ⟨s.toArray⟩ 0 none rfl (by rw[eL];omega) (by rw[eL];exact mR) (by rw[eL];exact mO);rw[eL,nk,List.nil_append]at f2;have mQ:fresh st.n st.o (.obj 862):=⟨trivial,hI⟩;obtain⟨iA,hv⟩:=hr.newRowM (k:= .obj 862) (xs:=fK s) (el:=el) (sz:=1) (.inl (hr.new _ mQ)) f3 (by rw[er];exact f2) ue (by rw[er];exact jb) (n':=st.n) (o':= .obj 862::st.o)
       (fun j al=>⟨⟨al.1,fun h=>al.2 (List.mem_cons_of_mem _ h)⟩,fun e=>by subst e;exact al.2 Ψ⟩)
      refine kn (jT _ _ f1) (dk _ _ (ν.withOwn (.obj 862) (fK s).length v') ?_);have:=iA.put (d:=some d) (by simpa[hE]using J) (hv (by rw[er];exact FX f2 fb));simpa[e6,er]using this
     ·cases he
    ·cases he
   ·cases bE
  ·cases ao
 ·cases aV
theorem iE{P:bW}{bs:List (Nat×du)}(aI:fS P bs=true){C:eH}{st st':bb}{a:Act}{w:World}{ν:aT}(hr:ct C st a w ν){i:dG}{o:Oper}(aj:q0 C.N bs i o=true)
  {κ:aJ} {n':Nat} {o₁:List aJ} (uh:i.makes st=true->fresh st.n st.o κ) (ij:i.makes st=true->∀j,fresh n' o₁ j->fresh st.n st.o j/\j≠κ) {c:Prop} (he:dY κ n' o₁ st i=some (c,st')) (aD:c) {K:Act->World->Prop} {Q:Exit->Act->World->Prop} (dk:∀cV w' ν',ct C st' cV w' ν'->K cV w') (hB:i.bok κ:=by first|trivial|(intro h;cases h)):o.wp P a w K Q:=by
 obtain⟨dst,op,type,pos,after,guard⟩:=o;unfold q0 at aj;dsimp only at aj;split at aj
 ·rename_i d key t;simp only[bB,dO,ef]at aj;obtain⟨⟨rfl,J⟩,_⟩:=aj;simp only[dY]at he;cases he;obtain⟨g1,g2⟩:=hr.newBox (hr.new _ (uh rfl)) (ij rfl) (cs:=[.hdm 0 []]) (us:= #[]) ⟨0,fun e=>absurd e hB⟩ (by simp only[hQ];exact⟨by simp[cD],⟨rfl,Ψ,Ψ⟩⟩);refine kn (v:= .map (some w.heap.size)) (w':=w.alloc (.map #[] 0)) ?_ (dk _ _ _ (g1.put (d:=some d) (by simpa[hE]using J) (p:= .gmap κ) ?_))
  ·simp only[execOp,Instr.makeMap,Option.map_none,e2,run_newObj,e8,fC];rfl
  ·simp[aR,aT.withBox]
 ·rename_i b0 x k v t lZ kh ou;simp only[bB,dO]at aj;obtain⟨⟨⟨⟨rfl,I⟩,J⟩,av⟩,aV⟩:=aj;have rx:=dT hr J;have uW:=dT hr av;have yn:=dT hr aV;split at I
  ·rename_i sz kJ mv oS z aM;obtain⟨fE,hu,eY⟩:=hg aI aM;have fF:fE= .map mv oS:=by cases fE<;>simp[la]at eY;obtain⟨rfl,rfl⟩:=eY;rfl
   subst fF;have lJ:=JF aI I;simp only[dY]at he;split at he
   ·rename_i m ad;rw[ad]at rx;simp only[aR]at rx;obtain⟨bl,bQ,b3⟩:=rx;split at he
    ·rename_i cs cT;split at he
     ·rename_i cs' hm;cases he;obtain⟨h8,us,el,b9,cx,dp,c6,cH⟩:=hr.good.box m cs cT;rw[bQ]at b9;cases b9;unfold uD at hm;split at hm
      ·rename_i clock borns kvs;split at hm
       ·cases hm
       rename_i nv;simp only[iz]at c6;simp only[hQ]at cH;have lN:=uY (P:=P) c6;have oV:=K1 (P:=P) (w:=w) lJ false uW (by simpa using nv);have b7:bl<w.heap.size:=(Array.getElem?_eq_some_iff.1 c6).1;have hK:∀(o':Obj) (bF:Array Value) (dP:List ag),(Instr.mapUpdate t (a.eval lZ) (a.eval kh) (a.eval ou)).run P w= .ok () {w with heap:=w.heap.setIfInBounds bl o'}->iz dP bF el.1=o'->hQ w ν dP bF.toList->some dP=some cs'->
         (⟨none,.mapUpdate t lZ kh ou,type,pos,after,guard⟩:Oper).wp P a w K Q:=by
        intro o' bF dP hc BO lk hJ;cases hJ;refine Df (w':={w with heap:=w.heap.setIfInBounds bl o'}) ?_ (dk _ _ _ (hr.setBox (w':={w with heap:=w.heap.setIfInBounds bl o'}) cT bQ (us:=bF) (el:=el) rfl rfl rfl (fun j al=>?_) Ψ ?_ lk).1)
        ·simp only[execOp,hc,e2,e8,fC]
        ·exact Array.getElem?_setIfInBounds_ne (Ne.symm al)
        ·rw[BO];simp[b7]
       split at hm
       ·rename_i vY xK;obtain⟨j,u,bF,e,f1,f2,f3,f4,f5,f6,f7⟩:=Cu lJ uW yn borns kvs us.toList 0 _ cH.1 cH.2.len xK;refine hK (.map (fk borns bF).toArray clock) bF.toArray (.hdm clock borns::vY) ?_ (by simp[iz]) (by simp only[hQ];exact⟨by simpa using f2,⟨by rw[f3];exact cH.2.len,cH.2.inc,cH.2.lt⟩⟩) hm;have Jf:(Instr.keyThatStays (((fk borns us.toList).toArray[j]?.map (·.key)).getD (a.eval kh)) (a.eval kh)).run P w= .ok (a.eval kh) w:=by
         have:((fk borns us.toList).toArray[j]?.map (·.key)).getD (a.eval kh)=e.key:=by simp[f4]
         rw[this];simp[Instr.keyThatStays,f6]
        simp only[nk]at f1;simp only[Instr.mapUpdate,e2,run_underlying hu,e8,b3,lN,oV,f1.run lJ,fC,Jf,CZ c6];rw[f7];simp
       ·rename_i xK;have f1:=Cu lJ uW yn borns kvs us.toList 0 _ cH.1 cH.2.len xK;simp only at f1;have qM:us.toList.length=2*borns.length:=by rw[Gj cH.1,cH.2.len]
        refine hK (.map ((fk borns us.toList).toArray.push ⟨a.eval kh,a.eval ou,clock⟩) (clock+1)) (us.toList++[a.eval kh,a.eval ou]).toArray (.hdm (clock+1) (borns++[clock])::(kvs++[bL st.t k,bL st.t v])) ?_ (by simp only[iz,HL borns us.toList clock _ _ qM];simp) ?_ hm
        ·simp only[Instr.mapUpdate,e2,run_underlying hu,e8,b3,lN,oV,f1.run lJ,fC,CZ c6]
        ·simp only[hQ];refine⟨KX cH.1 (by simp only[cD];exact⟨_,_,rfl,uW,_,_,rfl,yn,rfl⟩),⟨by simp[cH.2.len];omega,?_,?_⟩⟩
         ·rw[List.pairwise_append];exact⟨cH.2.inc,Ψ,fun x ad y bC=>by simp at bC;subst bC;exact cH.2.lt x ad⟩
         ·intro b af;rcases iG.1 af with af|af
          ·have:=cH.2.lt b af;omega
          ·simp at af;omega
       ·cases hm
      ·cases hm
     ·cases he
    ·cases he
   ·cases he
  ·cases I
 ·rename_i b0 x k v t lZ kh ou;simp only[bB,dO]at aj;obtain⟨⟨⟨⟨rfl,I⟩,J⟩,av⟩,aV⟩:=aj;have rx:=dT hr J;have uW:=dT hr av;have yn:=dT hr aV;split at I
  ·rename_i sz kJ mv oS z aM;obtain⟨fE,hu,eY⟩:=hg aI aM;have fF:fE= .map mv oS:=by cases fE<;>simp[la]at eY;obtain⟨rfl,rfl⟩:=eY;rfl
   subst fF;have lJ:=JF aI I;simp only[dY]at he;split at he
   ·rename_i m ad;rw[ad]at rx;simp only[aR]at rx;obtain⟨bl,bQ,b3⟩:=rx;split at he
    ·rename_i cs cT;split at he
     ·rename_i cs' hm;cases he;obtain⟨h8,us,el,b9,cx,dp,c6,cH⟩:=hr.good.box m cs cT;rw[bQ]at b9;cases b9;unfold uD at hm;split at hm
      ·rename_i clock borns kvs;split at hm
       ·cases hm
       rename_i nv;simp only[iz]at c6;simp only[hQ]at cH;have lN:=uY (P:=P) c6;have oV:=K1 (P:=P) (w:=w) lJ false uW (by simpa using nv);have b7:bl<w.heap.size:=(Array.getElem?_eq_some_iff.1 c6).1;have hK:∀(o':Obj) (bF:Array Value) (dP:List ag),(Instr.mapUpdate t (a.eval lZ) (a.eval kh) (a.eval ou)).run P w= .ok () {w with heap:=w.heap.setIfInBounds bl o'}->iz dP bF el.1=o'->hQ w ν dP bF.toList->some dP=some cs'->
         (⟨none,.mapUpdate t lZ kh ou,type,pos,after,guard⟩:Oper).wp P a w K Q:=by
        intro o' bF dP hc BO lk hJ;cases hJ;refine Df (w':={w with heap:=w.heap.setIfInBounds bl o'}) ?_ (dk _ _ _ (hr.setBox (w':={w with heap:=w.heap.setIfInBounds bl o'}) cT bQ (us:=bF) (el:=el) rfl rfl rfl (fun j al=>?_) Ψ ?_ lk).1)
        ·simp only[execOp,hc,e2,e8,fC]
        ·exact Array.getElem?_setIfInBounds_ne (Ne.symm al)
        ·rw[BO];simp[b7]
       split at hm
       ·rename_i vY xK;obtain⟨j,u,bF,e,f1,f2,f3,f4,f5,f6,f7⟩:=Cu lJ uW yn borns kvs us.toList 0 _ cH.1 cH.2.len xK;refine hK (.map (fk borns bF).toArray clock) bF.toArray (.hdm clock borns::vY) ?_ (by simp[iz]) (by simp only[hQ];exact⟨by simpa using f2,⟨by rw[f3];exact cH.2.len,cH.2.inc,cH.2.lt⟩⟩) hm;have Jf:(Instr.keyThatStays (((fk borns us.toList).toArray[j]?.map (·.key)).getD (a.eval kh)) (a.eval kh)).run P w= .ok (a.eval kh) w:=by
         have:((fk borns us.toList).toArray[j]?.map (·.key)).getD (a.eval kh)=e.key:=by simp[f4]
         rw[this];simp[Instr.keyThatStays,f6]
        simp only[nk]at f1;simp only[Instr.mapUpdate,e2,run_underlying hu,e8,b3,lN,oV,f1.run lJ,fC,Jf,CZ c6];rw[f7];simp
       ·rename_i xK;have f1:=Cu lJ uW yn borns kvs us.toList 0 _ cH.1 cH.2.len xK;simp only at f1;have qM:us.toList.length=2*borns.length:=by rw[Gj cH.1,cH.2.len]
        refine hK (.map ((fk borns us.toList).toArray.push ⟨a.eval kh,a.eval ou,clock⟩) (clock+1)) (us.toList++[a.eval kh,a.eval ou]).toArray (.hdm (clock+1) (borns++[clock])::(kvs++[bL st.t k,bL st.t v])) ?_ (by simp only[iz,HL borns us.toList clock _ _ qM];simp) ?_ hm
        ·simp only[Instr.mapUpdate,e2,run_underlying hu,e8,b3,lN,oV,f1.run lJ,fC,CZ c6]
        ·simp only[hQ];refine⟨KX cH.1 (by simp only[cD];exact⟨_,_,rfl,uW,_,_,rfl,yn,rfl⟩),⟨by simp[cH.2.len];omega,?_,?_⟩⟩
         ·rw[List.pairwise_append];exact⟨cH.2.inc,Ψ,fun x ad y bC=>by simp at bC;subst bC;exact cH.2.lt x ad⟩
         ·intro b af;rcases iG.1 af with af|af
          ·have:=cH.2.lt b af;omega
          ·simp at af;omega
       ·cases hm
      ·cases hm
     ·cases he
    ·cases he
   ·cases he
  ·cases I
 ·rename_i d key x t lZ;simp only[bB,dO,ef]at aj;obtain⟨⟨⟨⟨rfl,J⟩,I⟩,av⟩,_⟩:=aj;have rx:=dT hr av;split at I
  ·rename_i sz kJ mv oS z aM;obtain⟨fE,hu,eY⟩:=hg aI aM;have fF:fE= .map mv oS:=by cases fE<;>simp[la]at eY;obtain⟨rfl,rfl⟩:=eY;rfl
   subst fF;simp only[dY]at he;split at he
   ·rename_i m ad;rw[ad]at rx;have afm:=rx;simp only[aR]at rx;obtain⟨bl,bQ,b3⟩:=rx;split at he
    ·rename_i cs cT;split at he
     ·rename_i cs' hm;cases he;obtain⟨h8,us,el,b9,cx,dp,c6,cH⟩:=hr.good.box m cs cT;rw[bQ]at b9;cases b9;unfold CR at hm;split at hm
      ·rename_i clock borns kvs;cases hm;simp only[iz]at c6;have lN:=uY (P:=P) c6;obtain⟨g1,g2⟩:=hr.newBox (hr.new _ (uh rfl)) (ij rfl) (cs:=[.hdi clock [] clock,.gmap m]) (us:= #[a.eval lZ]) ⟨0,fun e=>absurd e hB⟩ (by simp only[hQ,cD];exact⟨_,_,rfl,afm,rfl⟩);have BO:iz [.hdi clock [] clock,.gmap m] #[a.eval lZ] 0= .mapIter (some bl) clock #[] clock:=by simp[iz,b3]
       rw[BO]at g1 g2;refine kn (v:= .pointer (some ⟨w.heap.size,0,none⟩)) (w':=w.alloc (.mapIter (some bl) clock #[] clock)) ?_ (dk _ _ _ (g1.put (d:=some d) (by simpa[hE]using J) (p:= .ptr κ 0) g2))
       ·simp only[execOp];refine C9 ?_;simp only[Instr.range,e2,run_underlying hu,e8,b3,lN,fC,run_newObj];rfl
      ·cases hm
     ·cases he
    ·cases he
   ·cases he
  ·cases I
 ·rename_i d ak7;simp only[bB,dO,ef]at aj;obtain⟨⟨I,J⟩,av⟩:=aj;subst I;simp only[dY]at he;split at he
  ·rename_i h9 p aS;cases he;obtain⟨v,g1,g2⟩:=af5 (o:=⟨some d,op,type,pos,after,guard⟩) aI hr av aS aD;refine kn g1 (dk _ _ ν ?_);exact hr.put (d:=some d) (by simpa[hE]using J) g2
  ·cases he
 ·rename_i d key x el o';simp only[bB,dO,ef]at aj;obtain⟨⟨⟨I,J⟩,av⟩,kQ⟩:=aj;subst I;simp only[dY]at he;cases he;have ad:=dT hr av;have lK:=uU ad aD;obtain⟨g1,g2⟩:=hr.newBox (hr.new _ (uh rfl)) (ij rfl) ⟨el,fun e=>by have:=hB e;subst this;simpa using kQ⟩ (by rw[pc (yj lK)];exact lK);rw[p5 (yj lK)]at g1 g2;refine kn (v:= .pointer (some ⟨w.heap.size,0,none⟩)) (w':=w.alloc (.cells (a.eval o').cells el)) ?_ (dk _ _ _ (g1.put (d:=some d) (by simpa[hE]using J) (p:= .ptr κ 0) ?_))
  ·simp only[execOp,Instr.box,newVar,newRow,e2,run_newObj,e8,fC];rfl
  ·simpa only[aR]using g2
 ·rename_i d key z el;simp only[bB,dO,ef]at aj;obtain⟨⟨⟨I,J⟩,av⟩,kQ⟩:=aj;subst I;simp only[dY]at he;cases he;split at av
  ·rename_i f aM;have cn:=LU av;obtain⟨bm,Dg,z2,z3⟩:=Lo aI aM w;rw[<-cn]at z2;obtain⟨_,lK⟩:=LS w ν z2;obtain⟨g1,g2⟩:=hr.newBox (hr.new _ (uh rfl)) (ij rfl) ⟨el,fun e=>by have:=hB e;subst this;simpa using kQ⟩ (by rw[pc (yj lK)];exact lK);rw[p5 (yj lK)]at g1 g2;refine kn (v:= .pointer (some ⟨w.heap.size,0,none⟩)) (w':=w.alloc (.cells bm.cells el)) ?_ (dk _ _ _ (g1.put (d:=some d) (by simpa[hE]using J) (p:= .ptr κ 0) ?_))
   ·simp only[execOp,Instr.alloc,newVar,newRow,e2,Dg,run_newObj,e8,fC];rfl
   ·simpa only[aR]using g2
  ·cases av
 ·rename_i sz x y t o' hf;simp only[bB,dO]at aj;obtain⟨⟨⟨I,J⟩,av⟩,aV⟩:=aj;subst I;split at J
  ·rename_i f aM;simp only[dO]at J;simp only[dY]at he;split at he
   ·rename_i k off ad;split at he
    ·rename_i cs cT;cases he;obtain⟨c0,cJ,c2,c3⟩:=aD;have rx:=dT hr av;rw[ad]at rx;simp only[aR]at rx;obtain⟨bl,bQ,b3⟩:=rx;have jh:=dT hr aV;have uS:=uU jh cJ;have qX:=pf uS;obtain⟨h8,us,el,b9,cx,dp,c6,cH⟩:=hr.good.box k cs cT;rw[bQ]at b9;cases b9;rw[p5 c0]at c6;rw[pc c0]at cH;have aW:=pf cH;obtain⟨_,ev⟩:=u4 aI aM w;have o5:(a.eval hf).cells.size=sz:=by rw[c2]at qX;simpa using qX
     have eZ:=run_storeCells_at (P:=P) bl off el.1 (a.eval hf).cells.toList 0 us w c6 (by simp at aW⊢;omega) (Ag uS);simp only[Nat.add_zero]at eZ;refine Df (w':=w.setRow bl (us.toList.take off++(a.eval hf).cells.toList++us.toList.drop (off+(a.eval hf).cells.toList.length)).toArray) ?_ (dk _ _ _ (hr.storeBox cT bQ c0 ?_))
     ·simp only[execOp,Instr.storeAt,b3,Instr.sureAddr,storeVar,e2,fC,e8,ev,o5,J,ne_eq,not_true_eq_false,if_false,eZ]
     ·simp only[oz];rw[qX];exact yi (yi (CU off cH) uS) (Af _ cH)
    ·cases he
   ·rename_i ad;generalize I5:bL st.t x=px at he;unfold q2 at he;split at he
    ·rename_i dj k n i xk;split at he
     ·rename_i n' el hR xs aa;split at he
      ·rename_i mo;obtain⟨rfl,rfl⟩:=mo;split at he
       ·rename_i q bG;cases he;obtain⟨c0,cJ,c2,c3,c4⟩:=aD;have rx:=dT hr av;rw[I5]at rx;have jh:=dT hr aV;have uS:=uU jh cJ;have qX:=pf uS;obtain⟨_,ev⟩:=u4 aI aM w;have o5:(a.eval hf).cells.size=sz:=by rw[c2]at qX;simpa using qX
        obtain⟨bl,off,l9,BT,eZ,ν',pR⟩:=hr.storeRow (P:=P) aa rx bG c0 uS (by simpa[o5]using c3) (fun e=>by have:=fT List.length e;simp[o5]at this;omega);refine Df (w':=w.setRow bl l9) ?_ (dk _ _ _ pR);simp only[execOp,Instr.storeAt,BT,Instr.sureAddr,storeVar,e2,fC,e8,ev,o5,J,ne_eq,not_true_eq_false,if_false,eZ]
       ·cases he
      ·cases he
     ·cases he
    ·cases he
  ·cases J
 ·rename_i d sz el xs t len parts;simp only[bB,dO,ef]at aj;obtain⟨⟨⟨⟨⟨⟨I,J⟩,av⟩,aV⟩,bE⟩,ch⟩,dD⟩:=aj;subst I;subst bE;split at av
  ·rename_i eJ aM;simp only[dO]at av;subst av;split at aV
   ·rename_i g aO;simp only[bB,dO,ef]at aV;obtain⟨rfl,fb⟩:=aV;simp only[dY]at he;cases he;obtain⟨us,g1,g2,g3⟩:=Tw aI hr aM rfl aO dD aD ch;have kc:(w.alloc (.cells us el)).ownsRow w.heap.size el g.size (.slice (some ⟨w.heap.size,0,none⟩) xs.length xs.length) (xs.map (bL st.t)).length us.toList:=by
     refine⟨by simp[g3],.inr ⟨w.heap.size,xs.length,us,Ψ,da _,heap_alloc_new w _,Ψ,?_,g3,?_⟩⟩
     ·simp only[maxLen];have:xs.length<=xs.length*g.size:=Nat.le_mul_of_pos_right _ fb;omega
     ·rw[pw];simp[g3]
    obtain⟨fp,fI⟩:=hr.newRow (k:=κ) (xs:=xs.map (bL st.t)) (.inl (hr.new _ (uh rfl))) (World.grownBy_alloc w _ none) kc g2
     (by have:xs.length<=xs.length*g.size:=Nat.le_mul_of_pos_right _ fb;simp only[bA,qk];omega) (ij rfl)
    simp only[qk]at fp fI;refine kn (v:= .slice (some ⟨w.heap.size,0,none⟩) xs.length xs.length) (w':=w.alloc (.cells us el)) ?_ (dk _ _ _ (fp.put (d:=some d) (by simpa[hE]using J) (p:= .slice g.size (.own κ) (xs.map (bL st.t))) fI));have bq:(parts.map fun(x:Nat×Operand)=>(x.1,a.eval x.2))=(parts.toList.map fun(x:Nat×Operand)=>(x.1,a.eval x.2)).toArray:=by apply Array.ext';simp
    simp only[execOp];refine C9 ?_;rw[<-g1];congr 2
   ·cases aV
  ·cases av
 ·rename_i d sz el x y o' hf t eB;simp only[bB,dO,ef]at aj;obtain⟨⟨⟨⟨⟨⟨I,J⟩,av⟩,aV⟩,bE⟩,ch⟩,dD⟩:=aj;subst I;subst av;split at aV
  ·rename_i eJ aM;simp only[dO]at aV;subst aV;split at bE
   ·rename_i g aO;simp only[bB,dO,ef]at bE;obtain⟨⟨rfl,fb⟩,ud⟩:=bE;have rx:=dT hr ch;have jh:=dT hr dD;have jT:∀v' w',(sr #[t,t] type #[a.eval o',a.eval hf]).run P w= .ok v' w'->(execOp a.eval ⟨some d,.call ⟨.builtin .append,⟨[o',hf]⟩,⟨[t,t]⟩⟩,type,pos,after,guard⟩).run P w= .ok (.value v') w':=by intro v' w' hc;simp only[execOp,resolve,invoke,builtin,e2,fC,e8,List.map_toArray,eQ,List.map_nil];rw[hc];rfl
    obtain⟨eC,jR,z,aq,aU,bR,ds,hn,gY,mc,n1⟩:=(tx aI aO).ex;obtain⟨dP,hJ,eY⟩:=hg aI aM;obtain rfl:=qB eY;simp only[dY]at he;split at he
    ·rename_i dj tag xs hR gG ys ad bC;split at he
     ·rename_i eL;obtain⟨rfl,eL⟩:=eL;subst eL;rw[ad]at rx;rw[bC]at jh;simp only[aR]at rx jh;obtain⟨⟨ax,sI,qi,cx1,⟨N5,N6⟩,cx4⟩,rxn,rxo,rxt⟩:=rx;obtain⟨⟨ay,k9,q8,cy1,⟨N7,N8⟩,cy4⟩,_⟩:=jh;split at he
      ·rename_i k;split at he
       ·rename_i ow aa;cases he;obtain⟨cJ,c2,c3,c4⟩:=aD;subst c2;obtain⟨n0,nf,fp,fI,nb⟩:=rxo k rfl;obtain⟨v0,eN,b9,cx,dp,_⟩:=hr.good.own k ow aa;rw[fp]at b9;simp only[dL,gp]at b9;obtain⟨rfl,rfl⟩:=b9;have mr:a.eval o'=nf:=nb cJ.symm;by_cases hd:ys=[]
        ·subst hd;rw[q8,qi]at jT;have hc:=Gp (P:=P) (w:=w) (ty:=type) hJ aq ax xs.length sI cx1 ay k9;refine kn (jT _ _ (by simpa using hc)) (dk _ _ ν ?_);have eZ:{st with t:=put d (.slice ow.sz (.own k) (xs++[])) st.t,e:=cR k ⟨xs.length+([]:List ag).length,ow.el,ow.sz,none⟩ st.e}=({st with e:=cR k ⟨ow.n,ow.el,ow.sz,none⟩ st.e,t:=put d (.slice ow.sz (.own k) xs) st.t}:bb):=by simp[cJ]
         rw[<-c3,eZ];have nC:=hr.forgetRow aa;refine nC.put (d:=some d) (by simpa[hE]using J) (p:= .slice ow.sz (.own k) xs) ?_;simp only[aR];rw[<-c3]at cx4;exact⟨⟨ax,sI,rfl,cx1,⟨N5,N6⟩,cx4⟩,fun e=>(by cases e),(fun g e=>by cases e;exact⟨_,_,fp,fI,fun e=>by rw[<-qi];exact nb e⟩),fun _ _ e=>(by cases e),fun _ e=>(by cases e)⟩
        ·have hyp:0<ys.length:=by cases ys<;>simp at hd⊢
         rcases cy4 with cy4|⟨kJ,na,gO,rfl,x1,ma⟩
         ·exact absurd cy4 hd
         ·have je:=qW ma;have rS:∀j u,gO[j]? =some u->w.cell? ((⟨kJ,na,none⟩:Addr).add j)=some u:=fun j u al=>by rw[nU];exact(uB x1 al).2
          have mO:(xs.length+ys.length)*eC.bytes<=140737488355328:=by
           have mN:eC.bytes<=2048:=by rw[ds];exact ud
           have sS:(xs.length+ys.length)*eC.bytes<=(xs.length+ys.length)*2048:=Nat.mul_le_mul_left _ mN;simp only[bA]at c4;omega
          have mR:xs.length+ys.length<=maxLen:=by simp only[bA]at c4;simp only[maxLen];omega
          rw[q8]at jT;have s6:eN.length=ow.n*ow.sz:=cx.1;have pV:z.cells.size=eC.size:=by rw[n1,bR]
          have xD:(∀cur,dK->cur=(0:Nat))->(∃v' w',(sr #[t,t] type #[a.eval o',.slice (some ⟨kJ,na,none⟩) ys.length k9]).run P w= .ok v' w'/\w'.ownsRow w.heap.size ow.el eC.size v' (xs.length+ys.length) (eN++gO)/\w.grownBy w' none/\cI w ν eC.size xs eN)->
            (⟨some d,.call ⟨.builtin .append,⟨[o',hf]⟩,⟨[t,t]⟩⟩,type,pos,after,guard⟩:Oper).wp P a w K Q:=by
           intro _ bK;obtain⟨v',w',f1,f2,f3,f4⟩:=bK;have ue:cI w ν eC.size (xs++ys) (eN++gO):=Ad f4 (by rw[bR];exact ma);obtain⟨iA,hv⟩:=hr.newRow (k:=k) (xs:=xs++ys) (.inr ⟨ow,aa,by rw[cJ];simp;omega⟩) f3 (by simpa using f2) ue (by simpa using c4) (n':=st.n) (o':=st.o)
            (fun j al=>⟨al,fun e=>by subst e;have:=(hr.new _ al).2.1;rw[fp]at this;cases this⟩)
           refine kn (jT _ _ f1) (dk _ _ ((ν.withOwn k (xs++ys).length v').withRowOf k v' (xs++ys).length ((xs++ys).length*eC.size)) ?_);have:=iA.put (d:=some d) (by simpa[hE]using J) hv;simpa[bR,e6]using this
          rcases cx.2 with⟨jJ,uN⟩|⟨bl,cap,cur,jJ,uN,uO,CM,CN,F1,zZ⟩
          ·
           have qO:xs=[]:=l3 Ω;have B4:eN=[]:=l3 (by rw[s6,uN];simp);subst qO;subst B4;refine xD (fun _ h=>h.elim) ?_;obtain⟨v',w',f1,f2,f3,_⟩:=run_append_own (P:=P) w w.heap.size t type ow.el eC z eC.size eC.bytes hJ aq gY rfl rfl pV (by rw[bR];exact fb) (.slice none 0 0) 0 [] (World.ownsRow_nil w _ _ _)
            ⟨kJ,na,none⟩ ys.length k9 gO (by rw[je,bR]) rS (yh ma) (by simpa using mR) (by simpa using mO) (da _)
           refine⟨v',w',by rw[mr,jJ];exact f1,by simpa using f2,by simpa[ni]using f3,by simp[cI]⟩
          ·have aaT:kg w ν.A bl 0 eN/\cI w ν eC.size xs eN/\True:=by
            rw[mr,jJ]at qi;rcases cx4 with cx4|⟨hD,akh,Lv,f1,f2,f3⟩
            ·subst cx4;have:eN=[]:=l3 (by rw[s6,cJ];simp);subst this;exact⟨trivial,by simp[cI],trivial⟩
            ·subst f1;injection qi with vx1 vx2 vx3;injection vx1 with vx1;injection vx1 with vx1 vx4;subst vx1;subst vx4;have heq:Lv=eN:=by
              apply List.ext_getElem?;intro j;have qM:Lv.length=eN.length:=by rw[qW f3,s6,cJ,c3]
              by_cases al:j<Lv.length
              ·have I:=(uB f2 (bO al)).2;rw[nk]at I;have J:=cx.cells (g:=bl) (by rw[jJ];rfl) j eN[j] (bO Ω);rw[nU,nk,I]at J;rw[bO al,bO Ω];exact J
              ·rw[List.getElem?_eq_none Ω,List.getElem?_eq_none Ω]
             subst heq;exact⟨f2,by rw[bR];exact f3,trivial⟩
           obtain⟨ig,j9,_⟩:=aaT;by_cases nD:xs.length+ys.length<=cap
           ·have aiL:cur.size=cap*ow.sz:=F1;have hmul:(xs.length+ys.length)*ow.sz<=cap*ow.sz:=Nat.mul_le_mul_right _ nD;rw[Nat.add_mul]at hmul;have f1:=run_append_room (P:=P) w t type ow.el eC hJ aq bl xs.length cap cur uO ⟨kJ,na,none⟩ ys.length k9 gO (by rw[je,bR]) rS (yh ma) nD (by rw[je,bR,<-c3];omega);obtain⟨iA,hv⟩:=hr.inPlace aa (bl:=bl) (cap:=cap) (cur:=cur) (by rw[fp,<-jJ]) uO CN F1 (xs:=xs) (ys:=ys) (us:=eN) (ns:=gO) cJ.symm zZ (by rw[c3,<-bR];exact j9) (by rw[c3];exact ma) hyp (by rw[cJ];exact nD) c4;refine kn (v:= .slice (some ⟨bl,0,none⟩) (ow.n+ys.length) cap) (w':=w.setRow bl (eN++gO++cur.toList.drop (ow.n*ow.sz+gO.length)).toArray) (jT _ _ ?_)
             (dk _ _ (ν.withRowOf k (.slice (some ⟨bl,0,none⟩) (ow.n+ys.length) cap) (ow.n+ys.length) ((ow.n+ys.length)*ow.sz)) ?_)
            ·rw[mr,jJ,cJ,f1,<-zZ,cJ,c3,bR]
            ·have:=iA.put (d:=some d) (by simpa[hE]using J) hv;simpa[cJ,c3,e6]using this
           ·refine xD (fun _ h=>h.elim) ?_;obtain⟨v',w',f1,f2,f3⟩:=run_append_arg_grows (P:=P) w t type ow.el eC z eC.size eC.bytes hJ aq gY rfl rfl pV (by rw[bR];exact fb) ⟨bl,0,none⟩ xs.length cap eN (by rw[s6,cJ,c3,bR])
             (fun j u al=>by rw[nU];exact(uB ig al).2) ⟨kJ,na,none⟩ ys.length k9 gO (by rw[je,bR]) rS Ω mR mO
            exact⟨v',w',by rw[mr,jJ,cJ];exact f1,f2,f3,j9⟩
       ·cases he
      ·cases he;have EZ:=rxn rfl;have qO:xs=[]:=by rw[EZ]at qi;injection qi with _ aU;exact l3 aU.symm
       subst qO;have xJ:(dG.app d g.size el x y).makes st=true:=by simp only[dG.makes,ad]
       have pV:z.cells.size=eC.size:=by rw[n1,bR]
       rw[q8,EZ]at jT;have hK:∀(v':Value) (w':World) (gO:List Value),(sr #[t,t] type #[.slice none 0 0,.slice ay ys.length k9]).run P w= .ok v' w'->w'.ownsRow w.heap.size el g.size v' ys.length gO->w.grownBy w' none->cI w ν g.size ys gO->
         (⟨some d,.call ⟨.builtin .append,⟨[o',hf]⟩,⟨[t,t]⟩⟩,type,pos,after,guard⟩:Oper).wp P a w K Q:=by
        intro v' w' gO f1 f2 f3 f4;obtain⟨iA,hv⟩:=hr.newRow (k:=κ) (xs:=ys) (.inl (hr.new _ (uh xJ))) f3 f2 f4 aD (ij xJ);exact kn (jT _ _ f1) (dk _ _ _ (iA.put (d:=some d) (by simpa[hE]using J) hv))
       by_cases hd:ys=[]
       ·subst hd;exact hK _ w [] (Gp hJ aq none 0 0 (da _) ay k9) (World.ownsRow_nil w _ _ _) (agZ w _) (by simp[cI])
       ·rcases cy4 with cy4|⟨kJ,na,gO,rfl,x1,ma⟩
        ·exact absurd cy4 hd
        ·have je:=qW ma;have rS:∀j u,gO[j]? =some u->w.cell? ((⟨kJ,na,none⟩:Addr).add j)=some u:=fun j u al=>by rw[nU];exact(uB x1 al).2
         have mO:ys.length*eC.bytes<=140737488355328:=by
          have I:eC.bytes<=2048:=by rw[ds];exact ud
          have J:ys.length*eC.bytes<=ys.length*2048:=Nat.mul_le_mul_left _ I;simp only[bA]at aD;omega
         have mR:ys.length<=maxLen:=by simp only[bA]at aD;simp only[maxLen];omega
         obtain⟨v',w',f1,f2,f3,_⟩:=run_append_own (P:=P) w w.heap.size t type el eC z eC.size eC.bytes hJ aq gY rfl rfl pV (by rw[bR];exact fb) (.slice none 0 0) 0 [] (World.ownsRow_nil w _ _ _)
          ⟨kJ,na,none⟩ ys.length k9 gO (by rw[je,bR]) rS (yh ma) (by simpa using mR) (by simpa using mO) (da _)
         exact hK v' w' gO f1 (by rw[<-bR];simpa using f2) (by simpa[ni]using f3) ma
      ·cases he
     ·cases he
    ·cases he
   ·cases bE
  ·cases aV
 ·rename_i d key sz el xs t len parts;simp only[bB,dO,ef]at aj;obtain⟨⟨⟨⟨⟨⟨I,J⟩,av⟩,aV⟩,bE⟩,ch⟩,dD⟩:=aj;subst I;subst bE;split at av
  ·rename_i eJ aM;simp only[dO]at av;subst av;split at aV
   ·rename_i g aO;simp only[bB,dO,ef]at aV;obtain⟨rfl,fb⟩:=aV;simp only[dY]at he;cases he;obtain⟨us,g1,g2,g3⟩:=Tw aI hr aM rfl aO dD aD ch;have kc:(w.alloc (.cells us el)).ownsRow w.heap.size el g.size (.slice (some ⟨w.heap.size,0,none⟩) xs.length xs.length) (xs.map (bL st.t)).length us.toList:=by
     refine⟨by simp[g3],.inr ⟨w.heap.size,xs.length,us,Ψ,da _,heap_alloc_new w _,Ψ,?_,g3,?_⟩⟩
     ·simp only[maxLen];have:xs.length<=xs.length*g.size:=Nat.le_mul_of_pos_right _ fb;omega
     ·rw[pw];simp[g3]
    obtain⟨fp,fI⟩:=hr.newRowM (k:=κ) (xs:=xs.map (bL st.t)) (.inl (hr.new _ (uh rfl))) (World.grownBy_alloc w _ none) kc g2
     (by have:xs.length<=xs.length*g.size:=Nat.le_mul_of_pos_right _ fb;simp only[bA,qk];omega) (ij rfl)
    simp only[qk]at fp fI;refine kn (v:= .slice (some ⟨w.heap.size,0,none⟩) xs.length xs.length) (w':=w.alloc (.cells us el)) ?_ (dk _ _ _ (fp.put (d:=some d) (by simpa[hE]using J) (p:= .row g.size κ xs.length) (fI ⟨_,_,rfl⟩)));have bq:(parts.map fun(x:Nat×Operand)=>(x.1,a.eval x.2))=(parts.toList.map fun(x:Nat×Operand)=>(x.1,a.eval x.2)).toArray:=by apply Array.ext';simp
    simp only[execOp];refine C9 ?_;rw[<-g1];congr 2
   ·cases aV
  ·cases av
 ·rename_i d key sz el x y o' hf t eB;simp only[bB,dO,ef]at aj;obtain⟨⟨⟨⟨⟨⟨I,J⟩,av⟩,aV⟩,bE⟩,ch⟩,dD⟩:=aj;subst I;subst av;split at aV
  ·rename_i eJ aM;simp only[dO]at aV;subst aV;split at bE
   ·rename_i g aO;simp only[bB,dO,ef]at bE;obtain⟨⟨rfl,fb⟩,ud⟩:=bE;have rx:=dT hr ch;have jh:=dT hr dD;have jT:∀v' w',(sr #[t,t] type #[a.eval o',a.eval hf]).run P w= .ok v' w'->(execOp a.eval ⟨some d,.call ⟨.builtin .append,⟨[o',hf]⟩,⟨[t,t]⟩⟩,type,pos,after,guard⟩).run P w= .ok (.value v') w':=by intro v' w' hc;simp only[execOp,resolve,invoke,builtin,e2,fC,e8,List.map_toArray,eQ,List.map_nil];rw[hc];rfl
    obtain⟨eC,jR,z,aq,aU,bR,ds,hn,gY,mc,n1⟩:=(tx aI aO).ex;obtain⟨dP,hJ,eY⟩:=hg aI aM;obtain rfl:=qB eY;have pV:z.cells.size=eC.size:=by rw[n1,bR]
    simp only[dY]at he;split at he
    ·
     rename_i ys aS;cases he;unfold l6 at aS;split at aS
     ·rename_i dj xs hR gG agT ad bC;split at aS
      ·rename_i eL;obtain⟨rfl,eL⟩:=eL;subst eL;cases aS;rw[ad]at rx;rw[bC]at jh;simp only[aR]at rx jh;obtain⟨⟨ax,sI,qi,cx1,⟨N5,N6⟩,cx4⟩,rxn,rxo,rxt⟩:=rx;obtain⟨⟨ay,k9,q8,cy1,⟨N7,N8⟩,cy4⟩,_⟩:=jh;have EZ:=rxn trivial;have xJ:(dG.appm d key g.size el x y).makes st=true:=by simp only[dG.makes,ad]
       rw[q8,EZ]at jT;have hK:∀(v':Value) (w':World) (gO:List Value),(sr #[t,t] type #[.slice none 0 0,.slice ay ys.length k9]).run P w= .ok v' w'->w'.ownsRow w.heap.size el g.size v' ys.length gO->w.grownBy w' none->cI w ν g.size ys gO->
         (⟨some d,.call ⟨.builtin .append,⟨[o',hf]⟩,⟨[t,t]⟩⟩,type,pos,after,guard⟩:Oper).wp P a w K Q:=by
        intro v' w' gO f1 f2 f3 f4;obtain⟨iA,hv⟩:=hr.newRowM (k:=κ) (xs:=ys) (.inl (hr.new _ (uh xJ))) f3 f2 f4 aD.1 (ij xJ);exact kn (jT _ _ f1) (dk _ _ _ (iA.put (d:=some d) (by simpa[hE]using J) (hv (FX f2 (by cases ys<;>simp at aD⊢)))))
       by_cases hd:ys=[]
       ·subst hd;exact hK _ w [] (Gp hJ aq none 0 0 (da _) ay k9) (World.ownsRow_nil w _ _ _) (agZ w _) (by simp[cI])
       ·rcases cy4 with cy4|⟨kJ,na,gO,rfl,x1,ma⟩
        ·exact absurd cy4 hd
        ·have je:=qW ma;have rS:∀j u,gO[j]? =some u->w.cell? ((⟨kJ,na,none⟩:Addr).add j)=some u:=fun j u al=>by rw[nU];exact(uB x1 al).2
         have mO:ys.length*eC.bytes<=140737488355328:=by
          have I:eC.bytes<=2048:=by rw[ds];exact ud
          have J:ys.length*eC.bytes<=ys.length*2048:=Nat.mul_le_mul_left _ I;simp only[bA]at aD;omega
         have mR:ys.length<=maxLen:=by simp only[bA]at aD;simp only[maxLen];omega
         obtain⟨v',w',f1,f2,f3,_⟩:=run_append_own (P:=P) w w.heap.size t type el eC z eC.size eC.bytes hJ aq gY rfl rfl pV (by rw[bR];exact fb) (.slice none 0 0) 0 [] (World.ownsRow_nil w _ _ _)
          ⟨kJ,na,none⟩ ys.length k9 gO (by rw[je,bR]) rS (yh ma) (by simpa using mR) (by simpa using mO) (da _)
         exact hK v' w' gO f1 (by rw[<-bR];simpa using f2) (by simpa[ni]using f3) ma
      ·cases aS
     ·split at aS
      ·split at aS
       ·split at aS<;>cases aS
       ·cases aS
      ·cases aS
     ·cases aS
    ·
     rename_i k xs ys aS;cases he;unfold l6 at aS;split at aS
     ·split at aS<;>cases aS
     ·rename_i dj bz n hR gG agT ad bC;split at aS
      ·rename_i eL;obtain⟨rfl,eL⟩:=eL;subst eL;split at aS
       ·rename_i n' eJ tv xs' aa;split at aS
        ·rename_i lM;obtain⟨rfl,rfl,rfl⟩:=lM;cases aS;rw[ad]at rx;rw[bC]at jh;simp only[aR]at rx jh;obtain⟨⟨bx,sI,qi⟩,rxl,n0,nf,fp,fI,nb⟩:=rx;obtain⟨⟨ay,k9,q8,cy1,⟨N7,N8⟩,cy4⟩,_⟩:=jh;obtain⟨v0,eN,b9,cx,dp,c6⟩:=hr.good.own k _ aa;rw[fp]at b9;simp only[dL,gp]at b9 cx;obtain⟨rfl,rfl⟩:=b9;have mr:a.eval o'=nf:=nb rfl;obtain⟨cH,iD,p6⟩:=c6 xs rfl;simp only at cH iD;have s6:eN.length=xs.length*g.size:=by rw[cH];exact cx.1
         have mu:xs.length=n0:=cH;by_cases hd:ys=[]
         ·subst hd;rw[q8,qi]at jT;have lK:n0<=sI:=by
           rcases cx.2 with⟨jJ,uN⟩|⟨bl,cap,cur,jJ,uN,uO,CM,_⟩
           ·rw[uN];exact Nat.zero_le _
           ·rw[<-mr,qi]at jJ;injection jJ with _ _ e;rw[e];exact CM
          have hc:=Gp (P:=P) (w:=w) (ty:=type) hJ aq (some ⟨bx,0,none⟩) n0 sI lK ay k9;refine kn (jT _ _ (by simpa using hc)) (dk _ _ ν ?_);have ih:∀eK,look eK (cR k ⟨n0,eJ,g.size,some xs⟩ st.e)=look eK st.e:=fun eK=>by
           rw[jr];split
           ·rename_i e;subst e;rw[aa]
           ·rfl
          have nC:ct C {st with e:=cR k ⟨n0,eJ,g.size,some xs⟩ st.e} a w ν:=
           ⟨⟨hr.good.alt,hr.good.box,hr.good.inj,fun g o aO=>hr.good.own g o (by rw[<-ih g];exact aO),fun g eK n n' v v' bl bV a2=>hr.good.oinj g eK n n' v v' bl (by rw[<-ih g];exact bV) (by rw[<-ih eK];exact a2),
           fun g j n v bl bV=>hr.good.obx g j n v bl (by rw[<-ih g];exact bV),hr.good.one,fun bl af=>hr.good.otr bl (af.imp id (fun⟨g,n,v,bV,a2⟩=>⟨g,n,v,by rw[<-ih g];exact bV,a2⟩))⟩,hr.fr,hr.defers,hr.size,hr.slot,hr.new,hr.ext,hr.obk⟩
          have av:=nC.put (d:=some d) (by simpa[hE]using J) (p:= .row g.size k n0) (v:= .slice (some ⟨bx,0,none⟩) n0 sI) (by simp only[aR];exact⟨⟨_,_,rfl⟩,rxl,_,_,fp,da _,fun _=>by rw[<-qi];exact mr⟩)
          simpa[mu,e6]using av
         ·have hyp:0<ys.length:=by cases ys<;>simp at hd⊢
          rcases cy4 with cy4|⟨kJ,na,gO,rfl,x1,ma⟩
          ·exact absurd cy4 hd
          ·have je:=qW ma;have rS:∀j u,gO[j]? =some u->w.cell? ((⟨kJ,na,none⟩:Addr).add j)=some u:=fun j u al=>by rw[nU];exact(uB x1 al).2
           have mO:(xs.length+ys.length)*eC.bytes<=140737488355328:=by
            have mN:eC.bytes<=2048:=by rw[ds];exact ud
            have sS:(xs.length+ys.length)*eC.bytes<=(xs.length+ys.length)*2048:=Nat.mul_le_mul_left _ mN;simp only[bA]at aD;omega
           have mR:xs.length+ys.length<=maxLen:=by simp only[bA]at aD;simp only[maxLen];omega
           have ue:cI w ν g.size (xs++ys) (eN++gO):=Ad iD ma;rw[q8,mr]at jT;have xD:(∃v' w',(sr #[t,t] type #[nf,.slice (some ⟨kJ,na,none⟩) ys.length k9]).run P w= .ok v' w'/\w'.ownsRow w.heap.size eJ eC.size v' (xs.length+ys.length) (eN++gO)/\w.grownBy w' none)->
             (⟨some d,.call ⟨.builtin .append,⟨[o',hf]⟩,⟨[t,t]⟩⟩,type,pos,after,guard⟩:Oper).wp P a w K Q:=by
            intro bK;obtain⟨v',w',f1,f2,f3⟩:=bK;obtain⟨iA,hv⟩:=hr.newRowM (k:=k) (xs:=xs++ys) (el:=eJ) (sz:=g.size) (.inr ⟨_,aa,by simp;omega⟩) f3 (by rw[<-bR];simpa using f2) ue (by simpa using aD) (n':=st.n) (o':=st.o)
             (fun j al=>⟨al,fun e=>by subst e;have:=(hr.new _ al).2.1;rw[fp]at this;cases this⟩)
            refine kn (jT _ _ f1) (dk _ _ (ν.withOwn k (xs++ys).length v') ?_);have:=iA.put (d:=some d) (by simpa[hE]using J) (hv (by simpa using FX f2 Ω));simpa[e6]using this
           rcases cx.2 with⟨jJ,uN⟩|⟨bl,cap,cur,jJ,uN,uO,CM,CN,F1,zZ⟩
           ·
            have qO:xs=[]:=l3 Ω;have B4:eN=[]:=l3 (by rw[s6,qO];simp);subst qO;subst B4;refine xD ?_;obtain⟨v',w',f1,f2,f3,_⟩:=run_append_own (P:=P) w w.heap.size t type eJ eC z eC.size eC.bytes hJ aq gY rfl rfl pV (by rw[bR];exact fb) (.slice none 0 0) 0 [] (World.ownsRow_nil w _ _ _)
             ⟨kJ,na,none⟩ ys.length k9 gO (by rw[je,bR]) rS (yh ma) (by simpa using mR) (by simpa using mO) (da _)
            exact⟨v',w',by rw[jJ];exact f1,by simpa using f2,by simpa[ni]using f3⟩
           ·have jf:nf.ownBlock=some bl:=by rw[jJ];rfl
            by_cases nD:xs.length+ys.length<=cap
            ·have hmul:(xs.length+ys.length)*g.size<=cap*g.size:=Nat.mul_le_mul_right _ nD;rw[Nat.add_mul]at hmul;have f1:=run_append_room (P:=P) w t type eJ eC hJ aq bl xs.length cap cur uO ⟨kJ,na,none⟩ ys.length k9 gO (by rw[je,bR]) rS (yh ma) nD (by rw[je,bR];omega);generalize B9:(cur.toList.take (xs.length*eC.size)++gO++cur.toList.drop (xs.length*eC.size+gO.length)).toArray=kV at f1;have lh:(w.setRow bl kV).heap[bl]? =some (.cells kV eJ (0,0)):=setRow_heap w bl cur kV eJ _ uO;have aE:(eN++gO).length=(xs++ys).length*g.size:=by rw[dF,s6,je,dF,Nat.add_mul]
             have bE:cur.toList.take (xs.length*eC.size)=eN:=by rw[mu,bR];exact zZ
             have mq:kV.size=cap*g.size:=by rw[<-B9];simp only[List.size_toArray,dF,pt,kH,Array.length_toList];rw[bR];omega
             have s4:kV.toList.take ((xs++ys).length*g.size)=eN++gO:=by rw[<-B9,bE];simp only[<-aE];rw[List.take_append_of_le_length (da _),jl]
             obtain⟨iA,_,hv⟩:=hr.setRowM (w':=w.setRow bl kV) aa rfl fp jf (v':= .slice (some ⟨bl,0,none⟩) (xs.length+ys.length) cap) rfl (xs':=xs++ys) (us:=eN++gO) (.inr (by simp;omega)) rfl rfl rfl (fun j al=>setRow_other w bl j kV al) (setRow_size w bl kV)
              ⟨aE,.inr ⟨bl,cap,kV,Ψ,Nat.zero_le _,lh,by simpa using nD,CN,mq,s4⟩⟩ ue
             replace hv:=hv (by simpa using aD);refine kn (v:= .slice (some ⟨bl,0,none⟩) (xs.length+ys.length) cap) (w':=w.setRow bl kV) (jT _ _ ?_) (dk _ _ (ν.withOwn k (xs++ys).length (.slice (some ⟨bl,0,none⟩) (xs.length+ys.length) cap)) ?_)
             ·rw[jJ,<-mu];exact f1
             ·have:=iA.put (d:=some d) (by simpa[hE]using J) hv;simpa[e6]using this
            ·refine xD ?_;obtain⟨v',w',f1,f2,f3⟩:=run_append_arg_grows (P:=P) w t type eJ eC z eC.size eC.bytes hJ aq gY rfl rfl pV (by rw[bR];exact fb) ⟨bl,0,none⟩ xs.length cap eN (by rw[s6,bR])
              (fun j u al=>by have:=cx.cells jf j u al;exact this) ⟨kJ,na,none⟩ ys.length k9 gO (by rw[je,bR]) rS Ω mR mO
             exact⟨v',w',by rw[jJ,<-mu];exact f1,f2,f3⟩
        ·cases aS
       ·cases aS
      ·cases aS
     ·cases aS
    ·cases he
   ·cases bE
  ·cases aV
 ·rename_i sz x y t o' hf;simp only[bB,dO]at aj;obtain⟨⟨⟨I,J⟩,av⟩,aV⟩:=aj;subst I;split at J
  ·rename_i f aM;simp only[dO]at J;simp only[dY]at he;generalize I5:bL st.t x=px at he;unfold q2 at he;split at he
   ·rename_i dj k n i xk;split at he
    ·rename_i n' el hR xs aa;split at he
     ·rename_i mo;obtain⟨rfl,rfl⟩:=mo;split at he
      ·rename_i q bG;cases he;obtain⟨c0,cJ,c2,c3,c4⟩:=aD;have rx:=dT hr av;rw[I5]at rx;have jh:=dT hr aV;have uS:=uU jh cJ;have qX:=pf uS;obtain⟨_,ev⟩:=u4 aI aM w;have o5:(a.eval hf).cells.size=sz:=by rw[c2]at qX;simpa using qX
       obtain⟨bl,off,l9,BT,eZ,ν',pR⟩:=hr.storeRow (P:=P) aa rx bG c0 uS (by simpa[o5]using c3) (fun e=>by have:=fT List.length e;simp[o5]at this;omega);refine Df (w':=w.setRow bl l9) ?_ (dk _ _ _ pR);simp only[execOp,Instr.storeAt,BT,Instr.sureAddr,storeVar,e2,fC,e8,ev,o5,J,ne_eq,not_true_eq_false,if_false,eZ]
      ·cases he
     ·cases he
    ·cases he
   ·cases he
  ·cases J
 ·rename_i d el x y o' hf t eB;exact Me aI hr (d:=d) (el:=el) (x:=x) (y:=y) (by simpa only[q0]using aj) (by simpa only[dY]using he) aD dk
 ·rename_i d key sz el z x t o' hf;simp only[bB,dO,ef]at aj;obtain⟨⟨⟨⟨⟨I,J⟩,av⟩,aV⟩,bE⟩,ch⟩:=aj;subst I;split at av
  ·rename_i eJ aM;simp only[dO]at av;subst av;split at aV
   ·rename_i g aO;simp only[bB,dO,ef]at aV;obtain⟨⟨⟨rfl,fb⟩,ud⟩,cn⟩:=aV;obtain rfl:=LU cn;have rx:=dT hr bE;have jh:=dT hr ch;simp only[dY]at he;split at he
    ·rename_i gT n ad;cases he;obtain⟨vR,je⟩:=aD;obtain⟨m,rfl⟩:=Int.eq_ofNat_of_zero_le vR;rw[ad]at rx jh;simp only[aR]at rx jh;obtain⟨eC,jR,bm,aq,aU,bR,ds,hn,gY,mc,n1⟩:=(tx aI aO).ex;obtain⟨dP,hJ,eY⟩:=hg aI aM;obtain rfl:=qB eY;have mR:m<=bA:=by simp only[bA]at je⊢;omega
     have mO:eC.bytes*m<=281474976710656:=by have I:eC.bytes*m<=2048*m:=Nat.mul_le_mul_right _ Ω;simp only[bA]at mR;omega
     obtain⟨abh,EB⟩:=LS w ν mc;obtain⟨w',g1,g2,g3⟩:=run_make_full (P:=P) w w.heap.size t el eC bm eC.size hJ aq gY rfl gT gT m mO (by simp only[maxLen];simp only[bA]at mR;omega) (da _);have kc:w'.ownsRow w.heap.size el g.size (.slice (some ⟨w.heap.size,0,none⟩) m m) (List.replicate m g.zero).length (madeCells bm.cells (m*bm.cells.size)).toList:=by rw[bR,<-n1]at g2;rw[List.length_replicate,<-n1];exact g2
     obtain⟨fp,fI⟩:=hr.newRowM (k:=κ) (xs:=List.replicate m g.zero) (.inl (hr.new _ (uh rfl))) g3 kc (by rw[<-n1];exact Rw abh Ω (Ag EB) m) (by simpa using mR) (ij rfl);simp only[List.length_replicate]at fp fI;simp only[Int.toNat_natCast]at dk;refine kn (v:= .slice (some ⟨w.heap.size,0,none⟩) m m) (w':=w') ?_ (dk _ _ _ (fp.put (d:=some d) (by simpa[hE]using J) (p:= .row g.size κ m) (fI ⟨_,_,rfl⟩)));simp only[execOp];refine C9 ?_;rw[rx,jh];exact g1
    ·cases he
   ·cases aV
  ·cases av
 ·cases aj
theorem Ml{N:Nat}{bs:List (Nat×du)}{d:Nat}{key:be Nat}{o:Oper}(h:q0 N bs (.mkmap d key) o=true):key≠some 861:=by
 rintro rfl;obtain⟨dst,op,type,pos,after,guard⟩:=o;generalize aw:dG.mkmap d (some 861)=i at h;unfold q0 at h;dsimp only at h;split at h<;>first|(cases aw;done)|(cases h;done)|skip
 cases aw;simp at h
theorem Vi{N:Nat}{bs:List (Nat×du)}{st:bb}{d:Nat}{key:be Nat}{x:cS}{o:Oper}(h:q0 N bs (.range d key x) o=true):iy st key≠ .obj 861:=by
 intro e;obtain rfl:=FK e;obtain⟨dst,op,type,pos,after,guard⟩:=o;generalize aw:dG.range d (some 861) x=i at h;unfold q0 at h;dsimp only at h;split at h<;>first|(cases aw;done)|(cases h;done)|skip
 cases aw;simp at h
theorem afp{P:bW}{bs:List (Nat×du)}(aI:fS P bs=true){C:eH}{st st':bb}{a:Act}{w:World}{ν:aT}(hr:ct C st a w ν){i:dG}{o:Oper}(aj:q0 C.N bs i o=true)
  {c:Prop} (he:lu st i=some (c,st')) (aD:c) {K:Act->World->Prop} {Q:Exit->Act->World->Prop} (dk:∀cV w' ν',ct C st' cV w' ν'->K cV w'):o.wp P a w K Q:=by
 have od:pX st none->fresh st.n st.o (.loc st.n):=fun h=>wc (key:=none) h;have qK:∀j,fresh (st.n+1) st.o j->fresh st.n st.o j/\j≠ .loc st.n:=we (key:=none);cases i with
 |v d i=>exact iE (κ:= .loc 0) (n':=0) (o₁:=[]) aI hr aj (fun h=>by simp[dG.makes]at h) (fun h=>by simp[dG.makes]at h) (by simpa only[lu,dY]using he) aD dk
 |box d key x=>simp only[lu]at he;cases he;exact iE (κ:=iy st key) (n':=mX st key) (o₁:=mY st key) aI hr aj (fun _=>wc aD.1) (fun _=>we) (by simp only[dY]) aD.2 dk (hB:=FK)
 |alloc d key z=>simp only[lu]at he;cases he;exact iE (κ:=iy st key) (n':=mX st key) (o₁:=mY st key) aI hr aj (fun _=>wc aD) (fun _=>we) (by simp only[dY]) trivial dk (hB:=FK)
 |mks d key sz el z x=>
  simp only[lu]at he;split at he
  ·rename_i gT n ad;cases he;exact iE (κ:=iy st key) (n':=mX st key) (o₁:=mY st key) aI hr aj (fun _=>wc aD.1) (fun _=>we) (by simp only[dY,ad]) aD.2 dk
  ·cases he
 |apps d el x y=>exact Me aI hr aj (by simpa only[lu]using he) aD dk
 |storeE sz x y=>exact iE (κ:= .loc 0) (n':=0) (o₁:=[]) aI hr aj (fun h=>by simp[dG.makes]at h) (fun h=>by simp[dG.makes]at h) (by simpa only[lu,dY]using he) aD dk
 |store sz x y=>exact iE (κ:= .loc 0) (n':=0) (o₁:=[]) aI hr aj (fun h=>by simp[dG.makes]at h) (fun h=>by simp[dG.makes]at h) (by simpa only[lu,dY]using he) aD dk
 |bsl d sz el xs=>simp only[lu]at he;cases he;exact iE (κ:= .loc st.n) (n':=st.n+1) (o₁:=st.o) aI hr aj (fun _=>od aD.1) (fun _=>qK) (by simp only[dY]) aD.2 dk
 |bslm d key sz el xs=>simp only[lu]at he;cases he;exact iE (κ:=iy st key) (n':=mX st key) (o₁:=mY st key) aI hr aj (fun _=>wc aD.1) (fun _=>we) (by simp only[dY]) aD.2 dk
 |appm d key sz el x y=>
  simp only[lu]at he;split at he
  ·rename_i ys aS;cases he;exact iE (κ:=iy st key) (n':=mX st key) (o₁:=mY st key) aI hr aj (fun _=>wc aD.1) (fun _=>we) (by simp only[dY,aS]) aD.2 dk
  ·rename_i k xs ys aS;cases he;refine iE (κ:= .loc 0) (n':=0) (o₁:=[]) aI hr aj (fun h=>?_) (fun h=>?_) (by simp only[dY,aS]) aD dk;all_goals
    exfalso
    simp only[dG.makes]at h
    split at h
    ·rename_i ad
     unfold l6 at aS
     rw[ad]at aS
     split at aS
     ·split at aS<;>cases aS
     ·rename_i I _;cases I
     ·cases aS
    ·cases h
  ·cases he
 |mkmap d key=>simp only[lu]at he;cases he;exact iE (κ:=iy st key) (n':=mX st key) (o₁:=mY st key) aI hr aj (fun _=>wc aD) (fun _=>we) (by simp only[dY]) trivial dk (hB:=fun e=>Ml aj (FK e))
 |mput b0 x k v=>exact iE (κ:= .loc 0) (n':=0) (o₁:=[]) aI hr aj (fun h=>by simp[dG.makes]at h) (fun h=>by simp[dG.makes]at h) (by simpa only[lu,dY]using he) aD dk
 |range d key x=>
  simp only[lu]at he;split at he
  ·rename_i m ad;split at he
   ·rename_i cs cT;split at he
    ·rename_i cs' hm;cases he;exact iE (κ:=iy st key) (n':=mX st key) (o₁:=mY st key) aI hr aj (fun _=>wc aD) (fun _=>we) (by simp only[dY,ad,cT,hm]) trivial dk (hB:=Vi aj)
    ·cases he
   ·cases he
  ·cases he
 |app d sz el x y=>
  simp only[lu]at he;split at he
  ·rename_i dj tag xs hR gG ys ad bC;split at he
   ·rename_i eL;split at he
    ·rename_i k;split at he
     ·rename_i ow aa;cases he;refine iE (κ:= .loc 0) (n':=0) (o₁:=[]) aI hr aj (fun h=>by simp[dG.makes,ad]at h) (fun h=>by simp[dG.makes,ad]at h) ?_ aD dk;simp only[dY,ad,bC,eL,and_self,if_true,aa]
     ·cases he
    ·cases he;refine iE (κ:= .loc st.n) (n':=st.n+1) (o₁:=st.o) aI hr aj (fun _=>od aD.1) (fun _=>qK) ?_ aD.2 dk;simp only[dY,ad,bC,eL,and_self,if_true]
    ·cases he
   ·cases he
  ·cases he
structure dM where
 b:List (aJ×List ag)
 e:List (aJ×dw)
def gE(ν:aT)(s:dM)(bl:Nat):Prop:=(∃k,(look k s.b).isSome/\ν.bx k=some bl)\/(∃g n v,(look g s.e).isSome/\ν.ow g=some (n,v)/\v.ownBlock=some bl)
def sN(ν:aT)(s:dM):Prop:= ∀k,(look k s.b=none->ν.bx k=none)/\(look k s.e=none->ν.ow k=none)/\∀j b,¬ν.tr k j b
def fY(s:dM):List aJ:=s.b.map (·.1)++s.e.map (·.1)
def js(s:dM):Prop:=(∀m,look (.loc m) s.b=none)/\(∀m,look (.loc m) s.e=none)
def va(P:bW)(f:FuncId)(vs:Array Value)(w:World)(R:Ending->World->Prop):Prop:=((∃fn,P.funcs[f]? =some fn/\fn.body.isSome=true/\(fn.name== "runtime.NumGoroutine")=false)/\Calls P f vs w R)\/ ∃v w',(callFunc f vs).run P w= .ok (.value v) w'/\R (.returned v) w'
def bT(P:bW)(f:FuncId)(args:List ag)(s:dM)(Q:ag->dM->Prop):Prop:=
 ∀(w:World) (ν:aT) (vs:Array Value) (gl:nQ w ν),Good (gE ν s) w ν s.b s.e->sN ν s->cD w ν args vs.toList->
  va P f vs w fun e w'=> ∃v r aC ν',e= .returned v/\Q r aC/\aR w' ν' r v/\Good (fun bl=>gE ν s bl\/w.heap.size<=bl) w' ν' aC.b aC.e/\sN ν' aC/\js aC/\sC ⟨w,ν,gE ν s,0,fY s,gl,[]⟩ w' ν'
def D3(κ:be Nat)(ν:aT)(s:dM):Prop:= ∀k,(look k s.b=none->ν.bx k=none)/\(look k s.e=none->ν.ow k=none)/\∀j b,ν.tr k j b->∃m,κ=some m/\k= .loc m
theorem sN.k{ν:aT}{s:dM}(h:sN ν s):D3 none ν s:=fun k=>⟨(h k).1,(h k).2.1,fun j b af=>absurd af ((h k).2.2 j b)⟩
def GK(P:bW)(f:FuncId)(κ:Nat)(args:List ag)(s:dM)(Q:ag->dM->Prop):Prop:=
 ∀(w:World) (ν:aT) (vs:Array Value) (gl:nQ w ν),Good (gE ν s) w ν s.b s.e->sN ν s->cD w ν args vs.toList->
  va P f vs w fun e w'=> ∃v r aC ν',e= .returned v/\Q r aC/\aR w' ν' r v/\Good (fun bl=>gE ν s bl\/w.heap.size<=bl) w' ν' aC.b aC.e/\D3 (some κ) ν' aC/\js aC/\sC ⟨w,ν,gE ν s,0,fY s,gl,[]⟩ w' ν'
def cg(P:bW)(f:FuncId)(args:List ag)(r:ag):Prop:=bT P f args ⟨[],[]⟩ fun dt aC=>dt=r/\aC=⟨[],[]⟩
theorem v7{α:Type}{k:aJ}{x:α}:∀{l:List (aJ×α)},look k l=some x->(k,x)∈l
 |[],h=>by simp[look]at h
 |(i,y)::r,h=>by
  simp only[look]at h;split at h
  ·rename_i e;subst e;cases h;simp
  ·exact List.mem_cons_of_mem _ (v7 h)
theorem zP{s:dM}{k:aJ}(h:(look k s.b).isSome\/(look k s.e).isSome):k∈fY s:=by
 unfold fY;rcases h with h|h<;>obtain⟨x,ad⟩:=fv.1 h<;>have:=v7 ad
 ·exact rf _ (pv.2 ⟨_,this,rfl⟩)
 ·exact List.mem_append_right _ (pv.2 ⟨_,this,rfl⟩)
section
open Classical
noncomputable def aT.cut(ν:aT)(S:aJ->Prop):aT:={A:=ν.A,bx:=fun k=>if S k then ν.bx k else none,ow:=fun k=>if S k then ν.ow k else none,tr:=fun k j b=>S k/\ν.tr k j b}
theorem aT.cut_bx{ν:aT}{S:aJ->Prop}{k:aJ}(h:S k):(ν.cut S).bx k=ν.bx k:=by simp[aT.cut,h]
theorem aT.cut_ow{ν:aT}{S:aJ->Prop}{k:aJ}(h:S k):(ν.cut S).ow k=ν.ow k:=by simp[aT.cut,h]
theorem aT.cut_no{ν:aT}{S:aJ->Prop}{k:aJ}(h:¬S k):(ν.cut S).bx k=none/\(ν.cut S).ow k=none/\∀j b,¬(ν.cut S).tr k j b:=by simp[aT.cut,h]
theorem aT.cut_some{ν:aT}{S:aJ->Prop}{k:aJ}{b:Nat}(h:(ν.cut S).bx k=some b):S k/\ν.bx k=some b:=by
 by_cases ao:S k
 ·exact⟨ao,by rw[aT.cut_bx ao]at h;exact h⟩
 ·rw[(aT.cut_no ao).1]at h;cases h
theorem aT.cut_someO{ν:aT}{S:aJ->Prop}{k:aJ}{b:Nat×Value}(h:(ν.cut S).ow k=some b):S k/\ν.ow k=some b:=by
 by_cases ao:S k
 ·exact⟨ao,by rw[aT.cut_ow ao]at h;exact h⟩
 ·rw[(aT.cut_no ao).2.1]at h;cases h
theorem nQ.cut{w:World}{ν:aT}(h:nQ w ν)(S:aJ->Prop):nQ w (ν.cut S):=h
theorem nS.cut(S:aJ->Prop)(w:World)(ν:aT):nS S w ν w (ν.cut S):=⟨fun _ _ h=>⟨h,rfl⟩,fun k b aa h=>by rw[aT.cut_bx aa];exact h,fun g n u aO h=>⟨n,u,by rw[aT.cut_ow aO];exact h,.inl ⟨rfl,rfl⟩⟩,fun _ _ _=>rfl,fun _ _ _ aa h=>⟨aa,h⟩⟩
end
def oA(S:aJ->Prop)(fy b:List (aJ×List ag)):Prop:= ∀k cs,look k fy=some cs->look k b=some cs/\S k/\ai S cs
def oB(S:aJ->Prop)(iX e:List (aJ×dw)):Prop:= ∀k o,look k iX=some o->look k e=some o/\S k/\b6 S o
theorem Good.cut{pr SB:Nat->Prop}{w:World}{ν:aT}{b fy:List (aJ×List ag)}{e iX:List (aJ×dw)}(h:Good pr w ν b e){S:aJ->Prop}(af:oA S fy b)(he:oB S iX e)
  (nB:∀bl,pr bl->(∃k,(look k fy).isSome/\(ν.cut S).bx k=some bl)\/(∃g n v,(look g iX).isSome/\(ν.cut S).ow g=some (n,v)/\v.ownBlock=some bl)->SB bl):Good SB w (ν.cut S) fy iX:=by
 have uc:∀k,(look k fy).isSome->(look k b).isSome/\S k:=fun k aa=>by obtain⟨cs,cT⟩:=fv.1 aa;have:=af k cs cT;exact⟨by simp[this.1],this.2.1⟩
 have oX:∀k,(look k iX).isSome->(look k e).isSome/\S k:=fun k aa=>by obtain⟨cs,cT⟩:=fv.1 aa;have:=he k cs cT;exact⟨by simp[this.1],this.2.1⟩
 refine⟨h.alt,fun k cs aa=>?_,fun k bz bl I J av aV=>?_,fun g o aO=>?_,fun g eK n n' v v' bl I J av aV bE ch=>?_,fun g k n v bl I J av aV bE=>?_,fun k=>?_,fun bl aI k j al=>?_⟩
 ·obtain⟨g1,g2,g3⟩:=af k cs aa;obtain⟨bl,us,el,f1,f2,f3,f4,f5⟩:=h.box k cs g1;have jE:(ν.cut S).bx k=some bl:=by rw[aT.cut_bx g2];exact f1
  exact⟨bl,us,el,jE,nB bl f2 (.inl ⟨k,by simp[aa],jE⟩),f3,f4,Tg (nS.cut S w ν) g3 f5⟩
 ·obtain⟨bV,a2⟩:=uc k I;obtain⟨bQ,b3⟩:=uc bz J;exact h.inj k bz bl bV bQ (aT.cut_some av).2 (aT.cut_some aV).2
 ·obtain⟨g1,g2,g3⟩:=he g o aO;obtain⟨v,us,f1,f2,f3,f4⟩:=h.own g o g1;have nA:(ν.cut S).ow g=some (o.n,v):=by rw[aT.cut_ow g2];exact f1
  exact⟨v,us,nA,f2,fun bl er=>⟨nB bl (f3 bl er).1 (.inr ⟨g,o.n,v,by simp[aO],nA,er⟩),(f3 bl er).2⟩,
   fun xs ad=>⟨(f4 xs ad).1,Gf (nS.cut S w ν) _ _ _ (g3 xs ad) (f4 xs ad).2.1,(f4 xs ad).2.2⟩⟩
 ·obtain⟨bV,a2⟩:=oX g I;obtain⟨bQ,b3⟩:=oX eK J;exact h.oinj g eK n n' v v' bl bV bQ (aT.cut_someO av).2 (aT.cut_someO aV).2 bE ch
 ·obtain⟨bV,a2⟩:=oX g I;obtain⟨bQ,b3⟩:=uc k J;exact h.obx g k n v bl bV bQ (aT.cut_someO av).2 aV (aT.cut_some bE).2
 ·by_cases ao:S k
  ·rw[aT.cut_bx ao,aT.cut_ow ao];exact h.one k
  ·exact .inl (aT.cut_no ao).1
 ·refine h.otr bl ?_ k j al.2;rcases aI with⟨bz,bV,a2⟩|⟨g,n,v,bV,a2,a3⟩
  ·exact .inl ⟨bz,(uc bz bV).1,(aT.cut_some a2).2⟩
  ·exact .inr ⟨g,n,v,(oX g bV).1,(aT.cut_someO a2).2,a3⟩
structure nT (ob:List aJ) (st st':bb):Prop where
 t:∀x∈st'.t,get x.1 st.t=x.2/\ak (fun k=> ¬fresh st'.n st'.o k) x.2
 b:oA (fun k=> ¬fresh st'.n st'.o k) st'.b st.b
 e:oB (fun k=> ¬fresh st'.n st'.o k) st'.e st.e
 o:∀m∈ob,m∈st'.o
theorem Pl:∀(i:Nat) (l:List (Nat×ag)),get i l= .junk\/(i,get i l)∈l
 |_,[]=>.inl rfl
 |i,(j,p)::r=>by
  by_cases h:j=i
  ·subst h;right;simp[get]
  ·rcases Pl i r with I|I
   ·left;simp[get,h,I]
   ·right;simp[get,h];right;exact I
theorem ct.weaker{C:eH}{st st':bb}{a:Act}{w:World}{ν:aT}(h:ct C st a w ν)(hw:nT C.ob st st'):ct C st' a w (ν.cut fun k=> ¬fresh st'.n st'.o k):=by
 refine⟨h.good.cut hw.b hw.e (fun bl bq _=>bq),⟨h.fr.os,h.fr.tape,h.fr.output,h.fr.size,h.fr.block,h.fr.keep,h.fr.fresh,fun n b af=>?_,h.fr.obn,fun m n u hm=>?_,h.fr.obr,fun k j bz e4 b I J=>h.fr.trd k j bz e4 b I.2 J.2,fun k j b af=>h.fr.trb k j b af.2,fun k j b af=>?_,h.fr.sh,fun j n u b aq aU=>h.fr.nrow j n u b (aT.cut_someO aq).2 aU⟩,h.defers,h.size,fun i=>?_,fun k aa=>aT.cut_no (fun aK=>aK aa),fun x ad=>⟨sd (nS.cut _ w ν) _ _ (uA (fun k aa aM=>aM.2 (hw.o k aa)) _ (h.ext x ad).2) (h.ext x ad).1,(h.ext x ad).2⟩,fun m hm aM=>aM.2 (hw.o m hm)⟩
 ·rw[aT.cut_bx (fun bK=>bK.2 (hw.o _ (h.fr.obn n b af)))];exact h.fr.obj n b af
 ·rw[aT.cut_ow (fun bK=>bK.2 (hw.o _ (h.fr.obr m n u hm)))];exact h.fr.row m n u hm
 ·rw[aT.cut_bx af.1,aT.cut_ow af.1];exact h.fr.trn k j b af.2
 ·rcases Pl i st'.t with al|hm
  ·rw[al];simp[aR]
  ·obtain⟨I,J⟩:=hw.t _ hm;simp only at I;have:=h.slot i;rw[I]at this;exact sd (nS.cut _ w ν) _ _ J this
mutual
def dr:ag->ag
 | .slice sz _ xs=>.slice sz .no (cO xs)
 | .agg cs=>.agg (cO cs)
 | .tuple vs=>.tuple (cO vs)
 | .eptr x=>.eptr (dr x)
 | .iface t x=>.iface t (dr x)
 | .func f dI=>.func f (cO dI)
 |p=>p
def cO:List ag->List ag
 |[]=>[]
 |x::xs=>dr x::cO xs
end
theorem mA:∀xs,(cO xs).length=xs.length
 |[]=>rfl
 |x::xs=>by simp[cO,mA xs]
mutual
theorem Ec{t:Bool}{w:World}{A:Nat->Nat->Prop}:∀(p:ag) (F:Nat->Prop) (v:Value),dy t w A F p v->dy t w A F (dr p) v
 | .int _ _,_,_,h=>by simpa only[dr]using h
 | .bool _,_,_,h=>by simpa only[dr]using h
 | .str _,_,_,h=>by simpa only[dr]using h
 | .slice sz tag xs,F,v,h=>by
  simp only[dy,dr]at h⊢;obtain⟨a,cap,I,J,av,aV⟩:=h;refine⟨a,cap,by rw[mA];exact I,by rw[mA];exact J,by rw[mA];exact av,?_⟩;rcases aV with rfl|⟨b,off,us,G,aq,aU,bR,ds,hn,gY⟩
  ·exact .inl rfl
  ·exact .inr ⟨b,off,us,G,aq,aU,bR,ds,hn,Pb sz xs G us gY⟩
 | .agg cs,F,v,h=>by simp only[dy,dr]at h⊢;obtain⟨us,I,J⟩:=h;exact⟨us,I,Pc cs F _ J⟩
 | .junk,_,_,h=>by simp[dy]at h
 | .ptr _ _,_,_,h=>by simp[dy]at h
 | .eptr _,_,_,h=>by simp[dy]at h
 | .iface _ _,_,_,h=>by simp[dy]at h
 | .nilp,_,_,h=>by simp[dy]at h
 | .tuple _,_,_,h=>by simp[dy]at h
 | .func _ _,_,_,h=>by simp[dy]at h
 | .gmap _,_,_,h=>by simp[dy]at h
 | .row _ _ _,_,_,h=>by simp[dy]at h
 | .rptr _ _ _ _ _,_,_,h=>by simp[dy]at h
 | .hdm _ _,_,_,h=>by simp[dy]at h
 | .hdi _ _ _,_,_,h=>by simp[dy]at h
 | .cst _,_,_,h=>by simp[dy]at h
theorem Pc{t:Bool}{w:World}{A:Nat->Nat->Prop}:∀(cs:List ag) (F:Nat->Prop) (us:List Value),n4 t w A F cs us->n4 t w A F (cO cs) us
 |[],_,_,h=>by simpa only[cO]using h
 |c::cs,F,us,h=>by simp only[n4,cO]at h⊢;obtain⟨u,bF,jx,jy,I,J,⟨bE,ch⟩,dD⟩:=h;exact⟨u,bF,jx,jy,I,J,⟨Ec c jx u bE,ch⟩,Pc cs jy bF dD⟩
theorem Pb{t:Bool}{w:World}{A:Nat->Nat->Prop}(sz:Nat):∀(cs:List ag) (F:Nat->Prop) (us:List Value),n3 t w A F sz cs us->n3 t w A F sz (cO cs) us
 |[],_,_,h=>by simpa only[cO]using h
 |c::cs,F,us,h=>by simp only[n3,cO]at h⊢;obtain⟨u,bF,jx,jy,I,J,⟨bE,ch⟩,dD⟩:=h;exact⟨u,bF,jx,jy,I,J,⟨Ec c jx u bE,ch⟩,Pb sz cs jy bF dD⟩
end
theorem H6{t:Bool}{w:World}{A:Nat->Nat->Prop}{F:Nat->Prop}{sz:Nat}{tag:yN}(gG:yN){xs:List ag}(v:Value)(h:dy t w A F (.slice sz tag xs) v):dy t w A F (.slice sz gG (cO xs)) v:=by have:=Ec _ F v h;simp only[dr,dy]at this⊢;exact this
mutual
theorem yk{w:World}{ν:aT}:∀(p:ag) (v:Value),aR w ν p v->aR w ν (dr p) v
 | .junk,_,h=>by simpa only[dr]using h
 | .int k n,_,h=>by simpa only[dr]using h
 | .bool b,_,h=>by simpa only[dr]using h
 | .str s,_,h=>by simpa only[dr]using h
 | .slice sz tag xs,v,h=>by
  simp only[aR,dr]at h⊢;obtain⟨⟨a,cap,I,J,av,aV⟩,bE,ch⟩:=h;refine⟨⟨a,cap,by rw[mA];exact I,by rw[mA];exact J,by rw[mA];exact av,?_⟩,fun e=>(by cases e),fun g e=>(by cases e),fun _ _ e=>(by cases e),fun _ e=>(by cases e)⟩;rcases aV with rfl|⟨b,off,us,aV,ch,dD⟩
  ·exact .inl rfl
  ·exact .inr ⟨b,off,us,aV,ch,Tl sz xs us dD⟩
 | .agg cs,v,h=>by simp only[aR,dr]at h⊢;obtain⟨us,I,J⟩:=h;exact⟨us,I,Tp cs _ J⟩
 | .ptr key off,v,h=>by simpa only[dr]using h
 | .iface t x,v,h=>by simp only[aR,dr]at h⊢;obtain⟨u,I,J⟩:=h;exact⟨u,I,yk x u J⟩
 | .eptr x,v,h=>by simp only[aR,dr]at h⊢;obtain⟨b,off,u,I,J,av⟩:=h;exact⟨b,off,u,I,yk x u J,av⟩
 | .nilp,_,h=>by simpa only[dr]using h
 | .tuple vs,v,h=>by simp only[aR,dr]at h⊢;obtain⟨us,I,J⟩:=h;exact⟨us,I,Gk vs _ J⟩
 | .func f dI,v,h=>by simp only[aR,dr]at h⊢;obtain⟨us,I,J⟩:=h;exact⟨us,I,Gk dI _ J⟩
 | .gmap key,v,h=>by simpa only[dr]using h
 | .row _ _ _,v,h=>by simpa only[dr]using h
 | .rptr _ _ _ _ _,v,h=>by simpa only[dr]using h
 | .cst _,v,h=>by simpa only[dr]using h
theorem Tp{w:World}{ν:aT}:∀(cs:List ag) (us:List Value),cG w ν cs us->cG w ν (cO cs) us
 |[],_,h=>by simpa only[cO]using h
 |c::cs,us,h=>by simp only[cG,cO]at h⊢;obtain⟨u,bF,I,J,av⟩:=h;exact⟨u,bF,I,⟨yk c u J.1,J.2⟩,Tp cs bF av⟩
theorem Gk{w:World}{ν:aT}:∀(cs:List ag) (us:List Value),cD w ν cs us->cD w ν (cO cs) us
 |[],_,h=>by simpa only[cO]using h
 |c::cs,us,h=>by simp only[cD,cO]at h⊢;obtain⟨u,bF,I,J,av⟩:=h;exact⟨u,bF,I,yk c u J,Gk cs bF av⟩
theorem Tl{w:World}{ν:aT}(sz:Nat):∀(xs:List ag) (us:List Value),cI w ν sz xs us->cI w ν sz (cO xs) us
 |[],_,h=>by simpa only[cO]using h
 |x::xs,us,h=>by simp only[cI,cO]at h⊢;obtain⟨u,bF,I,⟨J,av,aV⟩,bE⟩:=h;exact⟨u,bF,I,⟨yk x u J,av,aV⟩,Tl sz xs bF bE⟩
end
def ah(s:dM)(k:aJ):Prop:=(look k s.b).isSome=true\/(look k s.e).isSome=true
def bu{α β:Type}(s:List (aJ×β)):List (aJ×α)->List (aJ×α)
 |[]=>[]
 |(k,x)::r=>match look k s with
  |some _=>bu s r
  |none=>(k,x)::bu s r
theorem te{α β:Type}(s:List (aJ×β))(k:aJ):∀l:List (aJ×α),look k (bu s l)=if(look k s).isSome then none else look k l
 |[]=>by simp[bu,look]
 |(i,x)::r=>by
  simp only[bu];by_cases e:i=k
  ·subst e;cases h:look i s with
   |some y=>simp[te s i r,h]
   |none=>simp[look]
  ·cases h:look i s with
   |some y=>simp[te s k r,look,e]
   |none=>simp[look,e,te s k r]
theorem x0{α:Type}(k:aJ):∀l cQ:List (aJ×α),look k (l++cQ)=match look k l with|some x=>some x|none=>look k cQ
 |[],cQ=>by simp[look]
 |(i,x)::r,cQ=>by
  by_cases e:i=k
  ·simp[look,e]
  ·simp[look,e,x0 k r cQ]
def after(st:bb)(s aC:dM)(d:be Nat)(r:ag):bb:={t:=e6 d r st.t,b:=bu s.b st.b++aC.b,e:=bu s.e st.e++aC.e,n:=st.n,o:=st.o++fY aC}
section
open Classical
noncomputable def aT.join(ν ν':aT)(s aC:dM):aT:={A:=ν'.A,bx:=fun k=>if(look k s.b).isSome\/(look k aC.b).isSome then ν'.bx k else ν.bx k,ow:=fun k=>if(look k s.e).isSome\/(look k aC.e).isSome then ν'.ow k else ν.ow k,tr:=fun k j b=>ν.tr k j b\/ν'.tr k j b}
end
theorem ct.callK{C:eH}{st:bb}{a:Act}{w w':World}{ν ν':aT}(h:ct C st a w ν){s aC:dM}(af:oA (ah s) s.b st.b)(he:oB (ah s) s.e st.e)(o3:js s)
  (aO:Good (fun bl=>gE (ν.cut (ah s)) s bl\/w.heap.size<=bl) w' ν' aC.b aC.e) {κ:be Nat} (ad:D3 κ ν' aC) (Fe:∀m,κ=some m->ν.bx (.loc m)=none/\ν.ow (.loc m)=none/\∀j b,¬ν.tr (.loc m) j b) {n':Nat} {o':List aJ} (ij:∀k,fresh n' o' k->fresh st.n (st.o++fY aC) k/\∀m,κ=some m->k≠ .loc m) (rT:js aC) (aM:sC ⟨w,ν.cut (ah s),gE (ν.cut (ah s)) s,0,fY s,h.fr.gl.cut _,[]⟩ w' ν')
  (I1:∀m,(look (.obj m) aC.b).isSome->(look (.obj m) s.b).isSome\/ .obj m∉st.o) (cE:∀m,(look (.obj m) aC.e).isSome->(look (.obj m) s.e).isSome\/ .obj m∉st.o) (d:be Nat) (a7:hE C.N d=true) {r:ag} {v:Value} (hr:aR w' ν' r v):
  ct C {after st s aC d r with n:=n',o:=o'} (a.put d v) w' (ν.join ν' s aC):=by
 have vU:∀k,(look k s.b).isSome->(look k st.b).isSome:=fun k aa=>by obtain⟨cs,cT⟩:=fv.1 aa;simp[(af k cs cT).1]
 have ll:∀k,(look k s.e).isSome->(look k st.e).isSome:=fun k aa=>by obtain⟨cs,cT⟩:=fv.1 aa;simp[(he k cs cT).1]
 have aa6:∀k,(look k aC.b).isSome->¬(look k s.b).isSome->ν.bx k=none:=fun k aa aK=>by
  cases k with
  |loc m=>rw[rT.1 m]at aa;cases aa
  |obj m=>exact(h.new (.obj m) ⟨trivial,(I1 m aa).resolve_left aK⟩).1
 have aa7:∀k,(look k aC.e).isSome->¬(look k s.e).isSome->ν.ow k=none:=fun k aa aK=>by
  cases k with
  |loc m=>rw[rT.2 m]at aa;cases aa
  |obj m=>exact(h.new (.obj m) ⟨trivial,(cE m aa).resolve_left aK⟩).2.1
 have ab5:∀k,(look k s.b).isSome->(ν.join ν' s aC).bx k=ν'.bx k:=fun k aa=>by simp[aT.join,aa]
 have QT:∀k,(look k aC.b).isSome->(ν.join ν' s aC).bx k=ν'.bx k:=fun k aa=>by simp[aT.join,aa]
 have QU:∀k,ν.bx k≠none->¬(look k s.b).isSome->(ν.join ν' s aC).bx k=ν.bx k:=fun k I J=>by have av:¬(look k aC.b).isSome:=fun av=>I (aa6 k av J);simp[aT.join,J,av]
 have ab6:∀k,(look k s.e).isSome->(ν.join ν' s aC).ow k=ν'.ow k:=fun k aa=>by simp[aT.join,aa]
 have Jz:∀k,(look k aC.e).isSome->(ν.join ν' s aC).ow k=ν'.ow k:=fun k aa=>by simp[aT.join,aa]
 have JA:∀k,ν.ow k≠none->¬(look k s.e).isSome->(ν.join ν' s aC).ow k=ν.ow k:=fun k I J=>by have av:¬(look k aC.e).isSome:=fun av=>I (aa7 k av J);simp[aT.join,J,av]
 have Uz:∀k b,ν'.bx k=some b->(look k aC.b).isSome:=fun k b aa=>by
  cases aE:look k aC.b with
  |some _=>rfl
  |none=>rw[(ad k).1 aE]at aa;cases aa
 have UA:∀k b,ν'.ow k=some b->(look k aC.e).isSome:=fun k b aa=>by
  cases aE:look k aC.e with
  |some _=>rfl
  |none=>rw[(ad k).2.1 aE]at aa;cases aa
 have aj:lA w ν w' (ν.join ν' s aC):=by
  refine⟨fun b o bg=>aM.keep b o bg,fun k b _ aa=>?_,fun g n u _ aO=>?_,fun b o bg=>aM.sh b o bg,fun _ _ _ _ h=>.inl h⟩
  ·by_cases ao:(look k s.b).isSome
   ·rw[ab5 k ao];cases k with
    |loc m=>rw[o3.1 m]at ao;cases ao
    |obj m=>exact aM.obj m b (by rw[aT.cut_bx (.inl ao)];exact aa)
   ·rw[QU k (by rw[aa];simp) ao];exact aa
  ·by_cases ao:(look g s.e).isSome
   ·rw[ab6 g ao];cases g with
    |loc m=>rw[o3.2 m]at ao;cases ao
    |obj m=>exact aM.row m n u (by rw[aT.cut_ow (.inr ao)];exact aO)
   ·rw[JA g (by rw[aO];simp) ao];exact⟨n,u,aO,.inl ⟨rfl,rfl⟩⟩
 have hN:lA w' ν' w' (ν.join ν' s aC):=⟨fun b o bg=>⟨bg,rfl⟩,fun k b _ aa=>by rw[QT k (Uz k b aa)];exact aa,fun g n u _ aa=>⟨n,u,by rw[Jz g (UA g _ aa)];exact aa,.inl ⟨rfl,rfl⟩⟩,fun _ _ _=>rfl,fun _ _ _ _ h=>.inr h⟩
 have n7:∀bl,gE (ν.cut (ah s)) s bl->C.pr bl/\bl<w.heap.size:=by
  intro bl er;rcases er with⟨k,I,J⟩|⟨g,n,u,I,J,av⟩
  ·have aV:=(aT.cut_some J).2;obtain⟨cs,cT⟩:=fv.1 (vU k I);obtain⟨h8,us,el,g1,g2,_⟩:=h.good.box k cs cT;rw[aV]at g1;cases g1;exact⟨g2,h.good.boxLt cT aV⟩
  ·have aV:=(aT.cut_someO J).2;obtain⟨o,E1⟩:=fv.1 (ll g I);obtain⟨v',us,g1,g2,g3,_⟩:=h.good.own g o E1;rw[aV]at g1;cases g1;exact⟨(g3 bl av).1,h.good.ownLt E1 aV av⟩
 have Qi:∀bl,gE (ν.cut (ah s)) s bl\/w.heap.size<=bl->C.pr bl:=fun bl er=>by
  rcases er with er|er
  ·exact(n7 bl er).1
  ·exact .inr (Nat.le_trans h.fr.size er)
 have abl:∀k cs bl,look k st.b=some cs->¬(look k s.b).isSome->ν.bx k=some bl->¬gE (ν.cut (ah s)) s bl:=by
  intro k cs bl I J av aV;rcases aV with⟨bz,bV,a2⟩|⟨g,n,u,bV,a2,a3⟩
  ·have:=h.good.inj k bz bl (by simp[I]) (vU bz bV) av (aT.cut_some a2).2;subst this;exact J bV
  ·exact h.good.obx g k n u bl (ll g bV) (by simp[I]) (aT.cut_someO a2).2 a3 av
 have abm:∀g o n u bl,look g st.e=some o->¬(look g s.e).isSome->ν.ow g=some (n,u)->u.ownBlock=some bl->¬gE (ν.cut (ah s)) s bl:=by
  intro g o n u bl I J av aV bE;rcases bE with⟨bz,bV,a2⟩|⟨eK,n',e7,bV,a2,a3⟩
  ·exact h.good.obx g bz n u bl (by simp[I]) (vU bz bV) av aV (aT.cut_some a2).2
  ·have:=h.good.oinj g eK n n' u e7 bl (by simp[I]) (ll eK bV) av (aT.cut_someO a2).2 aV a3;subst this;exact J bV
 have NI:∀k cs,look k (bu s.b st.b++aC.b)=some cs->(¬(look k s.b).isSome/\look k st.b=some cs)\/look k aC.b=some cs:=by
  intro k cs aa;rw[x0,te]at aa;by_cases ao:(look k s.b).isSome
  ·simp only[ao,if_true]at aa;exact .inr aa
  ·simp only[ao]at aa;cases aE:look k st.b with
   |some x=>simp[aE]at aa;subst aa;exact .inl ⟨ao,rfl⟩
   |none=>simp[aE]at aa;exact .inr aa
 have NJ:∀k cs,look k (bu s.e st.e++aC.e)=some cs->(¬(look k s.e).isSome/\look k st.e=some cs)\/look k aC.e=some cs:=by
  intro k cs aa;rw[x0,te]at aa;by_cases ao:(look k s.e).isSome
  ·simp only[ao,if_true]at aa;exact .inr aa
  ·simp only[ao]at aa;cases aE:look k st.e with
   |some x=>simp[aE]at aa;subst aa;exact .inl ⟨ao,rfl⟩
   |none=>simp[aE]at aa;exact .inr aa
 have u2:∀bl,gE (ν.cut (ah s)) s bl\/w.heap.size<=bl->∀h8,h8<w.heap.size->¬gE (ν.cut (ah s)) s h8->bl≠h8:=by
  intro bl I h8 J av e;subst e;rcases I with I|I
  ·exact av I
  ·omega
 have JE:∀bl,bl<w.heap.size->¬gE (ν.cut (ah s)) s bl->w'.heap[bl]? =w.heap[bl]?:=fun bl I J=>aM.block bl I J;have isB:∀k bl,(look k (bu s.b st.b++aC.b)).isSome->(ν.join ν' s aC).bx k=some bl->(¬(look k s.b).isSome/\(look k st.b).isSome/\ν.bx k=some bl)\/((look k aC.b).isSome/\ν'.bx k=some bl):=by
  intro k bl aa jE;obtain⟨cs,cT⟩:=fv.1 aa;rcases NI k cs cT with⟨I,J⟩|I
  ·obtain⟨h8,us,el,g1,_⟩:=h.good.box k cs J;rw[QU k (by rw[g1];simp) I]at jE;exact .inl ⟨I,by simp[J],jE⟩
  ·rw[QT k (by simp[I])]at jE;exact .inr ⟨by simp[I],jE⟩
 have Fh:∀k x,(look k (bu s.e st.e++aC.e)).isSome->(ν.join ν' s aC).ow k=some x->(¬(look k s.e).isSome/\(look k st.e).isSome/\ν.ow k=some x)\/((look k aC.e).isSome/\ν'.ow k=some x):=by
  intro k x aa jE;obtain⟨cs,cT⟩:=fv.1 aa;rcases NJ k cs cT with⟨I,J⟩|I
  ·obtain⟨v',us,g1,_⟩:=h.good.own k cs J;rw[JA k (by rw[g1];simp) I]at jE;exact .inl ⟨I,by simp[J],jE⟩
  ·rw[Jz k (by simp[I])]at jE;exact .inr ⟨by simp[I],jE⟩
 have AX:∀k bl,¬(look k s.b).isSome->(look k st.b).isSome->ν.bx k=some bl->bl<w.heap.size/\¬gE (ν.cut (ah s)) s bl:=by intro k bl I J av;obtain⟨cs,cT⟩:=fv.1 J;exact⟨h.good.boxLt cT av,abl k cs bl cT I av⟩
 have ym:∀k n u bl,¬(look k s.e).isSome->(look k st.e).isSome->ν.ow k=some (n,u)->u.ownBlock=some bl->bl<w.heap.size/\¬gE (ν.cut (ah s)) s bl:=by intro k n u bl I J av aV;obtain⟨cs,cT⟩:=fv.1 J;exact⟨h.good.ownLt cT av aV,abm k cs n u bl cT I av aV⟩
 have Dx:∀k bl,(look k aC.b).isSome->ν'.bx k=some bl->gE (ν.cut (ah s)) s bl\/w.heap.size<=bl:=by intro k bl I J;obtain⟨cs,cT⟩:=fv.1 I;obtain⟨h8,us,el,g1,g2,_⟩:=aO.box k cs cT;rw[J]at g1;cases g1;exact g2
 have Gn:∀k n u bl,(look k aC.e).isSome->ν'.ow k=some (n,u)->u.ownBlock=some bl->gE (ν.cut (ah s)) s bl\/w.heap.size<=bl:=by intro k n u bl I J av;obtain⟨cs,cT⟩:=fv.1 I;obtain⟨v',us,g1,g2,g3,_⟩:=aO.own k cs cT;rw[J]at g1;cases g1;exact(g3 bl av).1
 have bg:∀bl o,ν'.A bl o->bl<w.heap.size->¬gE (ν.cut (ah s)) s bl->ν.A bl o:=by
  intro bl o I J av;rcases aM.fresh bl o I with aV|aV|aV
  ·exact aV
  ·exact absurd aV av
  ·simp only at aV;omega
 have pR:ct C {t:=st.t,b:=bu s.b st.b++aC.b,e:=bu s.e st.e++aC.e,n:=n',o:=o'} a w' (ν.join ν' s aC):=by
  refine h.over aj rfl ⟨aO.alt,fun k cs aa=>?_,fun k bz bl I J av aV=>?_,fun g o eU=>?_,fun g eK n n' u e7 bl I J av aV bE ch=>?_,fun g k n u bl I J av aV bE=>?_,fun k=>?_,fun bl aI k j fP=>?_⟩
   ⟨aM.os.trans h.fr.os,aM.tape.trans h.fr.tape,aM.output.trans h.fr.output,Nat.le_trans h.fr.size aM.size,fun k aa hm=>?_,fun b o rK=>?_,fun b o rK=>?_,fun n b aK=>aj.bx _ _ trivial (h.fr.obj n b aK),h.fr.obn,
    fun m n u hm=>CY (h.fr.row m n u hm) (fun n u=>aj.ow _ n u trivial),h.fr.obr,fun k j bz e4 b I J=>?_,fun k j b af=>?_,fun k j b af=>?_,fun b o bg=>(aj.sh b o (h.fr.keep b o bg).1).trans (h.fr.sh b o bg),fun j n u b aq aU=>h.fr.nrow j n u b (by simpa[aT.join,o3.2 j,rT.2 j]using aq) aU⟩ (fun k aa=>?_) (fun m hm=>xm (da _) (fun _ h=>rf _ h) (ij m hm).1)
  ·rcases NI k cs aa with⟨I,J⟩|I
   ·obtain⟨bl,us,el,g1,g2,g3,g4,g5⟩:=h.good.box k cs J;obtain⟨bQ,b3⟩:=AX k bl I (by simp[J]) g1;exact⟨bl,us,el,aj.bx _ _ trivial g1,g2,fun o rK=>g3 o (bg bl o rK bQ b3),by rw[JE bl bQ b3];exact g4,pe aj g5⟩
   ·obtain⟨bl,us,el,g1,g2,g3,g4,g5⟩:=aO.box k cs I;exact⟨bl,us,el,hN.bx _ _ trivial g1,Qi bl g2,g3,g4,pe hN g5⟩
  ·rcases isB k bl I av with⟨bV,a2,a3⟩|⟨bV,a2⟩<;>rcases isB bz bl J aV with⟨bQ,b3,eV⟩|⟨bQ,b3⟩
   ·exact h.good.inj k bz bl a2 b3 a3 eV
   ·obtain⟨cJ,c2⟩:=AX k bl bV a2 a3;exact absurd rfl (u2 bl (Dx bz bl bQ b3) bl cJ c2)
   ·obtain⟨cJ,c2⟩:=AX bz bl bQ b3 eV;exact absurd rfl (u2 bl (Dx k bl bV a2) bl cJ c2)
   ·exact aO.inj k bz bl bV bQ a2 b3
  ·rcases NJ g o eU with⟨I,J⟩|I
   ·obtain⟨u,us,g1,g2,g3,g4⟩:=h.good.own g o J;refine⟨u,us,by rw[JA g (by rw[g1];simp) I];exact g1,⟨g2.1,?_⟩,fun bl er=>?_,qY aj (fun bl er j rK=>?_) g4⟩
    ·rcases g2.2 with aU|⟨hD,cap,cur,f1,f2,f3,f4⟩
     ·exact .inl aU
     ·obtain⟨bQ,b3⟩:=ym g _ u hD I (by simp[J]) g1 (by rw[f1];rfl);exact .inr ⟨hD,cap,cur,f1,f2,by rw[JE hD bQ b3];exact f3,f4⟩
    ·obtain⟨bQ,b3⟩:=ym g _ u bl I (by simp[J]) g1 er;exact⟨(g3 bl er).1,fun j rK=>(g3 bl er).2 j (bg bl j rK bQ b3)⟩
    ·obtain⟨bQ,b3⟩:=ym g _ u bl I (by simp[J]) g1 er;exact bg bl j rK bQ b3
   ·obtain⟨u,us,g1,g2,g3,g4⟩:=aO.own g o I;exact⟨u,us,by rw[Jz g (by simp[I])];exact g1,g2,fun bl er=>⟨Qi bl (g3 bl er).1,(g3 bl er).2⟩,qY hN (fun _ _ _ h=>h) g4⟩
  ·rcases Fh g _ I av with⟨bV,a2,a3⟩|⟨bV,a2⟩<;>rcases Fh eK _ J aV with⟨bQ,b3,eV⟩|⟨bQ,b3⟩
   ·exact h.good.oinj g eK n n' u e7 bl a2 b3 a3 eV bE ch
   ·obtain⟨cJ,c2⟩:=ym g n u bl bV a2 a3 bE;exact absurd rfl (u2 bl (Gn eK n' e7 bl bQ b3 ch) bl cJ c2)
   ·obtain⟨cJ,c2⟩:=ym eK n' e7 bl bQ b3 eV ch;exact absurd rfl (u2 bl (Gn g n u bl bV a2 bE) bl cJ c2)
   ·exact aO.oinj g eK n n' u e7 bl bV bQ a2 b3 bE ch
  ·rcases Fh g _ I av with⟨bV,a2,a3⟩|⟨bV,a2⟩<;>rcases isB k bl J bE with⟨bQ,b3,eV⟩|⟨bQ,b3⟩
   ·exact h.good.obx g k n u bl a2 b3 a3 aV eV
   ·obtain⟨cJ,c2⟩:=ym g n u bl bV a2 a3 aV;exact absurd rfl (u2 bl (Dx k bl bQ b3) bl cJ c2)
   ·obtain⟨cJ,c2⟩:=AX k bl bQ b3 eV;exact absurd rfl (u2 bl (Gn g n u bl bV a2 aV) bl cJ c2)
   ·exact aO.obx g k n u bl bV bQ a2 aV b3
  ·
   cases jE:(ν.join ν' s aC).bx k with
   |none=>exact .inl rfl
   |some bl=>
    right;cases nA:(ν.join ν' s aC).ow k with
    |none=>rfl
    |some x=>
     exfalso;have aq:(ν.bx k=some bl/\¬(look k s.b).isSome/\¬(look k aC.b).isSome)\/ν'.bx k=some bl:=by
      by_cases ao:(look k s.b).isSome\/(look k aC.b).isSome
      ·right;simpa[aT.join,ao]using jE
      ·left;simp only[not_or]at ao;exact⟨by simpa[aT.join,ao.1,ao.2]using jE,ao.1,ao.2⟩
     have aU:(ν.ow k=some x/\¬(look k s.e).isSome/\¬(look k aC.e).isSome)\/ν'.ow k=some x:=by
      by_cases ao:(look k s.e).isSome\/(look k aC.e).isSome
      ·right;simpa[aT.join,ao]using nA
      ·left;simp only[not_or]at ao;exact⟨by simpa[aT.join,ao.1,ao.2]using nA,ao.1,ao.2⟩
     rcases aq with⟨bV,a2,a3⟩|bV<;>rcases aU with⟨bQ,b3,eV⟩|bQ
     ·rcases h.good.one k with bK|bK
      ·rw[bK]at bV;cases bV
      ·rw[bK]at bQ;cases bQ
     ·have xF:=UA k x bQ;have eL:(look k s.e).isSome:=by
       cases k with
       |loc m=>rw[rT.2 m]at xF;cases xF
       |obj m=>
        rcases cE m xF with bK|bK
        ·exact bK
        ·rw[(h.new (.obj m) ⟨trivial,bK⟩).1]at bV;cases bV
      obtain⟨o,E1⟩:=fv.1 (ll k eL);obtain⟨v',us,g1,_⟩:=h.good.own k o E1;rcases h.good.one k with bK|bK
      ·rw[bK]at bV;cases bV
      ·rw[bK]at g1;cases g1
     ·have EN:=Uz k bl bV;have eL:(look k s.b).isSome:=by
       cases k with
       |loc m=>rw[rT.1 m]at EN;cases EN
       |obj m=>
        rcases I1 m EN with bK|bK
        ·exact bK
        ·rw[(h.new (.obj m) ⟨trivial,bK⟩).2.1]at bQ;cases bQ
      obtain⟨cs,cT⟩:=fv.1 (vU k eL);obtain⟨h8,us,el,g1,_⟩:=h.good.box k cs cT;rcases h.good.one k with bK|bK
      ·rw[bK]at g1;cases g1
      ·rw[bK]at bQ;cases bQ
     ·rcases aO.one k with bK|bK
      ·rw[bK]at bV;cases bV
      ·rw[bK]at bQ;cases bQ
  ·have P6:∀k j,ν'.tr k j bl->w.heap.size<=bl:=fun k j bK=>by
    rcases(aM.trb k j bl bK).1 with a2|a2
    ·obtain⟨m,_,hm⟩:=(ad k).2.2 j bl bK;rw[hm]at a2;cases a2
    ·exact a2
   have hold:gE (ν.cut (ah s)) s bl->¬ν.tr k j bl:=by
    rintro(⟨bz,bV,a2⟩|⟨g,n,u,bV,a2,a3⟩) bK
    ·exact h.good.otr bl (.inl ⟨bz,vU bz bV,(aT.cut_some a2).2⟩) k j bK
    ·exact h.good.otr bl (.inr ⟨g,n,u,ll g bV,(aT.cut_someO a2).2,a3⟩) k j bK
   have lh:gE (ν.cut (ah s)) s bl\/w.heap.size<=bl->¬ν.tr k j bl:=by
    rintro(I|I) bK
    ·exact hold I bK
    ·have:=(h.fr.trb k j bl bK).2;omega
   rcases aI with⟨bz,bV,a2⟩|⟨g,n,u,bV,a2,a3⟩
   ·rcases isB bz bl bV a2 with⟨bQ,b3,eV⟩|⟨bQ,b3⟩
    ·rcases fP with fP|fP
     ·exact h.good.otr bl (.inl ⟨bz,b3,eV⟩) k j fP
     ·have:=(AX bz bl bQ b3 eV).1;have:=P6 k j fP;omega
    ·rcases fP with fP|fP
     ·exact lh (Dx bz bl bQ b3) fP
     ·exact aO.otr bl (.inl ⟨bz,bQ,b3⟩) k j fP
   ·rcases Fh g _ bV a2 with⟨bQ,b3,eV⟩|⟨bQ,b3⟩
    ·rcases fP with fP|fP
     ·exact h.good.otr bl (.inr ⟨g,n,u,b3,eV,a3⟩) k j fP
     ·have:=(ym g n u bl bQ b3 eV a3).1;have:=P6 k j fP;omega
    ·rcases fP with fP|fP
     ·exact lh (Gn g n u bl bQ b3 a3) fP
     ·exact aO.otr bl (.inr ⟨g,n,u,bQ,b3,a3⟩) k j fP
  ·have b7:k<w.heap.size:=Nat.lt_of_lt_of_le aa h.fr.size;rw[JE k b7 fun er=>by
    rcases(n7 k er).1 with I|I
    ·exact hm I
    ·omega]
   exact h.fr.block k aa hm
  ·obtain⟨dh,ed⟩:=h.fr.keep b o rK;obtain⟨hO,kS⟩:=aM.keep b o dh;exact⟨hO,kS.trans ed⟩
  ·rcases aM.fresh b o rK with aV|aV|aV
   ·exact h.fr.fresh b o aV
   ·exact .inr (n7 b aV).1
   ·exact .inr (.inr (Nat.le_trans h.fr.size aV))
  ·rcases I with I|I<;>rcases J with J|J
   ·exact h.fr.trd k j bz e4 b I J
   ·have bV:=(h.fr.trb k j b I).2;have a2:=(aM.trb bz e4 b J).1;rcases a2 with a2|a2
    ·obtain⟨m,_,hm⟩:=(ad bz).2.2 e4 b J;rw[hm]at a2;cases a2
    ·simp only at a2;omega
   ·have bV:=(h.fr.trb bz e4 b J).2;have a2:=(aM.trb k j b I).1;rcases a2 with a2|a2
    ·obtain⟨m,_,hm⟩:=(ad k).2.2 j b I;rw[hm]at a2;cases a2
    ·simp only at a2;omega
   ·exact aM.trd k j bz e4 b I J
  ·rcases af with af|af
   ·exact⟨(h.fr.trb k j b af).1,Nat.lt_of_lt_of_le (h.fr.trb k j b af).2 aM.size⟩
   ·refine⟨.inr ?_,(aM.trb k j b af).2⟩;rcases(aM.trb k j b af).1 with a2|a2
    ·obtain⟨m,_,hm⟩:=(ad k).2.2 j b af;rw[hm]at a2;cases a2
    ·exact Nat.le_trans h.fr.size a2
  ·have key:ν.bx k=none/\ν.ow k=none/\¬(look k aC.b).isSome/\¬(look k aC.e).isSome:=by
    rcases af with af|af
    ·obtain⟨t1,t2⟩:=h.fr.trn k j b af;refine⟨t1,t2,fun bK=>?_,fun bK=>?_⟩
     ·cases k with
      |loc m=>rw[rT.1 m]at bK;cases bK
      |obj m=>
       rcases I1 m bK with bE|bE
       ·obtain⟨cs,cT⟩:=fv.1 (vU _ bE);obtain⟨h8,us,el,g1,_⟩:=h.good.box _ cs cT;rw[t1]at g1;cases g1
       ·exact(h.new (.obj m) ⟨trivial,bE⟩).2.2 j b af
     ·cases k with
      |loc m=>rw[rT.2 m]at bK;cases bK
      |obj m=>
       rcases cE m bK with bE|bE
       ·obtain⟨cs,cT⟩:=fv.1 (ll _ bE);obtain⟨h8,us,g1,_⟩:=h.good.own _ cs cT;rw[t2]at g1;cases g1
       ·exact(h.new (.obj m) ⟨trivial,bE⟩).2.2 j b af
    ·obtain⟨m,hm,rfl⟩:=(ad k).2.2 j b af;obtain⟨t1,t2,_⟩:=Fe m hm;exact⟨t1,t2,by simp[rT.1 m],by simp[rT.2 m]⟩
   obtain⟨t1,t2,t3,t4⟩:=key;have t5:¬(look k s.b).isSome:=fun bK=>by obtain⟨cs,cT⟩:=fv.1 (vU _ bK);obtain⟨h8,us,el,g1,_⟩:=h.good.box _ cs cT;rw[t1]at g1;cases g1
   have t6:¬(look k s.e).isSome:=fun bK=>by obtain⟨cs,cT⟩:=fv.1 (ll _ bK);obtain⟨h8,us,g1,_⟩:=h.good.own _ cs cT;rw[t2]at g1;cases g1
   exact⟨by simp[aT.join,t3,t5,t1],by simp[aT.join,t4,t6,t2]⟩
  ·
   simp only at aa;obtain⟨aa,aaL⟩:=ij k aa;have Qb:(∀j b,¬ν.tr k j b)->∀j b,¬(ν.join ν' s aC).tr k j b:=fun I j b af=>by
    rcases af with af|af
    ·exact I j b af
    ·obtain⟨m,hm,e⟩:=(ad k).2.2 j b af;exact aaL m hm e
   cases k with
   |loc m=>obtain⟨gV,fH,h4⟩:=h.new (.loc m) (xm (da _) (fun _ h=>rf _ h) aa);exact⟨by simp[aT.join,o3.1 m,rT.1 m,gV],by simp[aT.join,o3.2 m,rT.2 m,fH],Qb h4⟩
   |obj m=>
    simp only[fresh,iG,not_or,true_and]at aa;obtain⟨gV,fH,h4⟩:=h.new (.obj m) ⟨trivial,aa.1⟩;have b9:¬(look (.obj m) aC.b).isSome:=fun bK=>aa.2 (zP (.inl bK));have cx:¬(look (.obj m) aC.e).isSome:=fun bK=>aa.2 (zP (.inr bK));have dp:¬(look (.obj m) s.b).isSome:=fun bK=>by obtain⟨cs,cT⟩:=fv.1 (vU _ bK);obtain⟨h8,us,el,g1,_⟩:=h.good.box _ cs cT;rw[gV]at g1;cases g1
    have c6:¬(look (.obj m) s.e).isSome:=fun bK=>by obtain⟨cs,cT⟩:=fv.1 (ll _ bK);obtain⟨v',us,g1,_⟩:=h.good.own _ cs cT;rw[fH]at g1;cases g1
    exact⟨by simp[aT.join,b9,dp,gV],by simp[aT.join,cx,c6,fH],Qb h4⟩
 exact pR.put a7 (uV hN hr)
end
end Go.Pv
