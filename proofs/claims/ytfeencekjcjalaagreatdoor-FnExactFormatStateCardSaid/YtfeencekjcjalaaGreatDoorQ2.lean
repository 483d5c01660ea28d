/- A call, by its contract. -/
import Derived.Deep.AppendSrc
import Derived.Laws.OwnMore
import Derived.Test.YtfeencekjcjalaaGreatDoorQ1
set_option linter.all false
set_option maxHeartbeats 4000000
set_option maxRecDepth 4000
open Array renaming getElem?_toList->tN
open Bool renaming and_eq_true->cD,false_eq_true->hz
open ByteArray renaming size->abe
open Go renaming Operand->jb,Program->cz,TypeId->fF
open Go.Builtin renaming append_->tO
open Go.Result renaming andThen_ok->fx
open Go.Sem renaming run_bind->fq,run_pure->gn
open Go.Value renaming cells->nM,int->pf,ownBlock->oA
open Go.World.grownBy renaming refl->arR
open List renaming cons_append->bX,eq_nil_of_length_eq_zero->u6,getElem?_append_left->rB,getElem?_eq_getElem->cl,getElem?_eq_none->rC,getElem?_eq_some_iff->fy,length_append->hq,length_cons->jc,length_drop->sq,map_cons->fA,map_nil->pg,mem_append->kr,mem_append_left->sr,mem_cons_of_mem->p4,mem_map->iL,nil_append->b3,replicate->su,take->mH,take_length->p5,take_of_length_le->gC
open Nat renaming add_mul->p6,le_refl->eR,le_trans->jM,mul_le_mul_right->tR
open Ne renaming symm->k8
open Option renaming isSome_iff_exists->gd,isSome_none->nh,map_some->ni
open Option.some renaming injEq->dv
open Prod.mk renaming injEq->hN
open _root_ renaming ByteArray->lG,False->et,Option->aW,UInt8->bV,beq_iff_eq->dS,congrArg->eu,decide_eq_true_eq->e8
namespace Go.Pv
section
open Go Go.RowKit
theorem cS.inPlace{C:e0}{st:bh}{a:Act}{w:World}{Z:aZ}(h:cS C st a w Z){k:aB}{o:ec}(v:look k st.e=some o){bl cap:Nat}{cur:Array Value}(d:Z.ow k=some (o.n,.slice (some ⟨bl,0,none⟩) o.n cap))
  (D:w.heap[bl]? =some (.cells cur o.el (0,0))) (X:cap<=maxLen) (dO:cur.size=cap*o.sz) {xs ys:List ah} {us ns:List Value} (P:xs.length=o.n) (oZ:cur.toList.take (o.n*o.sz)=us) (ax:di w Z o.sz xs us) (Bg:di w Z o.sz ys ns)
  (fN:0<ys.length) (Y:o.n+ys.length<=cap) (eH:xs.length+ys.length<=lim):
  cS C {st with e:=cB k ⟨o.n+ys.length,o.el,o.sz,none⟩ st.e} a (w.setRow bl (us++ns++cur.toList.drop (o.n*o.sz+ns.length)).toArray)
   (Z.withRowOf k (.slice (some ⟨bl,0,none⟩) (o.n+ys.length) cap) (o.n+ys.length) ((o.n+ys.length)*o.sz))/\
  aS (w.setRow bl (us++ns++cur.toList.drop (o.n*o.sz+ns.length)).toArray) (Z.withRowOf k (.slice (some ⟨bl,0,none⟩) (o.n+ys.length) cap) (o.n+ys.length) ((o.n+ys.length)*o.sz))
   (.slice o.sz (.own k) (xs++ys)) (.slice (some ⟨bl,0,none⟩) (o.n+ys.length) cap):=by
 have O:=r9 Bg;have E:=r9 ax;rw[P]at E;have hmul:(o.n+ys.length)*o.sz<=cap*o.sz:=tR _ Y;rw[p6]at hmul;obtain⟨v0,fb,a8,bA,bR,_⟩:=h.good.own k o v;rw[d]at a8;cases a8;obtain⟨S,da⟩:=bR bl rfl;generalize z:w.setRow bl (us++ns++cur.toList.drop (o.n*o.sz+ns.length)).toArray=w';have A:∀j,j≠bl->w'.heap[j]? =w.heap[j]?:=fun j c=>by rw[<-z];exact setRow_other w bl j _ c
 have G:w'.heap[bl]? =some (.cells (us++ns++cur.toList.drop (o.n*o.sz+ns.length)).toArray o.el (0,0)):=by rw[<-z];exact setRow_heap w bl cur _ o.el _ D
 have V:w'.heap.size=w.heap.size:=by rw[<-z];exact setRow_size w bl _
 have rW:∀j,j<o.n*o.sz->w'.cell? ⟨bl,j,none⟩=w.cell? ⟨bl,j,none⟩:=by intro j c;simp only[World.cell?,G,D,nh,hz,if_false];rw[List.getElem?_toArray,List.append_assoc,rB Ω,<-oZ,List.getElem?_take,if_pos c];simp
 have ak:lU w Z w' (Z.withRowOf k (.slice (some ⟨bl,0,none⟩) (o.n+ys.length) cap) (o.n+ys.length) ((o.n+ys.length)*o.sz)):=by
  refine⟨fun b j be=>⟨.inl be,?_⟩,fun j b _ c=>c,fun g n u _ Q=>?_,fun b j be=>?_,fun _ _ _ _ h=>h⟩;rotate_left 2
  ·by_cases e:b=bl
   ·subst e;simp only[shape,G,D,List.size_toArray,hq,sq,Array.length_toList];congr 2;omega
   ·exact wE (A b e)
  ·by_cases e:b=bl
   ·subst e;exact rW j (da j be)
   ·exact World.cell?_of_block (A b e)
  ·by_cases e:g=k
   ·subst e;rw[d]at Q;cases Q;exact⟨o.n+ys.length,.slice (some ⟨bl,0,none⟩) (o.n+ys.length) cap,by simp[aZ.withRowOf],.inr Ω⟩
   ·exact⟨n,u,by simp[aZ.withRowOf,e,Q],.inl ⟨rfl,rfl⟩⟩
 have F:∀g,(look g (cB k ⟨o.n+ys.length,o.el,o.sz,none⟩ st.e)).isSome->g=k\/(g≠k/\(look g st.e).isSome/\(Z.withRowOf k (.slice (some ⟨bl,0,none⟩) (o.n+ys.length) cap) (o.n+ys.length) ((o.n+ys.length)*o.sz)).ow g=Z.ow g):=by
  intro g ll;by_cases e:g=k
  ·exact .inl e
  ·rw[jG,if_neg (k8 e)]at ll;exact .inr ⟨e,ll,by simp[aZ.withRowOf,e]⟩
 have atb:bl<w.heap.size:=(Array.getElem?_eq_some_iff.1 D).1;have DU:∀j u,(us++ns)[j]? =some u->w'.cell? ⟨bl,j,none⟩=some u:=by intro j u c;have N:=(fy.1 c).1;simp only[World.cell?,G,nh,hz,if_false];rw[List.getElem?_toArray,rB N];exact c
 refine⟨h.over ak rfl ⟨fun b j be=>?_,fun j en c=>?_,h.good.inj,fun g o' r=>?_,fun g H n n' u fp b J U f l p B=>?_,fun g j n u b J U f l p=>?_,fun j=>?_,fun b ae=>h.good.otr b ?_⟩
  ⟨by rw[<-z];exact h.fr.os,by rw[<-z];exact h.fr.tape,by rw[<-z];exact h.fr.output,by rw[V];exact h.fr.size,fun j c hm=>?_,fun b j be=>?_,fun b j be=>?_,h.fr.obj,h.fr.obn,fun m n u hm=>FA (h.fr.row m n u hm) (fun n u=>ak.ow _ n u trivial),h.fr.obr,h.fr.trd,fun k j b ae=>⟨(h.fr.trb k j b ae).1,by rw[V];exact(h.fr.trb k j b ae).2⟩,fun bn j b ae=>?_,fun b o be=>(ak.sh b o (h.fr.keep b o be).1).trans (h.fr.sh b o be),fun j n u b t q=>(by
   by_cases e:aB.loc j=k
   ·subst e;simp only[aZ.withRowOf,if_true,dv,hN]at t;rw[<-t.2]at q;have K:b=bl:=by simpa[oA]using q.symm
    subst K;exact h.fr.nrow j _ _ b d rfl
   ·simp only[aZ.withRowOf,if_neg e]at t;exact h.fr.nrow j n u b t q)⟩ (fun m hm=>?_),?_⟩
 ·rw[V];rcases be with be|⟨be,_⟩
  ·exact h.good.alt b j be
  ·simp only[oA,dv]at be;omega
 ·obtain⟨b,bY,e9,g1,g2,g3,g4,g5⟩:=h.good.box j en c;have s:b≠bl:=fun e=>h.good.obx k j o.n _ bl (by simp[v]) (by simp[c]) d rfl (by rw[<-e];exact g1);refine⟨b,bY,e9,g1,g2,fun i be=>?_,by rw[A b s];exact g4,qE ak g5⟩;rcases be with be|⟨be,_⟩
  ·exact g3 i be
  ·simp only[oA,dv]at be;exact s be.symm
 ·simp only at r;rw[jG]at r;by_cases e:k=g
  ·rw[if_pos e]at r;cases r;subst e;refine⟨.slice (some ⟨bl,0,none⟩) (o.n+ys.length) cap,us++ns,by simp[aZ.withRowOf],⟨by rw[hq,E,O,p6],.inr ⟨bl,cap,_,rfl,Nat.zero_le _,G,Y,X,?_,?_⟩⟩,fun b ae=>⟨?_,fun j be=>?_⟩,fun ys aN=>by cases aN⟩
   ·simp only[List.size_toArray,hq,sq,Array.length_toList];omega
   ·have aq:(us++ns).length=(o.n+ys.length)*o.sz:=by rw[hq,E,O,p6]
    simp only[<-aq];rw[List.take_append_of_le_length (eR _),p5]
   ·simp only[oA,dv]at ae;subst ae;exact S
   ·simp only[oA,dv]at ae;subst ae;rcases be with be|⟨_,be⟩
    ·have:=da j be;simp only;rw[p6];omega
    ·exact be
  ·rw[if_neg e]at r;obtain⟨v0,fb,t,q,K,cR⟩:=h.good.own g o' r;have s:∀b,v0.ownBlock=some b->b≠bl:=fun b ae K0=>e (h.good.oinj k g o.n o'.n _ v0 bl (by simp[v]) (by simp[r]) d t rfl (by rw[<-K0];exact ae));have W:∀b,v0.ownBlock=some b->∀j,(Z.withRowOf k (.slice (some ⟨bl,0,none⟩) (o.n+ys.length) cap) (o.n+ys.length) ((o.n+ys.length)*o.sz)).A b j->Z.A b j:=fun b ae j be=>by
    rcases be with be|⟨be,_⟩
    ·exact be
    ·simp only[oA,dv]at be;exact absurd be.symm (s b ae)
   refine⟨v0,fb,by simp[aZ.withRowOf,k8 e,t],⟨q.1,?_⟩,fun b ae=>⟨(K b ae).1,fun j be=>(K b ae).2 j (W b ae j be)⟩,sb ak W cR⟩;rcases q.2 with q|⟨bb,yE,nn,f1,f2,f3,f4⟩
   ·exact .inl q
   ·exact .inr ⟨bb,yE,nn,f1,f2,by rw[A bb (s bb (by rw[f1];rfl))];exact f3,f4⟩
 ·rcases F g J with rfl|⟨R,y,x⟩<;>rcases F H U with rfl|⟨m1,m2,m3⟩
  ·rfl
  ·exfalso;simp only[aZ.withRowOf,if_true,dv,hN]at f;rw[m3]at l;rw[<-f.2]at p;simp only[oA,dv]at p;subst p;exact m1 (h.good.oinj H g n' o.n fp _ bl m2 (by simp[v]) l d B rfl)
  ·exfalso;simp only[aZ.withRowOf,if_true,dv,hN]at l;rw[x]at f;rw[<-l.2]at B;simp only[oA,dv]at B;subst B;exact R (h.good.oinj g H n o.n u _ bl y (by simp[v]) f d p rfl)
  ·rw[x]at f;rw[m3]at l;exact h.good.oinj g H n n' u fp b y m2 f l p B
 ·rcases F g J with rfl|⟨R,y,x⟩
  ·simp only[aZ.withRowOf,if_true,dv,hN]at f;rw[<-f.2]at l;simp only[oA,dv]at l;subst l;exact h.good.obx g j o.n _ bl (by simp[v]) U d rfl p
  ·rw[x]at f;exact h.good.obx g j n u b y U f l p
 ·by_cases e:j=k
  ·subst e;rcases h.good.one j with J|J
   ·exact .inl J
   ·rw[J]at d;cases d
  ·rcases h.good.one j with J|J
   ·exact .inl J
   ·exact .inr (by simp[aZ.withRowOf,e,J])
 ·rcases ae with ae|⟨g,n,u,bF,a2,a3⟩
  ·exact .inl ae
  ·rcases F g bF with rfl|⟨R,y,x⟩
   ·simp only[aZ.withRowOf,if_true,dv,hN]at a2;rw[<-a2.2]at a3;exact .inr ⟨g,_,_,by simp[v],d,a3⟩
   ·exact .inr ⟨g,n,u,y,by rw[<-x];exact a2,a3⟩
 ·rw[A j fun e=>by subst e;exact S.elim hm (fun g2=>Ω)];exact h.fr.block j c hm
 ·obtain⟨L,M⟩:=h.fr.keep b j be;exact⟨.inl L,(ak.A b j L).2.trans M⟩
 ·rcases be with be|⟨be,_⟩
  ·exact h.fr.fresh b j be
  ·simp only[oA,dv]at be;subst be;exact .inr S
 ·obtain⟨t1,t2⟩:=h.fr.trn bn j b ae;have s:bn≠k:=fun e=>by subst e;rw[t2]at d;cases d
  exact⟨t1,by simp[aZ.withRowOf,s,t2]⟩
 ·obtain⟨L,M,cA⟩:=h.new m hm;refine⟨L,?_,cA⟩;have:m≠k:=fun e=>by subst e;rw[M]at d;cases d
  simp[aZ.withRowOf,this,M]
 ·simp only[aS];refine⟨⟨some ⟨bl,0,none⟩,cap,by simp[P],by simp;omega,⟨X,by simpa using eH⟩,.inr ⟨bl,0,us++ns,rfl,Ia _ 0 fun j u c=>?_,Cp (Cq ak ax) (Cq ak Bg)⟩⟩,fun e=>(by cases e),fun g e=>?_,fun _ _ e=>(by cases e),fun _ e=>(by cases e)⟩
  ·have N:=(fy.1 c).1;rw[Nat.zero_add];refine⟨.inr ⟨rfl,?_⟩,DU j u c⟩;rw[hq,E,O]at N;rw[p6];exact N
  ·cases e;exact⟨o.n+ys.length,.slice (some ⟨bl,0,none⟩) (o.n+ys.length) cap,by simp[aZ.withRowOf],by simp[P],fun _=>rfl⟩
theorem Jj{P:cz}{w:World}{t ty e:fF}{i:TypeInfo}(aM:P.underlying t=some (.slice e))(hi:P.info? e=some i)(b:aW Addr)(n cap:Nat)(a:n<=cap)(x:aW Addr)(c:Nat):
  (tO #[t,t] ty #[.slice b n cap,.slice x 0 c]).run P w= .ok (.slice b n cap) w:=by
 cases b<;>cases x<;>simp[tO,run_underlying aM,sizeOf,typeInfo,hi,Builtin.lenOf,a,Builtin.firstCells,loadCells,loadCellsFrom,storeCells]
inductive eb where
 |v (d:Nat) (i:gq)
 |box (d:Nat) (key:aW Nat) (x:ds)
 |alloc (d:Nat) (key:aW Nat) (zero:ah)
 |store (sz:Nat) (x y:ds)
 |bsl (d:Nat) (sz el:Nat) (xs:List ds)
 |app (d:Nat) (sz el:Nat) (x y:ds)
 |bslm (d:Nat) (key:aW Nat) (sz el:Nat) (xs:List ds)
 |appm (d:Nat) (key:aW Nat) (sz el:Nat) (x y:ds)
 |mkmap (d:Nat) (key:aW Nat)
 |mput (ck:j8) (x k v:ds)
 |range (d:Nat) (key:aW Nat) (x:ds)
 |storeE (sz:Nat) (x y:ds)
 |mks (d:Nat) (key:aW Nat) (sz el:Nat) (z:ah) (x:ds)
 |apps (d el:Nat) (x y:ds)
def jH(st:bh):aW Nat->aB
 |none=>.loc st.n
 |some m=>.obj m
def q9(st:bh):aW Nat->Prop
 |none=>.loc st.n∉st.o
 |some m=>.obj m∉st.o
def oj(st:bh):aW Nat->Nat
 |none=>st.n+1
 |some _=>st.n
def oo(st:bh):aW Nat->List aB
 |none=>st.o
 |some m=>.obj m::st.o
theorem xP{st:bh}{key:aW Nat}(h:q9 st key):fresh st.n st.o (jH st key):=by cases key<;>simp[jH,fresh,q9]at h⊢ <;>exact h
theorem xQ{st:bh}{key:aW Nat}:∀j,fresh (oj st key) (oo st key) j->fresh st.n st.o j/\j≠jH st key:=by
 intro j a;cases key<;>cases j<;>simp[fresh,oj,oo,jH]at a⊢
 ·exact⟨⟨Ω,a.2⟩,Ω⟩
 ·exact a
 ·exact a
 ·exact⟨a.2,a.1⟩
def sA(sz:Nat):List ah->Prop
 |[]=>True
 |p::a=>(e5 p=true/\(cells p).length=sz)/\sA sz a
def pR(a:j8)(k v:ah):List ah->aW (List ah)
 | .hdm clock borns::kvs=>if xH a k=false then none else match wb a k v kvs with
  |some (some b)=>some (.hdm clock borns::b)
  |some none=>some (.hdm (clock+1) (borns++[clock])::(kvs++[k,v]))
  |none=>none
 |_=>none
def zS(m:aB):List ah->aW (List ah)
 | .hdm clock _::_=>some [.hdi clock [] clock,.gmap m]
 |_=>none
def nk(st:bh)(sz el:Nat)(x y:ah):aW ((aW (aB×List ah))×List ah):=
 match x,y with
 | .slice b .nil _,.slice a _ ys=>if b=sz/\a=sz then some (none,ys)else none
 | .row b k n,.slice a _ ys=>if b=sz/\a=sz then
   match look k st.e with
   |some ⟨n',d,c,some xs⟩=>if n'=n/\d=el/\c=sz then some (some (k,xs),ys)else none
   |_=>none
  else none
 |_,_=>none
def nG:ah->Nat->List ah->ah
 | .agg a,f,cs=>.agg (o6 a f cs)
 |_,_,[q]=>q
 |_,_,_=>.junk
def sg(st:bh)(sz:Nat)(p v:ah):aW (Prop×bh):=
 match p with
 | .rptr b k n i f=>match look k st.e with
  |some ⟨n',el,a,some xs⟩=>if n'=n/\a=b then
    match xs[i]? with
    |some q=>some (e5 q=true/\e5 v=true/\(cells v).length=sz/\f+sz<=(cells q).length/\0<sz,{st with e:=cB k ⟨n',el,a,some (xs.set i (nG q f (cells v)))⟩ st.e})
    |none=>none
   else none
  |_=>none
 |_=>none
def gx(s:List bV):List ah:=s.map fun c=>.int .u8 c.toNat
def C7(st:bh)(d el:Nat)(x y:ah):aW (Prop×bh):=
 match x,y with
 | .row sz k n,.str s=>match look k st.e with
  |some ⟨n',a,c,some xs⟩=>if n'=n/\a=el/\c=1/\sz=1 then some (xs.length+s.length<=lim,
    {st with t:=put d (.row 1 k (xs.length+s.length)) st.t,e:=cB k ⟨xs.length+s.length,el,1,some (xs++gx s)⟩ st.e})else none
  |_=>none
 | .slice sz .nil _,.str s=>if sz=1 then some ((.obj 862∉st.o)/\s≠[]/\s.length<=lim,
   {t:=put d (.row 1 (.obj 862) s.length) st.t,b:=st.b,e:=cB (.obj 862) ⟨s.length,el,1,some (gx s)⟩ st.e,n:=st.n,o:= .obj 862::st.o})else none
 |_,_=>none
def mF(st:bh):eb->aW (Prop×bh)
 | .mks d key sz el z x=>match cc st.t x with
  | .int _ n=>some (q9 st key/\0<=n/\n<=lim,
    {t:=put d (.row sz (jH st key) n.toNat) st.t,b:=st.b,e:=cB (jH st key) ⟨n.toNat,el,sz,some (su n.toNat z)⟩ st.e,n:=oj st key,o:=oo st key})
  |_=>none
 | .bslm d key sz el xs=>some (q9 st key/\sA sz (xs.map (cc st.t)),
   {t:=put d (.row sz (jH st key) xs.length) st.t,b:=st.b,e:=cB (jH st key) ⟨xs.length,el,sz,some (xs.map (cc st.t))⟩ st.e,n:=oj st key,o:=oo st key})
 | .appm d key sz el x y=>match nk st sz el (cc st.t x) (cc st.t y)with
  |some (none,ys)=>some (q9 st key/\ys.length<=lim/\ys≠[],
    {t:=put d (.row sz (jH st key) ys.length) st.t,b:=st.b,e:=cB (jH st key) ⟨ys.length,el,sz,some ys⟩ st.e,n:=oj st key,o:=oo st key})
  |some (some (k,xs),ys)=>some (xs.length+ys.length<=lim,{st with t:=put d (.row sz k (xs.length+ys.length)) st.t,e:=cB k ⟨xs.length+ys.length,el,sz,some (xs++ys)⟩ st.e})
  |none=>none
 | .mkmap d key=>some (q9 st key,{t:=put d (.gmap (jH st key)) st.t,b:=cB (jH st key) [.hdm 0 []] st.b,e:=st.e,n:=oj st key,o:=oo st key})
 | .mput g x k v=>match cc st.t x with
  | .gmap m=>match look m st.b with
   |some cs=>match pR g (cc st.t k) (cc st.t v) cs with
    |some cs'=>some (True,{st with b:=cB m cs' st.b})
    |none=>none
   |none=>none
  |_=>none
 | .range d key x=>match cc st.t x with
  | .gmap m=>match look m st.b with
   |some cs=>match zS m cs with
    |some cs'=>some (q9 st key,{t:=put d (.ptr (jH st key) 0) st.t,b:=cB (jH st key) cs' st.b,e:=st.e,n:=oj st key,o:=oo st key})
    |none=>none
   |none=>none
  |_=>none
 | .v d i=>match hh st i with
  |some (c,p)=>some (c,{st with t:=put d p st.t})
  |none=>none
 | .storeE sz x y=>sg st sz (cc st.t x) (cc st.t y)
 | .apps d el x y=>C7 st d el (cc st.t x) (cc st.t y)
 | .box d key x=>some (q9 st key/\e5 (cc st.t x)=true,
   {t:=put d (.ptr (jH st key) 0) st.t,b:=cB (jH st key) (cells (cc st.t x)) st.b,e:=st.e,n:=oj st key,o:=oo st key})
 | .alloc d key z=>some (q9 st key,{t:=put d (.ptr (jH st key) 0) st.t,b:=cB (jH st key) (cells z) st.b,e:=st.e,n:=oj st key,o:=oo st key})
 | .store sz x y=>match cc st.t x with
  | .ptr k off=>match look k st.b with
   |some cs=>some (ik cs=true/\e5 (cc st.t y)=true/\(cells (cc st.t y)).length=sz/\off+sz<=cs.length,{st with b:=cB k (o6 cs off (cells (cc st.t y))) st.b})
   |none=>none
  |p=>sg st sz p (cc st.t y)
 | .bsl d sz el xs=>some (q9 st none/\sA sz (xs.map (cc st.t)),
   {st with t:=put d (.slice sz (.own (.loc st.n)) (xs.map (cc st.t))) st.t,e:=cB (.loc st.n) ⟨xs.length,el,sz,none⟩ st.e,n:=st.n+1})
 | .app d sz el x y=>match cc st.t x,cc st.t y with
  | .slice f tag xs,.slice a _ ys=>if f=sz/\a=sz then
    match tag with
    | .own k=>match look k st.e with
     |some o=>some (o.n=xs.length/\o.el=el/\o.sz=sz/\xs.length+ys.length<=lim,
       {st with t:=put d (.slice sz (.own k) (xs++ys)) st.t,e:=cB k ⟨xs.length+ys.length,el,sz,none⟩ st.e})
     |none=>none
    | .nil=>some (q9 st none/\ys.length<=lim,{st with t:=put d (.slice sz (.own (.loc st.n)) ys) st.t,e:=cB (.loc st.n) ⟨ys.length,el,sz,none⟩ st.e,n:=st.n+1})
    |_=>none
   else none
  |_,_=>none
def eA(κ:aB)(n':Nat)(o':List aB)(st:bh):eb->aW (Prop×bh)
 | .mks d _ sz el z x=>match cc st.t x with
  | .int _ n=>some (0<=n/\n<=lim,
    {t:=put d (.row sz κ n.toNat) st.t,b:=st.b,e:=cB κ ⟨n.toNat,el,sz,some (su n.toNat z)⟩ st.e,n:=n',o:=o'})
  |_=>none
 | .bslm d _ sz el xs=>some (sA sz (xs.map (cc st.t)),
   {t:=put d (.row sz κ xs.length) st.t,b:=st.b,e:=cB κ ⟨xs.length,el,sz,some (xs.map (cc st.t))⟩ st.e,n:=n',o:=o'})
 | .appm d _ sz el x y=>match nk st sz el (cc st.t x) (cc st.t y)with
  |some (none,ys)=>some (ys.length<=lim/\ys≠[],
    {t:=put d (.row sz κ ys.length) st.t,b:=st.b,e:=cB κ ⟨ys.length,el,sz,some ys⟩ st.e,n:=n',o:=o'})
  |some (some (k,xs),ys)=>some (xs.length+ys.length<=lim,{st with t:=put d (.row sz k (xs.length+ys.length)) st.t,e:=cB k ⟨xs.length+ys.length,el,sz,some (xs++ys)⟩ st.e})
  |none=>none
 | .mkmap d _=>some (True,{t:=put d (.gmap κ) st.t,b:=cB κ [.hdm 0 []] st.b,e:=st.e,n:=n',o:=o'})
 | .mput g x k v=>match cc st.t x with
  | .gmap m=>match look m st.b with
   |some cs=>match pR g (cc st.t k) (cc st.t v) cs with
    |some cs'=>some (True,{st with b:=cB m cs' st.b})
    |none=>none
   |none=>none
  |_=>none
 | .range d _ x=>match cc st.t x with
  | .gmap m=>match look m st.b with
   |some cs=>match zS m cs with
    |some cs'=>some (True,{t:=put d (.ptr κ 0) st.t,b:=cB κ cs' st.b,e:=st.e,n:=n',o:=o'})
    |none=>none
   |none=>none
  |_=>none
 | .v d i=>match hh st i with
  |some (c,p)=>some (c,{st with t:=put d p st.t})
  |none=>none
 | .storeE sz x y=>sg st sz (cc st.t x) (cc st.t y)
 | .apps d el x y=>C7 st d el (cc st.t x) (cc st.t y)
 | .box d _ x=>some (e5 (cc st.t x)=true,{t:=put d (.ptr κ 0) st.t,b:=cB κ (cells (cc st.t x)) st.b,e:=st.e,n:=n',o:=o'})
 | .alloc d _ z=>some (True,{t:=put d (.ptr κ 0) st.t,b:=cB κ (cells z) st.b,e:=st.e,n:=n',o:=o'})
 | .store sz x y=>match cc st.t x with
  | .ptr k off=>match look k st.b with
   |some cs=>some (ik cs=true/\e5 (cc st.t y)=true/\(cells (cc st.t y)).length=sz/\off+sz<=cs.length,{st with b:=cB k (o6 cs off (cells (cc st.t y))) st.b})
   |none=>none
  |p=>sg st sz p (cc st.t y)
 | .bsl d sz el xs=>some (sA sz (xs.map (cc st.t)),
   {st with t:=put d (.slice sz (.own κ) (xs.map (cc st.t))) st.t,e:=cB κ ⟨xs.length,el,sz,none⟩ st.e,n:=n',o:=o'})
 | .app d sz el x y=>match cc st.t x,cc st.t y with
  | .slice f tag xs,.slice a _ ys=>if f=sz/\a=sz then
    match tag with
    | .own k=>match look k st.e with
     |some o=>some (o.n=xs.length/\o.el=el/\o.sz=sz/\xs.length+ys.length<=lim,
       {st with t:=put d (.slice sz (.own k) (xs++ys)) st.t,e:=cB k ⟨xs.length+ys.length,el,sz,none⟩ st.e})
     |none=>none
    | .nil=>some (ys.length<=lim,{st with t:=put d (.slice sz (.own κ) ys) st.t,e:=cB κ ⟨ys.length,el,sz,none⟩ st.e,n:=n',o:=o'})
    |_=>none
   else none
  |_,_=>none
def xU:Nat->List ds->List (Nat×jb)->Bool
 |_,[],[]=>true
 |i,x::xs,(j,o)::os=>i==j&&ep x o&&xU (i+1) xs os
 |_,_,_=>false
def eb.bok(κ:aB):eb->Prop
 | .mkmap _ _| .range _ _ _=>κ≠ .obj 861
 | .alloc _ key _| .box _ key _=>κ= .obj 861->key=some 861
 |_=>True
theorem It{st:bh}{key:aW Nat}(h:jH st key= .obj 861):key=some 861:=by cases key<;>simp[jH]at h⊢;exact h
def sc(N:Nat)(bu:List (Nat×dE))(i:eb)(o:Oper):Bool:=
 match i,o.op with
 | .mkmap d key,.makeMap _ none=>o.dst==some d&&decide (d<N)&&key !=some 861
 | .mput l x k v,.mapUpdate t c j g=>o.dst==none&&(match ea bu t with|some ⟨_,_,.map h _,_⟩=>zx bu l h|_=>false)&&ep x c&&ep k j&&ep v g
 | .mput l x k v,.insert t c j g=>o.dst==none&&(match ea bu t with|some ⟨_,_,.map h _,_⟩=>zx bu l h|_=>false)&&ep x c&&ep k j&&ep v g
 | .range d key x,.range t c=>o.dst==some d&&decide (d<N)&&(match ea bu t with|some ⟨_,_,.map _ _,_⟩=>true|_=>false)&&ep x c&&key !=some 861
 | .v d i,op=>o.dst==some d&&decide (d<N)&&FT bu i op
 | .box d key x,.box el o'=>o.dst==some d&&decide (d<N)&&ep x o'&&(key !=some 861||el==FO)
 | .alloc d key z,.alloc el=>o.dst==some d&&decide (d<N)&&(match ea bu el with|some f=>CQ z f.zero|none=>false)&&(key !=some 861||el==FO)
 | .store sz x y,.store t o' a=>o.dst==none&&(match ea bu t with|some f=>f.size==sz|none=>false)&&ep x o'&&ep y a
 | .bsl d sz el xs,.buildSlice t len parts=>o.dst==some d&&decide (d<N)&&(match ea bu t with|some ⟨_,_,.slice b,_⟩=>el==b|_=>false)&&(match ea bu el with|some f=>f.size==sz&&decide (0<sz)|none=>false)
   &&len==xs.length&&decide (len*sz<=16777216)&&xU 0 xs parts.toList
 | .app d sz el x y,.call ⟨.builtin .append,⟨[o',a]⟩,⟨[t,e]⟩⟩=>o.dst==some d&&decide (d<N)&&t==e&&(match ea bu t with|some ⟨_,_,.slice b,_⟩=>el==b|_=>false)
   &&(match ea bu el with|some f=>f.size==sz&&decide (0<sz)&&decide (f.bytes<=2048)|none=>false)&&ep x o'&&ep y a
 | .bslm d _ sz el xs,.buildSlice t len parts=>o.dst==some d&&decide (d<N)&&(match ea bu t with|some ⟨_,_,.slice b,_⟩=>el==b|_=>false)&&(match ea bu el with|some f=>f.size==sz&&decide (0<sz)|none=>false)
   &&len==xs.length&&decide (len*sz<=16777216)&&xU 0 xs parts.toList
 | .appm d _ sz el x y,.call ⟨.builtin .append,⟨[o',a]⟩,⟨[t,e]⟩⟩=>o.dst==some d&&decide (d<N)&&t==e&&(match ea bu t with|some ⟨_,_,.slice b,_⟩=>el==b|_=>false)
   &&(match ea bu el with|some f=>f.size==sz&&decide (0<sz)&&decide (f.bytes<=2048)|none=>false)&&ep x o'&&ep y a
 | .storeE sz x y,.store t o' a=>o.dst==none&&(match ea bu t with|some f=>f.size==sz|none=>false)&&ep x o'&&ep y a
 | .apps d el x y,.call ⟨.builtin .append,⟨[o',a]⟩,⟨[t,e]⟩⟩=>o.dst==some d&&decide (d<N)&&(match ea bu t with|some ⟨_,_,.slice b,_⟩=>el==b|_=>false)&&(match ea bu e with|some ⟨_,_,.str,_⟩=>true|_=>false)
   &&(match ea bu el with|some f=>f.size==1&&decide (f.bytes<=2048)|none=>false)&&ep x o'&&ep y a
 | .mks d _ sz el z x,.makeSlice t o' a=>o.dst==some d&&decide (d<N)&&(match ea bu t with|some ⟨_,_,.slice b,_⟩=>el==b|_=>false)
   &&(match ea bu el with|some f=>f.size==sz&&decide (0<sz)&&decide (f.bytes<=2048)&&CQ z f.zero|none=>false)&&ep x o'&&ep x a
 |_,_=>false
theorem ZG{w:World}{Z:aZ}{C:e0}{st:bh}{a:Act}(p:cS C st a w Z){sz:Nat}:
  ∀(xs:List ds) (i:Nat) (os:List (Nat×jb)) (pre:List ah) (us:Array Value) (ba:List Value),xU i xs os=true->sA sz (xs.map (cc st.t))->us.toList.take (i*sz)=ba->di w Z sz pre ba->i=pre.length->us.size=(i+xs.length)*sz->
  ∃e:Array Value,Instr.fill (fun i=>some (i*sz,sz)) us (os.map fun(x:Nat×jb)=>(x.1,a.eval x.2))=some e/\di w Z sz (pre++xs.map (cc st.t)) e.toList/\e.size=us.size
 |[],i,[],pre,us,ba,_,_,g,h,hi,f=>by refine⟨us,by simp[Instr.fill],?_,rfl⟩;have u:=r9 h;have:us.toList.take (i*sz)=us.toList:=gC (by simp at f⊢;omega);rw[this]at g;simpa[g]using h
 |[],_,_::_,_,_,_,b,_,_,_,_,_=>by simp[xU]at b
 |_::_,_,[],_,_,_,b,_,_,_,_,_=>by simp[xU]at b
 |x::xs,i,(j,o)::os,pre,us,ba,b,k,g,h,hi,f=>by
  simp only[xU,cD,dS]at b;obtain⟨⟨rfl,J⟩,U⟩:=b;simp only[fA,sA]at k;obtain⟨⟨s,hlen⟩,k⟩:=k;have n:=er p J;have m:=wv n s;have q:=qF m;have c:(a.eval o).cells.size=sz:=by rw[hlen]at q;simpa using q
  have hmul:i*sz+sz<=us.size:=by rw[f,jc,show i+(xs.length+1)=(i+1)+xs.length from by omega,p6,Nat.succ_mul];omega
  have l:=Lr (w:=w) (Z:=Z) (a.eval o).cells.toList 0 (i*sz) us (by simp[c];omega);have t:di w Z sz (pre++[cc st.t x]) (ba++(a.eval o).cells.toList):=by refine Cp h ?_;simp only[di];exact⟨a.eval o,[],Ψ,⟨n,c,Cs m⟩,rfl⟩
  have r:ba.length=i*sz:=by rw[<-g];simp;omega
  obtain⟨e,g1,g2,g3⟩:=ZG p xs (i+1) os (pre++[cc st.t x]) (((a.eval o).cells.toList.zipIdx 0).foldl (fun cs (x:Value×Nat)=>cs.setIfInBounds (i*sz+x.2) x.1) us) (ba++(a.eval o).cells.toList) U k
   (by
    rw[l];simp only[Nat.add_zero];rw[g];have:(ba++(a.eval o).cells.toList).length=(i+1)*sz:=by rw[hq,r,Nat.succ_mul];simp[c]
    rw[<-this,List.take_append_of_le_length (eR _),p5]) t (by simp[hi])
   (by have d:=eu List.length l;simp only[Array.length_toList,hq,List.length_take,sq,c]at d;rw[d,f,jc,show i+(xs.length+1)=i+1+xs.length from by omega];rw[f,jc,show i+(xs.length+1)=i+1+xs.length from by omega]at hmul;omega)
  refine⟨e,?_,by simpa using g2,?_⟩
  ·simp only[fA,Instr.fill];rw[if_neg (by simp[c];omega),<-g1];congr 1;rw[<-Array.foldl_toList];simp
  ·rw[g3];have d:=eu List.length l;simp only[Array.length_toList,hq,List.length_take,sq,c]at d;rw[d];omega
theorem aoX{P:cz}(w:World)(t d ty e:fF)(i:TypeInfo)(aM:P.underlying t=some (.slice e))(hu:P.underlying d=some .string)(hi:P.info? e=some i)(f:i.size=1)
  (g a b:Nat) (cur:Array Value) (aY:w.heap[g]? =some (.cells cur e (0,0))) (s:lG) (h:a+s.size<=b) (j:a+s.size<=cur.size):
  (tO #[t,d] ty #[.slice (some ⟨g,0,none⟩) a b,.string s]).run P w=
   .ok (.slice (some ⟨g,0,none⟩) (a+s.size) b) (w.setRow g (cur.toList.take a++byteCells s++cur.toList.drop (a+s.size)).toArray):=by
 have c:=Src.ofString (P:=P) w hu s;have dr:=run_storeCells_at P g a e (byteCells s) 0 cur w aY (by simpa[byteCells_length]using j) c.one;simp only[Nat.add_zero,byteCells_length]at dr;simp[tO,run_underlying aM,run_underlying hu,sizeOf,typeInfo,hi,f,c.len,h,c.cells,Addr.add_lit,dr]
theorem ZD{P:cz}(w:World)(t c ty e:fF)(i:TypeInfo)(z:Value)(aM:P.underlying t=some (.slice e))(hu:P.underlying c=some .string)(hi:P.info? e=some i)(x:i.zero=some z)(f:i.size=1)(p:z.cells.size=1)
  (v:Value) (n:Nat) (xs:List Value) (d:w.ownsRow 0 e 1 v n xs) (s:lG) (cap:Nat) (base:aW Addr) (B:v= .slice base n cap) (o:cap<n+s.size) (h:n+s.size<=maxLen) (q:(n+s.size)*i.bytes<=140737488355328):
  ∃v' w',(tO #[t,c] ty #[v,.string s]).run P w= .ok v' w'/\w'.ownsRow w.heap.size e 1 v' (n+s.size) (xs++byteCells s)/\w.grownBy w' none:=by
 subst B;have F:=Src.ofString (P:=P) w hu s;have b:xs.length=n:=by simpa using d.1
 have hold:(Builtin.firstCells i.size n (.slice base n cap)).run P w.drew= .ok xs.toArray w.drew:=by
  rw[f];rcases d.2 with⟨a,rfl⟩|⟨g,G,cur,a,K,aY,M,l,H,J⟩
  ·injection a with a E r;subst a;have:xs=[]:=u6 b;subst this;exact run_firstCells_none w.drew 1 0 0 cap
  ·have L:=a;injection a with a E r;subst a;refine run_firstCells_some w.drew 1 n _ n cap xs Ω fun j u y=>?_;have:=d.cells (g:=g) rfl j u y;simpa using this
 have D:=run_append_grow_src (P:=P) w t c ty e i z aM hi x base n cap xs hold (.string s) s.size (byteCells s) (by rw[f];exact F) o (by simp only[maxLen]at h;omega) (growslice_fits Ω q);have m:=grownCap_ge w (n+s.size) cap e;have l:grownCap w (n+s.size) cap e<=maxLen:=grownCap_le_maxLen w (n+s.size) cap e h;refine⟨_,_,D,⟨by simp[byteCells_length,b],.inr ⟨w.heap.size,_,_,rfl,eR _,heap_alloc_new w.drew _,m,l,?_,?_⟩⟩,⟨rfl,rfl,rfl,Ψ,fun k A _=>heap_alloc_old w.drew _ A⟩⟩
 ·simp only[Array.size_append,List.size_toArray,size_zeroCells,p,hq,byteCells_length,b];omega
 ·simp only[Array.toList_append,List.toList_toArray];rw[List.take_left' (by simp[byteCells_length,b])]
theorem OR(w:World)(Z:aZ):∀s:List bV,di w Z 1 (gx s) (s.map fun c=>pf .u8 c.toNat)
 |[]=>by simp[gx,di]
 |c::s=>by have:=OR w Z s;simp only[gx,fA,di]at this⊢;exact⟨.int .u8 c.toNat,_,rfl,⟨by simp[aS],rfl,by intro x a;simp[nM]at a;subst a;rfl⟩,this⟩
theorem lE{P:cz}{o:Oper}{a:Act}{w w':World}{v:Value}{K:Act->World->Prop}{Q:Exit->Act->World->Prop}(h:(execOp a.eval o).run P w= .ok (.value v) w')(b:K (a.put o.dst v) w'):o.wp P a w K Q:=by unfold Oper.wp;rw[h];exact b
theorem F3{P:cz}{o:Oper}{a:Act}{w w':World}{K:Act->World->Prop}{Q:Exit->Act->World->Prop}(h:(execOp a.eval o).run P w= .ok .skip w')(b:K (a.put o.dst undef) w'):o.wp P a w K Q:=by unfold Oper.wp;rw[h];exact b
theorem FV{P:cz}{w w':World}{x:Sem Value}{v:Value}(h:x.run P w= .ok v w'):(do pure (Next.value (<-x)):Sem Next).run P w= .ok (.value v) w':=by simp[h]
theorem ZE{P:cz}{bu:List (Nat×dE)}(aM:e6 P bu=true){C:e0}{st:bh}{a:Act}{w:World}{Z:aZ}(s:cS C st a w Z){t el:Nat}{f g:dE}(r:ea bu t=some f)(q:f.kind= .slice el)(aY:ea bu el=some g)
  {xs:List ds} {os:List (Nat×jb)} (k:xU 0 xs os=true) (l:sA g.size (xs.map (cc st.t))) (hlen:xs.length*g.size<=16777216):
  ∃us:Array Value,(Instr.buildSlice t xs.length (os.map fun(x:Nat×jb)=>(x.1,a.eval x.2)).toArray).run P w= .ok (.slice (some ⟨w.heap.size,0,none⟩) xs.length xs.length) (w.alloc (.cells us el))/\
   di w Z g.size (xs.map (cc st.t)) us.toList/\us.size=xs.length*g.size:=by
 obtain⟨d,h,c⟩:=ia aM r;rw[q]at c;obtain rfl:=rP c;obtain⟨_,e⟩:=wI aM aY w;obtain⟨z,j,p,o⟩:=PC aM aY w;have n:¬xs.length*g.size>2 ^ 24:=Ω
 let init:Array Value:=if xs.length*g.size=0 then(Array.range (xs.length*g.size)).map ((#[]:Array Value)[· %(#[]:Array Value).size]!)else(Array.range (xs.length*g.size)).map (z.cells[· %z.cells.size]!)
 have i:init.size=xs.length*g.size:=by simp only[init];split<;>simp
 obtain⟨m,g1,g2,g3⟩:=ZG (a:=a) s xs 0 os [] init [] k l Ψ (by simp[di]) rfl (by rw[i];simp);refine⟨m,?_,by simpa using g2,by rw[g3,i]⟩;simp only[init]at g1;by_cases b:xs.length*g.size=0
 ·rw[if_pos b]at g1;rw[b]at g1;have u:¬(0:Nat)>2 ^ 24:=by decide
  simp only[Instr.buildSlice,fq,run_underlying h,fx,e,if_false,gn,b,if_true,u,g1,newRow,run_newObj];rfl
 ·rw[if_neg b]at g1;simp only[Instr.buildSlice,fq,run_underlying h,fx,e,n,if_false,gn,b,j,g1,newRow,run_newObj];rfl
theorem EZ{P:cz}{w:World}{Z:aZ}{g:j8}{t:fF}(B:vc P g t){k v:ah}{a q:Value}(p:aS w Z k a)(D:aS w Z v q):
  ∀(borns:List Nat) (kvs:List ah) (us:List Value) (i:Nat) (r:aW (List ah)),cH w Z kvs us->kvs.length=2*borns.length->wb g k v kvs=some r->
  match r with
  |none=>iC P w g t a (ga borns us) i none
  |some s=> ∃j u m e,iC P w g t a (ga borns us) i (some (i+j,u))/\cH w Z s m/\s.length=kvs.length/\(ga borns us)[j]? =some e/\e.key=a/\Instr.sameBits 10000 e.key a=true/\ga borns m=(ga borns us).modify j (fun e=>{e with key:=a,val:=q})
 |[],[],us,i,r,h,_,hm=>by simp only[wb]at hm;cases hm;simp only[cH]at h;subst h;simpa[ga]using iC.nil P w g t a i
 |[],_::_,_,_,_,_,c,_=>by simp at c
 |b::n,[],_,_,_,_,c,_=>by simp at c
 |b::n,[_],_,_,_,_,c,_=>by simp at c;omega
 |b::n,E::v'::kvs,us,i,r,h,c,hm=>by
  simp only[cH]at h;obtain⟨f,F,rfl,J,d,x,rfl,U,A⟩:=h;simp only[wb]at hm;simp only[ga];cases o:uB g k E with
  |none=>simp[o]at hm
  |some bb=>
   obtain⟨s1,s2⟩:=WH B p J o;simp only[o]at hm;cases bb with
   |true=>simp only[dv]at hm;subst hm;obtain⟨rfl,s3⟩:=s2 rfl;refine⟨0,d,f::q::x,⟨f,d,b⟩,iC.hit (e:=⟨f,d,b⟩) s1,?_,Ψ,Ψ,rfl,s3,by simp[ga]⟩;simp only[cH];exact⟨_,_,rfl,p,_,_,rfl,D,A⟩
   |false=>
    simp only at hm;have z:=fun y l=>EZ B p D n kvs x (i+1) y A (by simp at c;omega) l;split at hm
    ·rename_i y l;cases hm;obtain⟨j,u,m,e,g1,g2,g3,g4,g5,g6,g7⟩:=z _ l;refine⟨j+1,u,f::d::m,e,iC.miss (e:=⟨f,d,b⟩) s1 (by rw[show i+(j+1)=i+1+j from by omega];exact g1),?_,by simp[g3],by simpa using g4,g5,g6,by simp[ga,g7]⟩;simp only[cH];exact⟨_,_,rfl,J,_,_,rfl,U,g2⟩
    ·rename_i l;cases hm;exact iC.miss (e:=⟨f,d,b⟩) s1 (z _ l)
    ·cases hm
theorem K4:∀(borns:List Nat) (us:List Value) (b:Nat) (k v:Value),us.length=2*borns.length->ga (borns++[b]) (us++[k,v])=ga borns us++[⟨k,v,b⟩]
 |[],us,b,k,v,h=>by have:us=[]:=u6 (by simpa using h);subst this;simp[ga]
 |cb::a,[],b,k,v,h=>by simp at h
 |cb::a,[_],b,k,v,h=>by simp at h;omega
 |cb::a,c::v'::us,b,k,v,h=>by simp only[bX,ga,K4 a us b k v (by simp at h;omega)]
theorem OV{w:World}{Z:aZ}:∀{a b7:List ah} {ba us:List Value},cH w Z a ba->cH w Z b7 us->cH w Z (a++b7) (ba++us)
 |[],b7,ba,us,h,b=>by simp only[cH]at h;subst h;simpa using b
 |p::a,b7,ba,us,h,b=>by simp only[cH]at h;obtain⟨u,c,rfl,J,U⟩:=h;simp only[bX,cH];exact⟨u,_,rfl,J,OV U b⟩
theorem Je{w:World}{Z:aZ}:∀{a:List ah} {ba:List Value},cH w Z a ba->ba.length=a.length
 |[],ba,h=>by simp only[cH]at h;subst h;rfl
 |p::a,ba,h=>by simp only[cH]at h;obtain⟨u,b,rfl,_,U⟩:=h;simp[Je U]
theorem FB{P:cz}{w:World}{r:Nat}{o o':Obj}(ae:w.heap[r]? =some o)(a:∀c e f,o≠ .cells c e f:=by simp):(setObj r o').run P w= .ok () {w with heap:=w.heap.setIfInBounds r o'}:=by simp only[setObj,Sem.run,ae]
def eb.makes(st:bh):eb->Bool
 | .box _ _ _| .alloc _ _ _| .bsl _ _ _ _| .bslm _ _ _ _ _| .mkmap _ _| .range _ _ _| .mks _ _ _ _ _ _=>true
 | .appm _ _ _ _ x _=>match cc st.t x with
  | .slice _ .nil _=>true
  |_=>false
 | .app _ _ _ x _=>match cc st.t x with
  | .slice _ .nil _=>true
  |_=>false
 |_=>false
theorem cS.forgetRow{C:e0}{st:bh}{a:Act}{w:World}{Z:aZ}(b:cS C st a w Z){k:aB}{ow:ec}(h:look k st.e=some ow):cS C {st with e:=cB k ⟨ow.n,ow.el,ow.sz,none⟩ st.e} a w Z:=by
 have d:∀g,(look g (cB k ⟨ow.n,ow.el,ow.sz,none⟩ st.e)).isSome->(look g st.e).isSome:=fun g aY=>by
  rw[jG]at aY;split at aY
  ·rename_i e;subst e;simp[h]
  ·exact aY
 refine⟨⟨b.good.alt,b.good.box,b.good.inj,fun g o aY=>?_,fun g f n n' v v' bl c a2=>b.good.oinj g f n n' v v' bl (d g c) (d f a2),fun g j n v bl c=>b.good.obx g j n v bl (d g c),b.good.one,fun bl ae=>b.good.otr bl (ae.imp id (fun⟨g,n,v,c,a2⟩=>⟨g,n,v,d g c,a2⟩))⟩,b.fr,b.defers,b.size,b.slot,b.new,b.ext,b.obk⟩;simp only at aY;rw[jG]at aY;split at aY
 ·rename_i e;subst e;cases aY;obtain⟨v,us,p,l,i,_⟩:=b.good.own k ow h;exact⟨v,us,p,l,i,fun xs m=>by cases m⟩
 ·exact b.good.own g o aY
theorem IG{w:World}{base el sz n:Nat}{v:Value}{us:List Value}(h:w.ownsRow base el sz v n us)(a:0<n):∃b cap,v= .slice (some ⟨b,0,none⟩) n cap:=by
 rcases h.2 with⟨c,d⟩|⟨bb,cap,cur,f1,_⟩
 ·omega
 ·exact⟨_,_,f1⟩
theorem Ja{w:World}{Z:aZ}{sz:Nat}:∀{xs:List ah} {us:List Value} {i:Nat} {q b:ah} {a:Value},di w Z sz xs us->xs[i]? =some q->aS w Z b a->a.cells.size=sz->(∀c∈a.cells.toList,c.oneCell'=true)->di w Z sz (xs.set i b) (us.take (i*sz)++a.cells.toList++us.drop (i*sz+sz))
 |[],_,_,_,_,_,_,d,_,_,_=>by simp at d
 |x::xs,us,0,q,b,a,h,d,k,j,ak=>by
  simp only[di]at h;obtain⟨u,l,rfl,⟨J,U,m⟩,g⟩:=h;have f:u.cells.toList.length=sz:=by simpa using U
  simp only[List.set_cons_zero,di];refine⟨a,l,?_,⟨k,j,ak⟩,g⟩;simp[<-f]
 |x::xs,us,i+1,q,b,a,h,d,k,j,ak=>by
  simp only[di]at h;obtain⟨u,l,rfl,⟨J,U,m⟩,g⟩:=h;have f:u.cells.toList.length=sz:=by simpa using U
  have n:=Ja g (by simpa using d) k j ak;simp only[List.set_cons_succ,di];refine⟨u,_,?_,⟨J,U,m⟩,n⟩;have e:(i+1)*sz+sz=u.cells.toList.length+(i*sz+sz):=by rw[f,Nat.succ_mul];omega
  rw[aaa _ _ _ _ f,e,<-List.drop_drop];simp
theorem aoV{w:World}{Z:aZ}{q:ah}{v:Value}(b:aS w Z q v)(l:e5 q=true){cs:List ah}{us:List Value}(ax:cW w Z cs us){f:Nat}(g:f+us.length<=v.cells.size)(n:us≠[]):
  ∃v',aS w Z (nG q f cs) v'/\v'.cells.toList=v.cells.toList.take f++us++v.cells.toList.drop (f+us.length)/\v'.cells.size=v.cells.size/\∀c∈v'.cells.toList,c.oneCell'=true:=by
 have hlen:=qF ax;have x:=wv b l;by_cases k:∃d,q= .agg d
 ·obtain⟨d,rfl⟩:=k;simp only[aS]at b;obtain⟨ba,rfl,j⟩:=b;simp only[nM]at g⊢;have i:cW w Z (o6 d f cs) (ba.toList.take f++us++ba.toList.drop (f+us.length)):=by unfold o6;rw[hlen];exact zU (zU (Fw f j) ax) (Cr _ j)
  refine⟨.agg (ba.toList.take f++us++ba.toList.drop (f+us.length)).toArray,by simp only[nG,aS];exact⟨_,rfl,by simpa using i⟩,by simp[nM],?_,fun c a=>?_⟩
  ·simp[nM];omega
  ·exact Cs i c (by simpa[nM]using a)
 ·have h:∀cs,q≠ .agg cs:=fun cs e=>k ⟨cs,e⟩;obtain⟨J,U⟩:=OW b l h;rw[U]at g⊢;match us,n,ax with
  |u::o,_,ax=>
   simp at g;obtain⟨rfl,rfl⟩:f=0/\o=[]:=⟨Ω,List.length_eq_zero_iff.1 Ω⟩;match cs,ax,hlen with
   |[c],ax,_=>
    simp only[cW]at ax;obtain⟨t,y,p,⟨r,m⟩,_⟩:=ax;cases p;have hu:u.cells= #[u]:=by cases u<;>first|rfl|cases m
    have s:nG q 0 [c]=c:=by cases q<;>first|rfl|exact absurd rfl (h _)
    rw[s];refine⟨u,r,by simp[hu],by simp[hu],fun c a=>?_⟩;rw[hu]at a;simp at a;subst a;exact m
theorem apz{α:Type}(A us:List α)(a f sz N:Nat)(J:f+us.length<=sz)(U:a+sz<=N)(j:N<=A.length):
  ((A.take (a+f)++us++A.drop (a+f+us.length)).toArray.toList).take N=(A.take N).take a++((((A.take N).drop a).take sz).take f++us++(((A.take N).drop a).take sz).drop (f+us.length))++(A.take N).drop (a+sz):=by
 have g:(A.take N).take a++(((A.take N).drop a).take sz).take f=A.take (a+f):=by rw[List.take_take (i:=f),Nat.min_eq_left (show f<=sz by omega),<-List.take_add,List.take_take,Nat.min_eq_left Ω]
 have h:(((A.take N).drop a).take sz).drop (f+us.length)++(A.take N).drop (a+sz)=(A.take N).drop (a+f+us.length):=by
  have b:f+us.length<=(((A.take N).drop a).take sz).length:=by simp;omega
  have d:(A.take N).drop (a+sz)=((A.take N).drop a).drop sz:=by rw[List.drop_drop]
  rw[d,<-List.drop_append_of_le_length b,List.take_append_drop,List.drop_drop];congr 1;omega
 have e:(A.take N).drop (a+f+us.length)=(A.drop (a+f+us.length)).take (N-(a+f+us.length)):=by rw[List.drop_take]
 have b:(A.take (a+f)++us).length=a+f+us.length:=by simp;omega
 simp only[List.append_assoc]at*;rw[h,e,<-List.append_assoc (mH a _),g];have c:N=(A.take (a+f)++us).length+(N-(a+f+us.length)):=by rw[b];omega
 rw[<-List.append_assoc,<-List.append_assoc];conv=>lhs;rw[c,List.take_length_add_append]
theorem cS.storeRow{P:cz}{C:e0}{st:bh}{a:Act}{w:World}{Z:aZ}(h:cS C st a w Z){k:aB}{n el sz:Nat}{xs:List ah}(H:look k st.e=some ⟨n,el,sz,some xs⟩){i f:Nat}{u:Value}(K:aS w Z (.rptr sz k n i f) u){q:ah}(E:xs[i]? =some q)(G:e5 q=true)
  {cs:List ah} {us:List Value} (ax:cW w Z cs us) (aG:f+us.length<=(cells q).length) (W:us≠[]):
  ∃bl off b,u= .pointer (some ⟨bl,off,none⟩)/\(storeCells ⟨bl,off,none⟩ us).run P w= .ok () (w.setRow bl b)/\∃Z',cS C {st with e:=cB k ⟨n,el,sz,some (xs.set i (nG q f cs))⟩ st.e} a (w.setRow bl b) Z':=by
 simp only[aS]at K;obtain⟨_,hi,n',fp,J,U,ao⟩:=K;obtain⟨v,d,x,F,bR,V⟩:=h.good.own k _ H;rw[J]at x;simp only[dv,hN]at x;obtain⟨rfl,rfl⟩:=x;obtain⟨bl,ae,rfl⟩:=ao rfl;obtain⟨c,l,r8⟩:=V xs rfl;simp only at c l;obtain⟨v,D,m,Q⟩:=I8 i l E;have Be:=qF (wv D G);have r:(cells q).length=sz:=by rw[<-Be];simpa using m
 have M:f+us.length<=sz:=by rw[<-r];exact aG
 have hmul:i*sz+sz<=n'*sz:=by have:=tR sz (show i+1<=n' from hi);rwa[Nat.succ_mul]at this
 rcases F.2 with⟨ai,aC⟩|⟨g,cap,cur,rfl,xh,y,z,Bf,o,L⟩
 ·rw[ai]at ae;simp[oA]at ae
 simp only[oA,dv]at ae;subst ae;simp only at L o z y;have O:n'*sz<=cur.size:=by rw[o];exact tR sz z
 have dr:=run_storeCells_at P g (i*sz+f) el us 0 cur w y Ω (Cs ax);simp only[Nat.add_zero]at dr;refine⟨g,i*sz+f,_,rfl,dr,?_⟩;generalize A:(cur.toList.take (i*sz+f)++us++cur.toList.drop (i*sz+f+us.length)).toArray=b;obtain⟨v',X,S,R,N⟩:=aoV D G ax (f:=f) (by rw[m];exact M) W;have B:=Ja l E X (by rw[R,m]) N;have hlen:d.length=n'*sz:=F.1;have s:b.toList.take (n'*sz)=d.take (i*sz)++v'.cells.toList++d.drop (i*sz+sz):=by rw[<-A,S,Q,<-L];exact apz cur.toList us (i*sz) f sz (n'*sz) M hmul (by simpa using O)
 have t:b.size=cap*sz:=by rw[<-A,<-o];simp;omega
 have Y:(xs.set i (nG q f cs)).length=n':=by simp[c]
 obtain⟨p,_,_⟩:=h.setRowM (w':=w.setRow g b) H rfl J (bl:=g) rfl (v':= .slice (some ⟨g,0,none⟩) n' cap) rfl (xs':=xs.set i (nG q f cs)) (us:=d.take (i*sz)++v'.cells.toList++d.drop (i*sz+sz)) (.inl ⟨by simp[c],rfl⟩) rfl rfl rfl (fun j af=>setRow_other w g j b af) (setRow_size w g b)
  ⟨by rw[r9 B],.inr ⟨g,cap,b,by simp[c],Nat.zero_le _,setRow_heap w g cur b el _ y,by simpa[c]using z,Bf,t,by simpa[c]using s⟩⟩ B
 exact⟨_,by simpa[c]using p⟩
theorem akv(z:Array Value)(n:Nat)(h:0<z.size):(madeCells z ((n+1)*z.size)).toList=z.toList++(madeCells z (n*z.size)).toList:=by
 apply List.ext_getElem?;intro j;rw[List.getElem?_append];have he:(n+1)*z.size=n*z.size+z.size:=by rw[p6,Nat.one_mul]
 simp only[madeCells,tN,Array.length_toList,Array.getElem?_map];by_cases a:j<z.size
 ·rw[if_pos a,Array.getElem?_range,if_pos Ω];simp[Nat.mod_eq_of_lt a,a]
 ·rw[if_neg a,Array.getElem?_range,Array.getElem?_range];by_cases b:j<n*z.size+z.size
  ·rw[if_pos Ω,if_pos Ω];simp only[ni];rw[<-Nat.mod_eq_sub_mod Ω]
  ·rw[if_neg Ω,if_neg Ω]
theorem Xn{w:World}{Z:aZ}{p:ah}{z:Value}(a:aS w Z p z)(h:0<z.cells.size)(ak:∀c∈z.cells.toList,c.oneCell'=true):∀n,di w Z z.cells.size (su n p) (madeCells z.cells (n*z.cells.size)).toList
 |0=>by simp[di,madeCells]
 |n+1=>by rw[akv _ _ h];simp only[List.replicate_succ,di];exact⟨z,_,rfl,⟨a,rfl,ak⟩,Xn a h ak n⟩
theorem QA{P:cz}{bu:List (Nat×dE)}(aM:e6 P bu=true){C:e0}{st st':bh}{a:Act}{w:World}{Z:aZ}(r:cS C st a w Z){d el:Nat}{x y:ds}{o:Oper}(ak:sc C.N bu (.apps d el x y) o=true)
  {c:Prop} (he:C7 st d el (cc st.t x) (cc st.t y)=some (c,st')) (ax:c) {K:Act->World->Prop} {Q:Exit->Act->World->Prop} (c7:∀bo w' Z',cS C st' bo w' Z'->K bo w'):o.wp P a w K Q:=by
 obtain⟨dst,op,type,pos,after,guard⟩:=o;generalize hi:eb.apps d el x y=i at ak;unfold sc at ak;dsimp only at ak;split at ak<;>first|(cases hi;done)|(cases ak;done)|skip
 rename_i o' h8 t F;cases hi;simp only[cD,dS,e8]at ak;obtain⟨⟨⟨⟨⟨⟨J,U⟩,S⟩,ag⟩,G⟩,dk⟩,dY⟩:=ak;subst J;split at S
 ·rename_i E aG;simp only[dS]at S;subst S;split at ag
  ·rename_i Hr;split at G
   ·rename_i g aY;simp only[cD,dS,e8]at G;obtain⟨pI,vA⟩:=G;have rx:=er r dk;have D:=er r dY;have H:∀v' w',(tO #[t,F] type #[a.eval o',a.eval h8]).run P w= .ok v' w'->(execOp a.eval ⟨some d,.call ⟨.builtin .append,⟨[o',h8]⟩,⟨[t,F]⟩⟩,type,pos,after,guard⟩).run P w= .ok (.value v') w':=by intro v' w' h7;simp only[execOp,resolve,invoke,builtin,fq,gn,fx,List.map_toArray,fA,pg];rw[h7];rfl
    obtain⟨m,ch,z,ai,aC,bj,cR,fM,gS,rQ,qR⟩:=(uZ aM aY).ex;obtain⟨en,iw,fa⟩:=ia aM aG;obtain rfl:=rP fa;obtain⟨asF,LY,ah9⟩:=ia aM Hr;obtain rfl:=w5 ah9;have q4:z.cells.size=1:=by rw[qR,pI]
    have V:m.size=1:=by rw[bj,pI]
    unfold C7 at he;split at he
    ·rename_i sz k n s ab aN;split at he
     ·rename_i n' E dJ xs ad;split at he
      ·rename_i sT;obtain⟨rfl,rfl,rfl,rfl⟩:=sT;cases he;rw[ab]at rx;rw[aN]at D;simp only[aS]at rx D;obtain⟨⟨bx,pA,rr⟩,rxl,n0,N,dI,e4,kp⟩:=rx;obtain⟨W,l3⟩:=D;obtain⟨v0,A,a8,R,bR,cY⟩:=r.good.own k _ ad;rw[dI]at a8;simp only[dv,hN]at a8 R;obtain⟨rfl,rfl⟩:=a8;have O:a.eval o'=N:=kp rfl;obtain⟨p,kG,r8⟩:=cY xs rfl;simp only at p kG;have f:(⟨s.toArray⟩:lG).size=s.length:=by simp[abe]
       have DU:byteCells ⟨s.toArray⟩=s.map fun c=>pf .u8 c.toNat:=by simp[byteCells]
       have ux:A.length=xs.length:=by rw[p];simpa using R.1
       have M:di w Z 1 (xs++gx s) (A++byteCells ⟨s.toArray⟩):=by rw[DU];exact Cp kG (OR w Z s)
       have b:(gx s).length=s.length:=by simp[gx]
       have Y:(xs.length+s.length)*m.bytes<=140737488355328:=by
        have jj:m.bytes<=2048:=by rw[cR];exact vA
        have lj:(xs.length+s.length)*m.bytes<=(xs.length+s.length)*2048:=Nat.mul_le_mul_left _ jj;simp only[lim]at ax;omega
       have kV:xs.length+s.length<=maxLen:=by simp only[lim]at ax;simp only[maxLen];omega
       rw[W,O]at H;have y4:∀(base:aW Addr) (cap:Nat),N= .slice base xs.length cap->n0<=cap->cap<xs.length+s.length->(⟨some d,.call ⟨.builtin .append,⟨[o',h8]⟩,⟨[t,F]⟩⟩,type,pos,after,guard⟩:Oper).wp P a w K Q:=by
        intro base cap hu Ec sR;obtain⟨v',w',f1,f2,f3⟩:=ZD (P:=P) w t F type E m z iw LY ai gS V q4 N xs.length A (by rw[p];exact R) ⟨s.toArray⟩ cap base hu (by rw[f];exact sR) (by rw[f];exact kV) (by rw[f];exact Y);rw[f]at f2;obtain⟨L,B⟩:=r.newRowM (k:=k) (xs:=xs++gx s) (el:=E) (sz:=1) (.inr ⟨_,ad,by simp[b];omega⟩) f3 (by rw[hq,b];exact f2) M (by rw[hq,b];exact ax) (n':=st.n) (o':=st.o)
         (fun j q=>⟨q,fun e=>by subst e;have:=(r.new _ q).2.1;rw[dI]at this;cases this⟩)
        refine lE (H _ _ f1) (c7 _ _ (Z.withOwn k (xs++gx s).length v') ?_);have:=L.put (d:=some d) (by simpa[h1]using U) (B (by rw[hq,b];exact IG f2 Ω));simpa[eP,b]using this
       rcases R.2 with⟨u,wj⟩|⟨bl,cap,cur,u,wj,wk,Fl,Fm,IK,Cf⟩
       ·rw[<-O,rr]at u;cases u
       ·have lr:N.ownBlock=some bl:=by rw[u];rfl
        by_cases oW:xs.length+s.length<=cap
        ·have f1:=aoX (P:=P) w t F type E m iw LY ai V bl xs.length cap cur wk ⟨s.toArray⟩ (by rw[f];exact oW) (by rw[f];omega);rw[f]at f1;generalize Ez:(cur.toList.take xs.length++byteCells ⟨s.toArray⟩++cur.toList.drop (xs.length+s.length)).toArray=l at f1;have kv:(w.setRow bl l).heap[bl]? =some (.cells l E (0,0)):=setRow_heap w bl cur l E _ wk;have pJ:(byteCells ⟨s.toArray⟩).length=s.length:=by rw[byteCells_length,f]
         have aq:(A++byteCells ⟨s.toArray⟩).length=(xs++gx s).length*1:=by rw[hq,ux,pJ,hq,b,Nat.mul_one]
         have G:cur.toList.take xs.length=A:=by rw[p];simpa using Cf
         have kx:l.size=cap*1:=by rw[<-Ez];simp only[List.size_toArray,hq,List.length_take,sq,Array.length_toList,pJ];omega
         have oX:l.toList.take ((xs++gx s).length*1)=A++byteCells ⟨s.toArray⟩:=by rw[<-Ez,G,<-aq];exact List.take_left
         obtain⟨L,_,B⟩:=r.setRowM (w':=w.setRow bl l) ad rfl dI lr (v':= .slice (some ⟨bl,0,none⟩) (xs.length+s.length) cap) rfl (xs':=xs++gx s) (us:=A++byteCells ⟨s.toArray⟩)
          (by
           by_cases bm:s=[]
           ·subst bm;exact .inl ⟨by simp[gx,p],by rw[u];simp[p]⟩
           ·exact .inr (by have:=List.length_pos_iff.2 bm;simp[b];omega)) rfl rfl rfl (fun j q=>setRow_other w bl j l q) (setRow_size w bl l)
          ⟨aq,.inr ⟨bl,cap,l,by simp[b],Nat.zero_le _,kv,by simpa[b]using oW,Fm,kx,oX⟩⟩ M
         replace B:=B (by simpa[b]using ax);refine lE (v:= .slice (some ⟨bl,0,none⟩) (xs.length+s.length) cap) (w':=w.setRow bl l) (H _ _ ?_) (c7 _ _ (Z.withOwn k (xs++gx s).length (.slice (some ⟨bl,0,none⟩) (xs.length+s.length) cap)) ?_)
         ·rw[u,<-p];exact f1
         ·have:=L.put (d:=some d) (by simpa[h1]using U) B;simpa[eP,b]using this
        ·exact y4 _ cap (by rw[u,<-p]) Fl Ω
      ·cases he
     ·cases he
    ·rename_i sz xs s ab aN;split at he
     ·rename_i dO;obtain rfl:=dO;cases he;obtain⟨ui,rV,X⟩:=ax;rw[ab]at rx;rw[aN]at D;simp only[aS]at rx D;have O:=rx.2.1 trivial;obtain⟨W,l3⟩:=D;have f:(⟨s.toArray⟩:lG).size=s.length:=by simp[abe]
      have DU:byteCells ⟨s.toArray⟩=s.map fun c=>pf .u8 c.toNat:=by simp[byteCells]
      have M:di w Z 1 (gx s) (byteCells ⟨s.toArray⟩):=by rw[DU];exact OR w Z s
      have b:(gx s).length=s.length:=by simp[gx]
      have fN:0<s.length:=List.length_pos_iff.2 rV;have Y:(0+s.length)*m.bytes<=140737488355328:=by
       have jj:m.bytes<=2048:=by rw[cR];exact vA
       have lj:(0+s.length)*m.bytes<=(0+s.length)*2048:=Nat.mul_le_mul_left _ jj;simp only[lim]at X;omega
      have kV:0+s.length<=maxLen:=by simp only[lim]at X;simp only[maxLen];omega
      rw[W,O]at H;obtain⟨v',w',f1,f2,f3⟩:=ZD (P:=P) w t F type el m z iw LY ai gS V q4 (.slice none 0 0) 0 [] ⟨rfl,.inl ⟨rfl,rfl⟩⟩ ⟨s.toArray⟩ 0 none rfl (by rw[f];omega) (by rw[f];exact kV) (by rw[f];exact Y);rw[f,Nat.zero_add,b3]at f2;have lZ:fresh st.n st.o (.obj 862):=⟨trivial,ui⟩;obtain⟨L,B⟩:=r.newRowM (k:= .obj 862) (xs:=gx s) (el:=el) (sz:=1) (.inl (r.new _ lZ)) f3 (by rw[b];exact f2) M (by rw[b];exact X) (n':=st.n) (o':= .obj 862::st.o)
       (fun j q=>⟨⟨q.1,fun h=>q.2 (p4 _ h)⟩,fun e=>by subst e;exact q.2 Ψ⟩)
      refine lE (H _ _ f1) (c7 _ _ (Z.withOwn (.obj 862) (gx s).length v') ?_);have:=L.put (d:=some d) (by simpa[h1]using U) (B (by rw[b];exact IG f2 fN));simpa[eP,b]using this
     ·cases he
    ·cases he
   ·cases G
  ·cases ag
 ·cases S
theorem jJ{P:cz}{bu:List (Nat×dE)}(aM:e6 P bu=true){C:e0}{st st':bh}{a:Act}{w:World}{Z:aZ}(l:cS C st a w Z){i:eb}{o:Oper}(ak:sc C.N bu i o=true)
  {κ:aB} {n':Nat} {o₁:List aB} (vE:i.makes st=true->fresh st.n st.o κ) (dq:i.makes st=true->∀j,fresh n' o₁ j->fresh st.n st.o j/\j≠κ) {c:Prop} (he:eA κ n' o₁ st i=some (c,st')) (ax:c) {K:Act->World->Prop} {Q:Exit->Act->World->Prop} (M:∀bo w' Z',cS C st' bo w' Z'->K bo w') (hB:i.bok κ:=by first|trivial|(intro h;cases h)):o.wp P a w K Q:=by
 obtain⟨dst,op,type,pos,after,guard⟩:=o;unfold sc at ak;dsimp only at ak;split at ak
 ·rename_i d key t;simp only[cD,dS,e8]at ak;obtain⟨⟨rfl,U⟩,_⟩:=ak;simp only[eA]at he;cases he;obtain⟨g1,g2⟩:=l.newBox (l.new _ (vE rfl)) (dq rfl) (cs:=[.hdm 0 []]) (us:= #[]) ⟨0,fun e=>absurd e hB⟩ (by simp only[iz];exact⟨by simp[cH],⟨rfl,Ψ,Ψ⟩⟩);refine lE (v:= .map (some w.heap.size)) (w':=w.alloc (.map #[] 0)) ?_ (M _ _ _ (g1.put (d:=some d) (by simpa[h1]using U) (p:= .gmap κ) ?_))
  ·simp only[execOp,Instr.makeMap,Option.map_none,fq,run_newObj,fx,gn];rfl
  ·simp[aS,aZ.withBox]
 ·rename_i ck x k v t gP hc pS;simp only[cD,dS]at ak;obtain⟨⟨⟨⟨rfl,J⟩,U⟩,A⟩,E⟩:=ak;have rx:=er l U;have wz:=er l A;have z6:=er l E;split at J
  ·rename_i sz O kZ qk z N;obtain⟨cQ,hu,fa⟩:=ia aM N;have uk:cQ= .map kZ qk:=by cases cQ<;>simp[ks]at fa;obtain⟨rfl,rfl⟩:=fa;rfl
   subst uk;have mO:=M0 aM J;simp only[eA]at he;split at he
   ·rename_i m L;rw[L]at rx;simp only[aS]at rx;obtain⟨bl,cj,b5⟩:=rx;split at he
    ·rename_i cs dF;split at he
     ·rename_i cs' hm;cases he;obtain⟨jf,us,el,X,bA,bR,W,s⟩:=l.good.box m cs dF;rw[cj]at X;cases X;unfold pR at hm;split at hm
      ·rename_i clock borns kvs;split at hm
       ·cases hm
       rename_i xp;simp only[jI]at W;simp only[iz]at s;have hE:=wC (P:=P) W;have xi:=O1 (P:=P) (w:=w) mO false wz (by simpa using xp);have bI:bl<w.heap.size:=(Array.getElem?_eq_some_iff.1 W).1;have dR:∀(o':Obj) (bY:Array Value) (en:List ah),(Instr.mapUpdate t (a.eval gP) (a.eval hc) (a.eval pS)).run P w= .ok () {w with heap:=w.heap.setIfInBounds bl o'}->jI en bY el.1=o'->iz w Z en bY.toList->some en=some cs'->
         (⟨none,.mapUpdate t gP hc pS,type,pos,after,guard⟩:Oper).wp P a w K Q:=by
        intro o' bY en h7 Eg kW S;cases S;refine F3 (w':={w with heap:=w.heap.setIfInBounds bl o'}) ?_ (M _ _ _ (l.setBox (w':={w with heap:=w.heap.setIfInBounds bl o'}) dF cj (us:=bY) (el:=el) rfl rfl rfl (fun j G=>?_) Ψ ?_ kW).1)
        ·simp only[execOp,h7,fq,fx,gn]
        ·exact Array.getElem?_setIfInBounds_ne (k8 G)
        ·rw[Eg];simp[bI]
       split at hm
       ·rename_i xK vK;obtain⟨j,u,bY,e,f1,f2,f3,f4,f5,f6,f7⟩:=EZ mO wz z6 borns kvs us.toList 0 _ s.1 s.2.len vK;refine dR (.map (ga borns bY).toArray clock) bY.toArray (.hdm clock borns::xK) ?_ (by simp[jI]) (by simp only[iz];exact⟨by simpa using f2,⟨by rw[f3];exact s.2.len,s.2.inc,s.2.lt⟩⟩) hm;have Mx:(Instr.keyThatStays (((ga borns us.toList).toArray[j]?.map (·.key)).getD (a.eval hc)) (a.eval hc)).run P w= .ok (a.eval hc) w:=by
         have:((ga borns us.toList).toArray[j]?.map (·.key)).getD (a.eval hc)=e.key:=by simp[f4]
         rw[this];simp[Instr.keyThatStays,f6]
        simp only[Nat.zero_add]at f1;simp only[Instr.mapUpdate,fq,run_underlying hu,fx,b5,hE,xi,f1.run mO,gn,Mx,FB W];rw[f7];simp
       ·rename_i vK;have f1:=EZ mO wz z6 borns kvs us.toList 0 _ s.1 s.2.len vK;simp only at f1;have tc:us.toList.length=2*borns.length:=by rw[Je s.1,s.2.len]
        refine dR (.map ((ga borns us.toList).toArray.push ⟨a.eval hc,a.eval pS,clock⟩) (clock+1)) (us.toList++[a.eval hc,a.eval pS]).toArray (.hdm (clock+1) (borns++[clock])::(kvs++[cc st.t k,cc st.t v])) ?_ (by simp only[jI,K4 borns us.toList clock _ _ tc];simp) ?_ hm
        ·simp only[Instr.mapUpdate,fq,run_underlying hu,fx,b5,hE,xi,f1.run mO,gn,FB W]
        ·simp only[iz];refine⟨OV s.1 (by simp only[cH];exact⟨_,_,rfl,wz,_,_,rfl,z6,rfl⟩),⟨by simp[s.2.len];omega,?_,?_⟩⟩
         ·rw[List.pairwise_append];exact⟨s.2.inc,Ψ,fun x L y aN=>by simp at aN;subst aN;exact s.2.lt x L⟩
         ·intro b ae;rcases kr.1 ae with ae|ae
          ·have:=s.2.lt b ae;omega
          ·simp at ae;omega
       ·cases hm
      ·cases hm
     ·cases he
    ·cases he
   ·cases he
  ·cases J
 ·rename_i ck x k v t gP hc pS;simp only[cD,dS]at ak;obtain⟨⟨⟨⟨rfl,J⟩,U⟩,A⟩,E⟩:=ak;have rx:=er l U;have wz:=er l A;have z6:=er l E;split at J
  ·rename_i sz O kZ qk z N;obtain⟨cQ,hu,fa⟩:=ia aM N;have uk:cQ= .map kZ qk:=by cases cQ<;>simp[ks]at fa;obtain⟨rfl,rfl⟩:=fa;rfl
   subst uk;have mO:=M0 aM J;simp only[eA]at he;split at he
   ·rename_i m L;rw[L]at rx;simp only[aS]at rx;obtain⟨bl,cj,b5⟩:=rx;split at he
    ·rename_i cs dF;split at he
     ·rename_i cs' hm;cases he;obtain⟨jf,us,el,X,bA,bR,W,s⟩:=l.good.box m cs dF;rw[cj]at X;cases X;unfold pR at hm;split at hm
      ·rename_i clock borns kvs;split at hm
       ·cases hm
       rename_i xp;simp only[jI]at W;simp only[iz]at s;have hE:=wC (P:=P) W;have xi:=O1 (P:=P) (w:=w) mO false wz (by simpa using xp);have bI:bl<w.heap.size:=(Array.getElem?_eq_some_iff.1 W).1;have dR:∀(o':Obj) (bY:Array Value) (en:List ah),(Instr.mapUpdate t (a.eval gP) (a.eval hc) (a.eval pS)).run P w= .ok () {w with heap:=w.heap.setIfInBounds bl o'}->jI en bY el.1=o'->iz w Z en bY.toList->some en=some cs'->
         (⟨none,.mapUpdate t gP hc pS,type,pos,after,guard⟩:Oper).wp P a w K Q:=by
        intro o' bY en h7 Eg kW S;cases S;refine F3 (w':={w with heap:=w.heap.setIfInBounds bl o'}) ?_ (M _ _ _ (l.setBox (w':={w with heap:=w.heap.setIfInBounds bl o'}) dF cj (us:=bY) (el:=el) rfl rfl rfl (fun j G=>?_) Ψ ?_ kW).1)
        ·simp only[execOp,h7,fq,fx,gn]
        ·exact Array.getElem?_setIfInBounds_ne (k8 G)
        ·rw[Eg];simp[bI]
       split at hm
       ·rename_i xK vK;obtain⟨j,u,bY,e,f1,f2,f3,f4,f5,f6,f7⟩:=EZ mO wz z6 borns kvs us.toList 0 _ s.1 s.2.len vK;refine dR (.map (ga borns bY).toArray clock) bY.toArray (.hdm clock borns::xK) ?_ (by simp[jI]) (by simp only[iz];exact⟨by simpa using f2,⟨by rw[f3];exact s.2.len,s.2.inc,s.2.lt⟩⟩) hm;have Mx:(Instr.keyThatStays (((ga borns us.toList).toArray[j]?.map (·.key)).getD (a.eval hc)) (a.eval hc)).run P w= .ok (a.eval hc) w:=by
         have:((ga borns us.toList).toArray[j]?.map (·.key)).getD (a.eval hc)=e.key:=by simp[f4]
         rw[this];simp[Instr.keyThatStays,f6]
        simp only[Nat.zero_add]at f1;simp only[Instr.mapUpdate,fq,run_underlying hu,fx,b5,hE,xi,f1.run mO,gn,Mx,FB W];rw[f7];simp
       ·rename_i vK;have f1:=EZ mO wz z6 borns kvs us.toList 0 _ s.1 s.2.len vK;simp only at f1;have tc:us.toList.length=2*borns.length:=by rw[Je s.1,s.2.len]
        refine dR (.map ((ga borns us.toList).toArray.push ⟨a.eval hc,a.eval pS,clock⟩) (clock+1)) (us.toList++[a.eval hc,a.eval pS]).toArray (.hdm (clock+1) (borns++[clock])::(kvs++[cc st.t k,cc st.t v])) ?_ (by simp only[jI,K4 borns us.toList clock _ _ tc];simp) ?_ hm
        ·simp only[Instr.mapUpdate,fq,run_underlying hu,fx,b5,hE,xi,f1.run mO,gn,FB W]
        ·simp only[iz];refine⟨OV s.1 (by simp only[cH];exact⟨_,_,rfl,wz,_,_,rfl,z6,rfl⟩),⟨by simp[s.2.len];omega,?_,?_⟩⟩
         ·rw[List.pairwise_append];exact⟨s.2.inc,Ψ,fun x L y aN=>by simp at aN;subst aN;exact s.2.lt x L⟩
         ·intro b ae;rcases kr.1 ae with ae|ae
          ·have:=s.2.lt b ae;omega
          ·simp at ae;omega
       ·cases hm
      ·cases hm
     ·cases he
    ·cases he
   ·cases he
  ·cases J
 ·rename_i d key x t gP;simp only[cD,dS,e8]at ak;obtain⟨⟨⟨⟨rfl,U⟩,J⟩,A⟩,_⟩:=ak;have rx:=er l A;split at J
  ·rename_i sz O kZ qk z N;obtain⟨cQ,hu,fa⟩:=ia aM N;have uk:cQ= .map kZ qk:=by cases cQ<;>simp[ks]at fa;obtain⟨rfl,rfl⟩:=fa;rfl
   subst uk;simp only[eA]at he;split at he
   ·rename_i m L;rw[L]at rx;have ao0:=rx;simp only[aS]at rx;obtain⟨bl,cj,b5⟩:=rx;split at he
    ·rename_i cs dF;split at he
     ·rename_i cs' hm;cases he;obtain⟨jf,us,el,X,bA,bR,W,s⟩:=l.good.box m cs dF;rw[cj]at X;cases X;unfold zS at hm;split at hm
      ·rename_i clock borns kvs;cases hm;simp only[jI]at W;have hE:=wC (P:=P) W;obtain⟨g1,g2⟩:=l.newBox (l.new _ (vE rfl)) (dq rfl) (cs:=[.hdi clock [] clock,.gmap m]) (us:= #[a.eval gP]) ⟨0,fun e=>absurd e hB⟩ (by simp only[iz,cH];exact⟨_,_,rfl,ao0,rfl⟩);have Eg:jI [.hdi clock [] clock,.gmap m] #[a.eval gP] 0= .mapIter (some bl) clock #[] clock:=by simp[jI,b5]
       rw[Eg]at g1 g2;refine lE (v:= .pointer (some ⟨w.heap.size,0,none⟩)) (w':=w.alloc (.mapIter (some bl) clock #[] clock)) ?_ (M _ _ _ (g1.put (d:=some d) (by simpa[h1]using U) (p:= .ptr κ 0) g2))
       ·simp only[execOp];refine FV ?_;simp only[Instr.range,fq,run_underlying hu,fx,b5,hE,gn,run_newObj];rfl
      ·cases hm
     ·cases he
    ·cases he
   ·cases he
  ·cases J
 ·rename_i d awb;simp only[cD,dS,e8]at ak;obtain⟨⟨J,U⟩,A⟩:=ak;subst J;simp only[eA]at he;split at he
  ·rename_i cw p F;cases he;obtain⟨v,g1,g2⟩:=ap8 (o:=⟨some d,op,type,pos,after,guard⟩) aM l A F ax;refine lE g1 (M _ _ Z ?_);exact l.put (d:=some d) (by simpa[h1]using U) g2
  ·cases he
 ·rename_i d key x el o';simp only[cD,dS,e8]at ak;obtain⟨⟨⟨J,U⟩,A⟩,l6⟩:=ak;subst J;simp only[eA]at he;cases he;have L:=er l A;have mw:=wv L ax;obtain⟨g1,g2⟩:=l.newBox (l.new _ (vE rfl)) (dq rfl) ⟨el,fun e=>by have:=hB e;subst this;simpa using l6⟩ (by rw[qC (zV mw)];exact mw);rw[rk (zV mw)]at g1 g2;refine lE (v:= .pointer (some ⟨w.heap.size,0,none⟩)) (w':=w.alloc (.cells (a.eval o').cells el)) ?_ (M _ _ _ (g1.put (d:=some d) (by simpa[h1]using U) (p:= .ptr κ 0) ?_))
  ·simp only[execOp,Instr.box,newVar,newRow,fq,run_newObj,fx,gn];rfl
  ·simpa only[aS]using g2
 ·rename_i d key z el;simp only[cD,dS,e8]at ak;obtain⟨⟨⟨J,U⟩,A⟩,l6⟩:=ak;subst J;simp only[eA]at he;cases he;split at A
  ·rename_i f N;have bH:=P9 A;obtain⟨bG,k7,z2,z3⟩:=PC aM N w;rw[<-bH]at z2;obtain⟨_,mw⟩:=P8 w Z z2;obtain⟨g1,g2⟩:=l.newBox (l.new _ (vE rfl)) (dq rfl) ⟨el,fun e=>by have:=hB e;subst this;simpa using l6⟩ (by rw[qC (zV mw)];exact mw);rw[rk (zV mw)]at g1 g2;refine lE (v:= .pointer (some ⟨w.heap.size,0,none⟩)) (w':=w.alloc (.cells bG.cells el)) ?_ (M _ _ _ (g1.put (d:=some d) (by simpa[h1]using U) (p:= .ptr κ 0) ?_))
   ·simp only[execOp,Instr.alloc,newVar,newRow,fq,k7,run_newObj,fx,gn];rfl
   ·simpa only[aS]using g2
  ·cases A
 ·rename_i sz x y t o' V;simp only[cD,dS]at ak;obtain⟨⟨⟨J,U⟩,A⟩,E⟩:=ak;subst J;split at U
  ·rename_i f N;simp only[dS]at U;simp only[eA]at he;split at he
   ·rename_i k off L;split at he
    ·rename_i cs dF;cases he;obtain⟨c0,bM,c2,c3⟩:=ax;have rx:=er l A;rw[L]at rx;simp only[aS]at rx;obtain⟨bl,cj,b5⟩:=rx;have R:=er l E;have wq:=wv R bM;have wA:=qF wq;obtain⟨jf,us,el,X,bA,bR,W,s⟩:=l.good.box k cs dF;rw[cj]at X;cases X;rw[rk c0]at W;rw[qC c0]at s;have aw:=qF s;obtain⟨_,dO⟩:=wI aM N w;have vO:(a.eval V).cells.size=sz:=by rw[c2]at wA;simpa using wA
     have dr:=run_storeCells_at (P:=P) bl off el.1 (a.eval V).cells.toList 0 us w W (by simp at aw⊢;omega) (Cs wq);simp only[Nat.add_zero]at dr;refine F3 (w':=w.setRow bl (us.toList.take off++(a.eval V).cells.toList++us.toList.drop (off+(a.eval V).cells.toList.length)).toArray) ?_ (M _ _ _ (l.storeBox dF cj c0 ?_))
     ·simp only[execOp,Instr.storeAt,b5,Instr.sureAddr,storeVar,fq,gn,fx,dO,vO,U,ne_eq,not_true_eq_false,if_false,dr]
     ·simp only[o6];rw[wA];exact zU (zU (Fw off s) wq) (Cr _ s)
    ·cases he
   ·rename_i L;generalize Mm:cc st.t x=px at he;unfold sg at he;split at he
    ·rename_i dJ k n i uc;split at he
     ·rename_i n' el iB xs ad;split at he
      ·rename_i Ef;obtain⟨rfl,rfl⟩:=Ef;split at he
       ·rename_i q bz;cases he;obtain⟨c0,bM,c2,c3,c4⟩:=ax;have rx:=er l A;rw[Mm]at rx;have R:=er l E;have wq:=wv R bM;have wA:=qF wq;obtain⟨_,dO⟩:=wI aM N w;have vO:(a.eval V).cells.size=sz:=by rw[c2]at wA;simpa using wA
        obtain⟨bl,off,nn,Ej,dr,Z',od⟩:=l.storeRow (P:=P) ad rx bz c0 wq (by simpa[vO]using c3) (fun e=>by have:=eu List.length e;simp[vO]at this;omega);refine F3 (w':=w.setRow bl nn) ?_ (M _ _ _ od);simp only[execOp,Instr.storeAt,Ej,Instr.sureAddr,storeVar,fq,gn,fx,dO,vO,U,ne_eq,not_true_eq_false,if_false,dr]
       ·cases he
      ·cases he
     ·cases he
    ·cases he
  ·cases U
 ·rename_i d sz el xs t len parts;simp only[cD,dS,e8]at ak;obtain⟨⟨⟨⟨⟨⟨J,U⟩,A⟩,E⟩,bW⟩,dk⟩,dY⟩:=ak;subst J;subst bW;split at A
  ·rename_i e9 N;simp only[dS]at A;subst A;split at E
   ·rename_i g aY;simp only[cD,dS,e8]at E;obtain⟨rfl,fN⟩:=E;simp only[eA]at he;cases he;obtain⟨us,g1,g2,g3⟩:=ZE aM l N rfl aY dY ax dk;have kk:(w.alloc (.cells us el)).ownsRow w.heap.size el g.size (.slice (some ⟨w.heap.size,0,none⟩) xs.length xs.length) (xs.map (cc st.t)).length us.toList:=by
     refine⟨by simp[g3],.inr ⟨w.heap.size,xs.length,us,Ψ,eR _,heap_alloc_new w _,Ψ,?_,g3,?_⟩⟩
     ·simp only[maxLen];have:xs.length<=xs.length*g.size:=Nat.le_mul_of_pos_right _ fN;omega
     ·rw[gC];simp[g3]
    obtain⟨dI,e4⟩:=l.newRow (k:=κ) (xs:=xs.map (cc st.t)) (.inl (l.new _ (vE rfl))) (World.grownBy_alloc w _ none) kk g2
     (by have:xs.length<=xs.length*g.size:=Nat.le_mul_of_pos_right _ fN;simp only[lim,List.length_map];omega) (dq rfl)
    simp only[List.length_map]at dI e4;refine lE (v:= .slice (some ⟨w.heap.size,0,none⟩) xs.length xs.length) (w':=w.alloc (.cells us el)) ?_ (M _ _ _ (dI.put (d:=some d) (by simpa[h1]using U) (p:= .slice g.size (.own κ) (xs.map (cc st.t))) e4));have bJ:(parts.map fun(x:Nat×jb)=>(x.1,a.eval x.2))=(parts.toList.map fun(x:Nat×jb)=>(x.1,a.eval x.2)).toArray:=by apply Array.ext';simp
    simp only[execOp];refine FV ?_;rw[<-g1];congr 2
   ·cases E
  ·cases A
 ·rename_i d sz el x y o' V t dK;simp only[cD,dS,e8]at ak;obtain⟨⟨⟨⟨⟨⟨J,U⟩,A⟩,E⟩,bW⟩,dk⟩,dY⟩:=ak;subst J;subst A;split at E
  ·rename_i e9 N;simp only[dS]at E;subst E;split at bW
   ·rename_i g aY;simp only[cD,dS,e8]at bW;obtain⟨⟨rfl,fN⟩,vA⟩:=bW;have rx:=er l dk;have R:=er l dY;have kU:∀v' w',(tO #[t,t] type #[a.eval o',a.eval V]).run P w= .ok v' w'->(execOp a.eval ⟨some d,.call ⟨.builtin .append,⟨[o',V]⟩,⟨[t,t]⟩⟩,type,pos,after,guard⟩).run P w= .ok (.value v') w':=by intro v' w' h7;simp only[execOp,resolve,invoke,builtin,fq,gn,fx,List.map_toArray,fA,pg];rw[h7];rfl
    obtain⟨r,ch,z,ai,aC,D,cR,fM,gS,rQ,qR⟩:=(uZ aM aY).ex;obtain⟨en,S,fa⟩:=ia aM N;obtain rfl:=rP fa;simp only[eA]at he;split at he
    ·rename_i dJ tag xs iB hv ys L aN;split at he
     ·rename_i ee;obtain⟨rfl,ee⟩:=ee;subst ee;rw[L]at rx;rw[aN]at R;simp only[aS]at rx R;obtain⟨⟨vk,pA,rr,cx1,⟨Tn,To⟩,cx4⟩,rxn,rxo,rxt⟩:=rx;obtain⟨⟨oH,mq,sn,cy1,⟨Tp,Tq⟩,cy4⟩,_⟩:=R;split at he
      ·rename_i k;split at he
       ·rename_i ow ad;cases he;obtain⟨bM,c2,c3,c4⟩:=ax;subst c2;obtain⟨n0,rn,dI,e4,kp⟩:=rxo k rfl;obtain⟨v0,H,X,bA,bR,_⟩:=l.good.own k ow ad;rw[dI]at X;simp only[dv,hN]at X;obtain⟨rfl,rfl⟩:=X;have lN:a.eval o'=rn:=kp bM.symm;by_cases jU:ys=[]
        ·subst jU;rw[sn,rr]at kU;have h7:=Jj (P:=P) (w:=w) (ty:=type) S ai vk xs.length pA cx1 oH mq;refine lE (kU _ _ (by simpa using h7)) (M _ _ Z ?_);have dr:{st with t:=put d (.slice ow.sz (.own k) (xs++[])) st.t,e:=cB k ⟨xs.length+([]:List ah).length,ow.el,ow.sz,none⟩ st.e}=({st with e:=cB k ⟨ow.n,ow.el,ow.sz,none⟩ st.e,t:=put d (.slice ow.sz (.own k) xs) st.t}:bh):=by simp[bM]
         rw[<-c3,dr];have mS:=l.forgetRow ad;refine mS.put (d:=some d) (by simpa[h1]using U) (p:= .slice ow.sz (.own k) xs) ?_;simp only[aS];rw[<-c3]at cx4;exact⟨⟨vk,pA,rfl,cx1,⟨Tn,To⟩,cx4⟩,fun e=>(by cases e),(fun g e=>by cases e;exact⟨_,_,dI,e4,fun e=>by rw[<-rr];exact kp e⟩),fun _ _ e=>(by cases e),fun _ e=>(by cases e)⟩
        ·have hyp:0<ys.length:=by cases ys<;>simp at jU⊢
         rcases cy4 with cy4|⟨O,ot,B,rfl,zE,Y⟩
         ·exact absurd cy4 jU
         ·have ki:=r9 Y;have s8:∀j u,B[j]? =some u->w.cell? ((⟨O,ot,none⟩:Addr).add j)=some u:=fun j u G=>by rw[pt];exact(vZ zE G).2
          have n9:(xs.length+ys.length)*r.bytes<=140737488355328:=by
           have jj:r.bytes<=2048:=by rw[cR];exact vA
           have lj:(xs.length+ys.length)*r.bytes<=(xs.length+ys.length)*2048:=Nat.mul_le_mul_left _ jj;simp only[lim]at c4;omega
          have kV:xs.length+ys.length<=maxLen:=by simp only[lim]at c4;simp only[maxLen];omega
          rw[sn]at kU;have ux:H.length=ow.n*ow.sz:=bA.1;have q4:z.cells.size=r.size:=by rw[qR,D]
          have y4:(∀cur,et->cur=(0:Nat))->(∃v' w',(tO #[t,t] type #[a.eval o',.slice (some ⟨O,ot,none⟩) ys.length mq]).run P w= .ok v' w'/\w'.ownsRow w.heap.size ow.el r.size v' (xs.length+ys.length) (H++B)/\w.grownBy w' none/\di w Z r.size xs H)->
            (⟨some d,.call ⟨.builtin .append,⟨[o',V]⟩,⟨[t,t]⟩⟩,type,pos,after,guard⟩:Oper).wp P a w K Q:=by
           intro _ cP;obtain⟨v',w',f1,f2,f3,f4⟩:=cP;have vC:di w Z r.size (xs++ys) (H++B):=Cp f4 (by rw[D];exact Y);obtain⟨c1,du⟩:=l.newRow (k:=k) (xs:=xs++ys) (.inr ⟨ow,ad,by rw[bM];simp;omega⟩) f3 (by simpa using f2) vC (by simpa using c4) (n':=st.n) (o':=st.o)
            (fun j G=>⟨G,fun e=>by subst e;have:=(l.new _ G).2.1;rw[dI]at this;cases this⟩)
           refine lE (kU _ _ f1) (M _ _ ((Z.withOwn k (xs++ys).length v').withRowOf k v' (xs++ys).length ((xs++ys).length*r.size)) ?_);have:=c1.put (d:=some d) (by simpa[h1]using U) du;simpa[D,eP]using this
          rcases bA.2 with⟨kF,wj⟩|⟨bl,cap,cur,kF,wj,wk,Fl,Fm,IK,Cf⟩
          ·
           have r2:xs=[]:=u6 Ω;have MA:H=[]:=u6 (by rw[ux,wj];simp);subst r2;subst MA;refine y4 (fun _ h=>h.elim) ?_;obtain⟨v',w',f1,f2,f3,_⟩:=run_append_own (P:=P) w w.heap.size t type ow.el r z r.size r.bytes S ai gS rfl rfl q4 (by rw[D];exact fN) (.slice none 0 0) 0 [] (World.ownsRow_nil w _ _ _)
            ⟨O,ot,none⟩ ys.length mq B (by rw[ki,D]) s8 (zT Y) (by simpa using kV) (by simpa using n9) (eR _)
           refine⟨v',w',by rw[lN,kF];exact f1,by simpa using f2,by simpa[oA]using f3,by simp[di]⟩
          ·have aiy:ly w Z.A bl 0 H/\di w Z r.size xs H/\True:=by
            rw[lN,kF]at rr;rcases cx4 with cx4|⟨bb,auX,PJ,f1,f2,f3⟩
            ·subst cx4;have:H=[]:=u6 (by rw[ux,bM];simp);subst this;exact⟨trivial,by simp[di],trivial⟩
            ·subst f1;injection rr with vx1 vx2 vx3;injection vx1 with vx1;injection vx1 with vx1 vx4;subst vx1;subst vx4;have heq:PJ=H:=by
              apply List.ext_getElem?;intro j;have tc:PJ.length=H.length:=by rw[r9 f3,ux,bM,c3]
              by_cases G:j<PJ.length
              ·have J:=(vZ f2 (cl G)).2;rw[Nat.zero_add]at J;have U:=bA.cells (g:=bl) (by rw[kF];rfl) j H[j] (cl Ω);rw[pt,Nat.zero_add,J]at U;rw[cl G,cl Ω];exact U
              ·rw[rC Ω,rC Ω]
             subst heq;exact⟨f2,by rw[D];exact f3,trivial⟩
           obtain⟨ku,hR,_⟩:=aiy;by_cases oW:xs.length+ys.length<=cap
           ·have ate:cur.size=cap*ow.sz:=IK;have hmul:(xs.length+ys.length)*ow.sz<=cap*ow.sz:=tR _ oW;rw[p6]at hmul;have f1:=run_append_room (P:=P) w t type ow.el r S ai bl xs.length cap cur wk ⟨O,ot,none⟩ ys.length mq B (by rw[ki,D]) s8 (zT Y) oW (by rw[ki,D,<-c3];omega);obtain⟨c1,du⟩:=l.inPlace ad (bl:=bl) (cap:=cap) (cur:=cur) (by rw[dI,<-kF]) wk Fm IK (xs:=xs) (ys:=ys) (us:=H) (ns:=B) bM.symm Cf (by rw[c3,<-D];exact hR) (by rw[c3];exact Y) hyp (by rw[bM];exact oW) c4;refine lE (v:= .slice (some ⟨bl,0,none⟩) (ow.n+ys.length) cap) (w':=w.setRow bl (H++B++cur.toList.drop (ow.n*ow.sz+B.length)).toArray) (kU _ _ ?_)
             (M _ _ (Z.withRowOf k (.slice (some ⟨bl,0,none⟩) (ow.n+ys.length) cap) (ow.n+ys.length) ((ow.n+ys.length)*ow.sz)) ?_)
            ·rw[lN,kF,bM,f1,<-Cf,bM,c3,D]
            ·have:=c1.put (d:=some d) (by simpa[h1]using U) du;simpa[bM,c3,eP]using this
           ·refine y4 (fun _ h=>h.elim) ?_;obtain⟨v',w',f1,f2,f3⟩:=run_append_arg_grows (P:=P) w t type ow.el r z r.size r.bytes S ai gS rfl rfl q4 (by rw[D];exact fN) ⟨bl,0,none⟩ xs.length cap H (by rw[ux,bM,c3,D])
             (fun j u G=>by rw[pt];exact(vZ ku G).2) ⟨O,ot,none⟩ ys.length mq B (by rw[ki,D]) s8 Ω kV n9
            exact⟨v',w',by rw[lN,kF,bM];exact f1,f2,f3,hR⟩
       ·cases he
      ·cases he;have HA:=rxn rfl;have r2:xs=[]:=by rw[HA]at rr;injection rr with _ aC;exact u6 aC.symm
       subst r2;have zh:(eb.app d g.size el x y).makes st=true:=by simp only[eb.makes,L]
       have q4:z.cells.size=r.size:=by rw[qR,D]
       rw[sn,HA]at kU;have dR:∀(v':Value) (w':World) (B:List Value),(tO #[t,t] type #[.slice none 0 0,.slice oH ys.length mq]).run P w= .ok v' w'->w'.ownsRow w.heap.size el g.size v' ys.length B->w.grownBy w' none->di w Z g.size ys B->
         (⟨some d,.call ⟨.builtin .append,⟨[o',V]⟩,⟨[t,t]⟩⟩,type,pos,after,guard⟩:Oper).wp P a w K Q:=by
        intro v' w' B f1 f2 f3 f4;obtain⟨c1,du⟩:=l.newRow (k:=κ) (xs:=ys) (.inl (l.new _ (vE zh))) f3 f2 f4 ax (dq zh);exact lE (kU _ _ f1) (M _ _ _ (c1.put (d:=some d) (by simpa[h1]using U) du))
       by_cases jU:ys=[]
       ·subst jU;exact dR _ w [] (Jj S ai none 0 0 (eR _) oH mq) (World.ownsRow_nil w _ _ _) (arR w _) (by simp[di])
       ·rcases cy4 with cy4|⟨O,ot,B,rfl,zE,Y⟩
        ·exact absurd cy4 jU
        ·have ki:=r9 Y;have s8:∀j u,B[j]? =some u->w.cell? ((⟨O,ot,none⟩:Addr).add j)=some u:=fun j u G=>by rw[pt];exact(vZ zE G).2
         have n9:ys.length*r.bytes<=140737488355328:=by
          have J:r.bytes<=2048:=by rw[cR];exact vA
          have U:ys.length*r.bytes<=ys.length*2048:=Nat.mul_le_mul_left _ J;simp only[lim]at ax;omega
         have kV:ys.length<=maxLen:=by simp only[lim]at ax;simp only[maxLen];omega
         obtain⟨v',w',f1,f2,f3,_⟩:=run_append_own (P:=P) w w.heap.size t type el r z r.size r.bytes S ai gS rfl rfl q4 (by rw[D];exact fN) (.slice none 0 0) 0 [] (World.ownsRow_nil w _ _ _)
          ⟨O,ot,none⟩ ys.length mq B (by rw[ki,D]) s8 (zT Y) (by simpa using kV) (by simpa using n9) (eR _)
         exact dR v' w' B f1 (by rw[<-D];simpa using f2) (by simpa[oA]using f3) Y
      ·cases he
     ·cases he
    ·cases he
   ·cases bW
  ·cases E
 ·rename_i d key sz el xs t len parts;simp only[cD,dS,e8]at ak;obtain⟨⟨⟨⟨⟨⟨J,U⟩,A⟩,E⟩,bW⟩,dk⟩,dY⟩:=ak;subst J;subst bW;split at A
  ·rename_i e9 N;simp only[dS]at A;subst A;split at E
   ·rename_i g aY;simp only[cD,dS,e8]at E;obtain⟨rfl,fN⟩:=E;simp only[eA]at he;cases he;obtain⟨us,g1,g2,g3⟩:=ZE aM l N rfl aY dY ax dk;have kk:(w.alloc (.cells us el)).ownsRow w.heap.size el g.size (.slice (some ⟨w.heap.size,0,none⟩) xs.length xs.length) (xs.map (cc st.t)).length us.toList:=by
     refine⟨by simp[g3],.inr ⟨w.heap.size,xs.length,us,Ψ,eR _,heap_alloc_new w _,Ψ,?_,g3,?_⟩⟩
     ·simp only[maxLen];have:xs.length<=xs.length*g.size:=Nat.le_mul_of_pos_right _ fN;omega
     ·rw[gC];simp[g3]
    obtain⟨dI,e4⟩:=l.newRowM (k:=κ) (xs:=xs.map (cc st.t)) (.inl (l.new _ (vE rfl))) (World.grownBy_alloc w _ none) kk g2
     (by have:xs.length<=xs.length*g.size:=Nat.le_mul_of_pos_right _ fN;simp only[lim,List.length_map];omega) (dq rfl)
    simp only[List.length_map]at dI e4;refine lE (v:= .slice (some ⟨w.heap.size,0,none⟩) xs.length xs.length) (w':=w.alloc (.cells us el)) ?_ (M _ _ _ (dI.put (d:=some d) (by simpa[h1]using U) (p:= .row g.size κ xs.length) (e4 ⟨_,_,rfl⟩)));have bJ:(parts.map fun(x:Nat×jb)=>(x.1,a.eval x.2))=(parts.toList.map fun(x:Nat×jb)=>(x.1,a.eval x.2)).toArray:=by apply Array.ext';simp
    simp only[execOp];refine FV ?_;rw[<-g1];congr 2
   ·cases E
  ·cases A
 ·rename_i d key sz el x y o' V t dK;simp only[cD,dS,e8]at ak;obtain⟨⟨⟨⟨⟨⟨J,U⟩,A⟩,E⟩,bW⟩,dk⟩,dY⟩:=ak;subst J;subst A;split at E
  ·rename_i e9 N;simp only[dS]at E;subst E;split at bW
   ·rename_i g aY;simp only[cD,dS,e8]at bW;obtain⟨⟨rfl,fN⟩,vA⟩:=bW;have rx:=er l dk;have R:=er l dY;have kU:∀v' w',(tO #[t,t] type #[a.eval o',a.eval V]).run P w= .ok v' w'->(execOp a.eval ⟨some d,.call ⟨.builtin .append,⟨[o',V]⟩,⟨[t,t]⟩⟩,type,pos,after,guard⟩).run P w= .ok (.value v') w':=by intro v' w' h7;simp only[execOp,resolve,invoke,builtin,fq,gn,fx,List.map_toArray,fA,pg];rw[h7];rfl
    obtain⟨r,ch,z,ai,aC,D,cR,fM,gS,rQ,qR⟩:=(uZ aM aY).ex;obtain⟨en,S,fa⟩:=ia aM N;obtain rfl:=rP fa;have q4:z.cells.size=r.size:=by rw[qR,D]
    simp only[eA]at he;split at he
    ·
     rename_i ys F;cases he;unfold nk at F;split at F
     ·rename_i dJ xs iB hv arI L aN;split at F
      ·rename_i ee;obtain⟨rfl,ee⟩:=ee;subst ee;cases F;rw[L]at rx;rw[aN]at R;simp only[aS]at rx R;obtain⟨⟨vk,pA,rr,cx1,⟨Tn,To⟩,cx4⟩,rxn,rxo,rxt⟩:=rx;obtain⟨⟨oH,mq,sn,cy1,⟨Tp,Tq⟩,cy4⟩,_⟩:=R;have HA:=rxn trivial;have zh:(eb.appm d key g.size el x y).makes st=true:=by simp only[eb.makes,L]
       rw[sn,HA]at kU;have dR:∀(v':Value) (w':World) (B:List Value),(tO #[t,t] type #[.slice none 0 0,.slice oH ys.length mq]).run P w= .ok v' w'->w'.ownsRow w.heap.size el g.size v' ys.length B->w.grownBy w' none->di w Z g.size ys B->
         (⟨some d,.call ⟨.builtin .append,⟨[o',V]⟩,⟨[t,t]⟩⟩,type,pos,after,guard⟩:Oper).wp P a w K Q:=by
        intro v' w' B f1 f2 f3 f4;obtain⟨c1,du⟩:=l.newRowM (k:=κ) (xs:=ys) (.inl (l.new _ (vE zh))) f3 f2 f4 ax.1 (dq zh);exact lE (kU _ _ f1) (M _ _ _ (c1.put (d:=some d) (by simpa[h1]using U) (du (IG f2 (by cases ys<;>simp at ax⊢)))))
       by_cases jU:ys=[]
       ·subst jU;exact dR _ w [] (Jj S ai none 0 0 (eR _) oH mq) (World.ownsRow_nil w _ _ _) (arR w _) (by simp[di])
       ·rcases cy4 with cy4|⟨O,ot,B,rfl,zE,Y⟩
        ·exact absurd cy4 jU
        ·have ki:=r9 Y;have s8:∀j u,B[j]? =some u->w.cell? ((⟨O,ot,none⟩:Addr).add j)=some u:=fun j u G=>by rw[pt];exact(vZ zE G).2
         have n9:ys.length*r.bytes<=140737488355328:=by
          have J:r.bytes<=2048:=by rw[cR];exact vA
          have U:ys.length*r.bytes<=ys.length*2048:=Nat.mul_le_mul_left _ J;simp only[lim]at ax;omega
         have kV:ys.length<=maxLen:=by simp only[lim]at ax;simp only[maxLen];omega
         obtain⟨v',w',f1,f2,f3,_⟩:=run_append_own (P:=P) w w.heap.size t type el r z r.size r.bytes S ai gS rfl rfl q4 (by rw[D];exact fN) (.slice none 0 0) 0 [] (World.ownsRow_nil w _ _ _)
          ⟨O,ot,none⟩ ys.length mq B (by rw[ki,D]) s8 (zT Y) (by simpa using kV) (by simpa using n9) (eR _)
         exact dR v' w' B f1 (by rw[<-D];simpa using f2) (by simpa[oA]using f3) Y
      ·cases F
     ·split at F
      ·split at F
       ·split at F<;>cases F
       ·cases F
      ·cases F
     ·cases F
    ·
     rename_i k xs ys F;cases he;unfold nk at F;split at F
     ·split at F<;>cases F
     ·rename_i dJ bn n iB hv arI L aN;split at F
      ·rename_i ee;obtain⟨rfl,ee⟩:=ee;subst ee;split at F
       ·rename_i n' e9 uW xs' ad;split at F
        ·rename_i sT;obtain⟨rfl,rfl,rfl⟩:=sT;cases F;rw[L]at rx;rw[aN]at R;simp only[aS]at rx R;obtain⟨⟨bx,pA,rr⟩,rxl,n0,rn,dI,e4,kp⟩:=rx;obtain⟨⟨oH,mq,sn,cy1,⟨Tp,Tq⟩,cy4⟩,_⟩:=R;obtain⟨v0,H,X,bA,bR,W⟩:=l.good.own k _ ad;rw[dI]at X;simp only[dv,hN]at X bA;obtain⟨rfl,rfl⟩:=X;have lN:a.eval o'=rn:=kp rfl;obtain⟨s,kG,r8⟩:=W xs rfl;simp only at s kG;have ux:H.length=xs.length*g.size:=by rw[s];exact bA.1
         have jC:xs.length=n0:=s;by_cases jU:ys=[]
         ·subst jU;rw[sn,rr]at kU;have mw:n0<=pA:=by
           rcases bA.2 with⟨kF,wj⟩|⟨bl,cap,cur,kF,wj,wk,Fl,_⟩
           ·rw[wj];exact Nat.zero_le _
           ·rw[<-lN,rr]at kF;injection kF with _ _ e;rw[e];exact Fl
          have h7:=Jj (P:=P) (w:=w) (ty:=type) S ai (some ⟨bx,0,none⟩) n0 pA mw oH mq;refine lE (kU _ _ (by simpa using h7)) (M _ _ Z ?_);have iF:∀fm,look fm (cB k ⟨n0,e9,g.size,some xs⟩ st.e)=look fm st.e:=fun fm=>by
           rw[jG];split
           ·rename_i e;subst e;rw[ad]
           ·rfl
          have mS:cS C {st with e:=cB k ⟨n0,e9,g.size,some xs⟩ st.e} a w Z:=
           ⟨⟨l.good.alt,l.good.box,l.good.inj,fun g o aY=>l.good.own g o (by rw[<-iF g];exact aY),fun g fm n n' v v' bl bF a2=>l.good.oinj g fm n n' v v' bl (by rw[<-iF g];exact bF) (by rw[<-iF fm];exact a2),
           fun g j n v bl bF=>l.good.obx g j n v bl (by rw[<-iF g];exact bF),l.good.one,fun bl ae=>l.good.otr bl (ae.imp id (fun⟨g,n,v,bF,a2⟩=>⟨g,n,v,by rw[<-iF g];exact bF,a2⟩))⟩,l.fr,l.defers,l.size,l.slot,l.new,l.ext,l.obk⟩
          have A:=mS.put (d:=some d) (by simpa[h1]using U) (p:= .row g.size k n0) (v:= .slice (some ⟨bx,0,none⟩) n0 pA) (by simp only[aS];exact⟨⟨_,_,rfl⟩,rxl,_,_,dI,eR _,fun _=>by rw[<-rr];exact lN⟩)
          simpa[jC,eP]using A
         ·have hyp:0<ys.length:=by cases ys<;>simp at jU⊢
          rcases cy4 with cy4|⟨O,ot,B,rfl,zE,Y⟩
          ·exact absurd cy4 jU
          ·have ki:=r9 Y;have s8:∀j u,B[j]? =some u->w.cell? ((⟨O,ot,none⟩:Addr).add j)=some u:=fun j u G=>by rw[pt];exact(vZ zE G).2
           have n9:(xs.length+ys.length)*r.bytes<=140737488355328:=by
            have jj:r.bytes<=2048:=by rw[cR];exact vA
            have lj:(xs.length+ys.length)*r.bytes<=(xs.length+ys.length)*2048:=Nat.mul_le_mul_left _ jj;simp only[lim]at ax;omega
           have kV:xs.length+ys.length<=maxLen:=by simp only[lim]at ax;simp only[maxLen];omega
           have vC:di w Z g.size (xs++ys) (H++B):=Cp kG Y;rw[sn,lN]at kU;have y4:(∃v' w',(tO #[t,t] type #[rn,.slice (some ⟨O,ot,none⟩) ys.length mq]).run P w= .ok v' w'/\w'.ownsRow w.heap.size e9 r.size v' (xs.length+ys.length) (H++B)/\w.grownBy w' none)->
             (⟨some d,.call ⟨.builtin .append,⟨[o',V]⟩,⟨[t,t]⟩⟩,type,pos,after,guard⟩:Oper).wp P a w K Q:=by
            intro cP;obtain⟨v',w',f1,f2,f3⟩:=cP;obtain⟨c1,du⟩:=l.newRowM (k:=k) (xs:=xs++ys) (el:=e9) (sz:=g.size) (.inr ⟨_,ad,by simp;omega⟩) f3 (by rw[<-D];simpa using f2) vC (by simpa using ax) (n':=st.n) (o':=st.o)
             (fun j G=>⟨G,fun e=>by subst e;have:=(l.new _ G).2.1;rw[dI]at this;cases this⟩)
            refine lE (kU _ _ f1) (M _ _ (Z.withOwn k (xs++ys).length v') ?_);have:=c1.put (d:=some d) (by simpa[h1]using U) (du (by simpa using IG f2 Ω));simpa[eP]using this
           rcases bA.2 with⟨kF,wj⟩|⟨bl,cap,cur,kF,wj,wk,Fl,Fm,IK,Cf⟩
           ·
            have r2:xs=[]:=u6 Ω;have MA:H=[]:=u6 (by rw[ux,r2];simp);subst r2;subst MA;refine y4 ?_;obtain⟨v',w',f1,f2,f3,_⟩:=run_append_own (P:=P) w w.heap.size t type e9 r z r.size r.bytes S ai gS rfl rfl q4 (by rw[D];exact fN) (.slice none 0 0) 0 [] (World.ownsRow_nil w _ _ _)
             ⟨O,ot,none⟩ ys.length mq B (by rw[ki,D]) s8 (zT Y) (by simpa using kV) (by simpa using n9) (eR _)
            exact⟨v',w',by rw[kF];exact f1,by simpa using f2,by simpa[oA]using f3⟩
           ·have lr:rn.ownBlock=some bl:=by rw[kF];rfl
            by_cases oW:xs.length+ys.length<=cap
            ·have hmul:(xs.length+ys.length)*g.size<=cap*g.size:=tR _ oW;rw[p6]at hmul;have f1:=run_append_room (P:=P) w t type e9 r S ai bl xs.length cap cur wk ⟨O,ot,none⟩ ys.length mq B (by rw[ki,D]) s8 (zT Y) oW (by rw[ki,D];omega);generalize Ez:(cur.toList.take (xs.length*r.size)++B++cur.toList.drop (xs.length*r.size+B.length)).toArray=l9 at f1;have kv:(w.setRow bl l9).heap[bl]? =some (.cells l9 e9 (0,0)):=setRow_heap w bl cur l9 e9 _ wk;have aq:(H++B).length=(xs++ys).length*g.size:=by rw[hq,ux,ki,hq,p6]
             have bW:cur.toList.take (xs.length*r.size)=H:=by rw[jC,D];exact Cf
             have kx:l9.size=cap*g.size:=by rw[<-Ez];simp only[List.size_toArray,hq,List.length_take,sq,Array.length_toList];rw[D];omega
             have oX:l9.toList.take ((xs++ys).length*g.size)=H++B:=by rw[<-Ez,bW];simp only[<-aq];rw[List.take_append_of_le_length (eR _),p5]
             obtain⟨c1,_,du⟩:=l.setRowM (w':=w.setRow bl l9) ad rfl dI lr (v':= .slice (some ⟨bl,0,none⟩) (xs.length+ys.length) cap) rfl (xs':=xs++ys) (us:=H++B) (.inr d7) rfl rfl rfl (fun j G=>setRow_other w bl j l9 G) (setRow_size w bl l9)
              ⟨aq,.inr ⟨bl,cap,l9,Ψ,Nat.zero_le _,kv,by simpa using oW,Fm,kx,oX⟩⟩ vC
             replace du:=du (by simpa using ax);refine lE (v:= .slice (some ⟨bl,0,none⟩) (xs.length+ys.length) cap) (w':=w.setRow bl l9) (kU _ _ ?_) (M _ _ (Z.withOwn k (xs++ys).length (.slice (some ⟨bl,0,none⟩) (xs.length+ys.length) cap)) ?_)
             ·rw[kF,<-jC];exact f1
             ·have:=c1.put (d:=some d) (by simpa[h1]using U) du;simpa[eP]using this
            ·refine y4 ?_;obtain⟨v',w',f1,f2,f3⟩:=run_append_arg_grows (P:=P) w t type e9 r z r.size r.bytes S ai gS rfl rfl q4 (by rw[D];exact fN) ⟨bl,0,none⟩ xs.length cap H (by rw[ux,D])
              (fun j u G=>by have:=bA.cells lr j u G;exact this) ⟨O,ot,none⟩ ys.length mq B (by rw[ki,D]) s8 Ω kV n9
             exact⟨v',w',by rw[kF,<-jC];exact f1,f2,f3⟩
        ·cases F
       ·cases F
      ·cases F
     ·cases F
    ·cases he
   ·cases bW
  ·cases E
 ·rename_i sz x y t o' V;simp only[cD,dS]at ak;obtain⟨⟨⟨J,U⟩,A⟩,E⟩:=ak;subst J;split at U
  ·rename_i f N;simp only[dS]at U;simp only[eA]at he;generalize Mm:cc st.t x=px at he;unfold sg at he;split at he
   ·rename_i dJ k n i uc;split at he
    ·rename_i n' el iB xs ad;split at he
     ·rename_i Ef;obtain⟨rfl,rfl⟩:=Ef;split at he
      ·rename_i q bz;cases he;obtain⟨c0,bM,c2,c3,c4⟩:=ax;have rx:=er l A;rw[Mm]at rx;have R:=er l E;have wq:=wv R bM;have wA:=qF wq;obtain⟨_,dO⟩:=wI aM N w;have vO:(a.eval V).cells.size=sz:=by rw[c2]at wA;simpa using wA
       obtain⟨bl,off,nn,Ej,dr,Z',od⟩:=l.storeRow (P:=P) ad rx bz c0 wq (by simpa[vO]using c3) (fun e=>by have:=eu List.length e;simp[vO]at this;omega);refine F3 (w':=w.setRow bl nn) ?_ (M _ _ _ od);simp only[execOp,Instr.storeAt,Ej,Instr.sureAddr,storeVar,fq,gn,fx,dO,vO,U,ne_eq,not_true_eq_false,if_false,dr]
      ·cases he
     ·cases he
    ·cases he
   ·cases he
  ·cases U
 ·rename_i d el x y o' V t dK;exact QA aM l (d:=d) (el:=el) (x:=x) (y:=y) (by simpa only[sc]using ak) (by simpa only[eA]using he) ax M
 ·rename_i d key sz el z x t o' V;simp only[cD,dS,e8]at ak;obtain⟨⟨⟨⟨⟨J,U⟩,A⟩,E⟩,bW⟩,dk⟩:=ak;subst J;split at A
  ·rename_i e9 N;simp only[dS]at A;subst A;split at E
   ·rename_i g aY;simp only[cD,dS,e8]at E;obtain⟨⟨⟨rfl,fN⟩,vA⟩,bH⟩:=E;obtain rfl:=P9 bH;have rx:=er l bW;have R:=er l dk;simp only[eA]at he;split at he
    ·rename_i fS n L;cases he;obtain⟨VC,ki⟩:=ax;obtain⟨m,rfl⟩:=Int.eq_ofNat_of_zero_le VC;rw[L]at rx R;simp only[aS]at rx R;obtain⟨r,ch,bG,ai,aC,D,cR,fM,gS,rQ,qR⟩:=(uZ aM aY).ex;obtain⟨en,S,fa⟩:=ia aM N;obtain rfl:=rP fa;have kV:m<=lim:=by simp only[lim]at ki⊢;omega
     have n9:r.bytes*m<=281474976710656:=by have J:r.bytes*m<=2048*m:=tR _ Ω;simp only[lim]at kV;omega
     obtain⟨ai5,U9⟩:=P8 w Z rQ;obtain⟨w',g1,g2,g3⟩:=run_make_full (P:=P) w w.heap.size t el r bG r.size S ai gS rfl fS fS m n9 (by simp only[maxLen];simp only[lim]at kV;omega) (eR _);have kk:w'.ownsRow w.heap.size el g.size (.slice (some ⟨w.heap.size,0,none⟩) m m) (su m g.zero).length (madeCells bG.cells (m*bG.cells.size)).toList:=by rw[D,<-qR]at g2;rw[List.length_replicate,<-qR];exact g2
     obtain⟨dI,e4⟩:=l.newRowM (k:=κ) (xs:=su m g.zero) (.inl (l.new _ (vE rfl))) g3 kk (by rw[<-qR];exact Xn ai5 Ω (Cs U9) m) (by simpa using kV) (dq rfl);simp only[List.length_replicate]at dI e4;simp only[Int.toNat_natCast]at M;refine lE (v:= .slice (some ⟨w.heap.size,0,none⟩) m m) (w':=w') ?_ (M _ _ _ (dI.put (d:=some d) (by simpa[h1]using U) (p:= .row g.size κ m) (e4 ⟨_,_,rfl⟩)));simp only[execOp];refine FV ?_;rw[rx,R];exact g1
    ·cases he
   ·cases E
  ·cases A
 ·cases ak
theorem QP{N:Nat}{bu:List (Nat×dE)}{d:Nat}{key:aW Nat}{o:Oper}(h:sc N bu (.mkmap d key) o=true):key≠some 861:=by
 rintro rfl;obtain⟨dst,op,type,pos,after,guard⟩:=o;generalize hi:eb.mkmap d (some 861)=i at h;unfold sc at h;dsimp only at h;split at h<;>first|(cases hi;done)|(cases h;done)|skip
 cases hi;simp at h
theorem acf{N:Nat}{bu:List (Nat×dE)}{st:bh}{d:Nat}{key:aW Nat}{x:ds}{o:Oper}(h:sc N bu (.range d key x) o=true):jH st key≠ .obj 861:=by
 intro e;obtain rfl:=It e;obtain⟨dst,op,type,pos,after,guard⟩:=o;generalize hi:eb.range d (some 861) x=i at h;unfold sc at h;dsimp only at h;split at h<;>first|(cases hi;done)|(cases h;done)|skip
 cases hi;simp at h
theorem ao4{P:cz}{bu:List (Nat×dE)}(aM:e6 P bu=true){C:e0}{st st':bh}{a:Act}{w:World}{Z:aZ}(f:cS C st a w Z){i:eb}{o:Oper}(ak:sc C.N bu i o=true)
  {c:Prop} (he:mF st i=some (c,st')) (ax:c) {K:Act->World->Prop} {Q:Exit->Act->World->Prop} (b:∀bo w' Z',cS C st' bo w' Z'->K bo w'):o.wp P a w K Q:=by
 have p:q9 st none->fresh st.n st.o (.loc st.n):=fun h=>xP (key:=none) h;have q:∀j,fresh (st.n+1) st.o j->fresh st.n st.o j/\j≠ .loc st.n:=xQ (key:=none);cases i with
 |v d i=>exact jJ (κ:= .loc 0) (n':=0) (o₁:=[]) aM f ak (fun h=>by simp[eb.makes]at h) (fun h=>by simp[eb.makes]at h) (by simpa only[mF,eA]using he) ax b
 |box d key x=>simp only[mF]at he;cases he;exact jJ (κ:=jH st key) (n':=oj st key) (o₁:=oo st key) aM f ak (fun _=>xP ax.1) (fun _=>xQ) ou ax.2 b (hB:=It)
 |alloc d key z=>simp only[mF]at he;cases he;exact jJ (κ:=jH st key) (n':=oj st key) (o₁:=oo st key) aM f ak (fun _=>xP ax) (fun _=>xQ) ou trivial b (hB:=It)
 |mks d key sz el z x=>
  simp only[mF]at he;split at he
  ·rename_i fS n g;cases he;exact jJ (κ:=jH st key) (n':=oj st key) (o₁:=oo st key) aM f ak (fun _=>xP ax.1) (fun _=>xQ) (by simp only[eA,g]) ax.2 b
  ·cases he
 |apps d el x y=>exact QA aM f ak (by simpa only[mF]using he) ax b
 |storeE sz x y=>exact jJ (κ:= .loc 0) (n':=0) (o₁:=[]) aM f ak (fun h=>by simp[eb.makes]at h) (fun h=>by simp[eb.makes]at h) (by simpa only[mF,eA]using he) ax b
 |store sz x y=>exact jJ (κ:= .loc 0) (n':=0) (o₁:=[]) aM f ak (fun h=>by simp[eb.makes]at h) (fun h=>by simp[eb.makes]at h) (by simpa only[mF,eA]using he) ax b
 |bsl d sz el xs=>simp only[mF]at he;cases he;exact jJ (κ:= .loc st.n) (n':=st.n+1) (o₁:=st.o) aM f ak (fun _=>p ax.1) (fun _=>q) ou ax.2 b
 |bslm d key sz el xs=>simp only[mF]at he;cases he;exact jJ (κ:=jH st key) (n':=oj st key) (o₁:=oo st key) aM f ak (fun _=>xP ax.1) (fun _=>xQ) ou ax.2 b
 |appm d key sz el x y=>
  simp only[mF]at he;split at he
  ·rename_i ys l;cases he;exact jJ (κ:=jH st key) (n':=oj st key) (o₁:=oo st key) aM f ak (fun _=>xP ax.1) (fun _=>xQ) (by simp only[eA,l]) ax.2 b
  ·rename_i k xs ys l;cases he;refine jJ (κ:= .loc 0) (n':=0) (o₁:=[]) aM f ak (fun h=>?_) (fun h=>?_) (by simp only[eA,l]) ax b;all_goals
    exfalso
    simp only[eb.makes]at h
    split at h
    ·rename_i g
     unfold nk at l
     rw[g]at l
     split at l
     ·split at l<;>cases l
     ·rename_i J _;cases J
     ·cases l
    ·cases h
  ·cases he
 |mkmap d key=>simp only[mF]at he;cases he;exact jJ (κ:=jH st key) (n':=oj st key) (o₁:=oo st key) aM f ak (fun _=>xP ax) (fun _=>xQ) ou trivial b (hB:=fun e=>QP ak (It e))
 |mput E x k v=>exact jJ (κ:= .loc 0) (n':=0) (o₁:=[]) aM f ak (fun h=>by simp[eb.makes]at h) (fun h=>by simp[eb.makes]at h) (by simpa only[mF,eA]using he) ax b
 |range d key x=>
  simp only[mF]at he;split at he
  ·rename_i m g;split at he
   ·rename_i cs t;split at he
    ·rename_i cs' hm;cases he;exact jJ (κ:=jH st key) (n':=oj st key) (o₁:=oo st key) aM f ak (fun _=>xP ax) (fun _=>xQ) (by simp only[eA,g,t,hm]) trivial b (hB:=acf ak)
    ·cases he
   ·cases he
  ·cases he
 |app d sz el x y=>
  simp only[mF]at he;split at he
  ·rename_i D tag xs A B ys g s;split at he
   ·rename_i r;split at he
    ·rename_i k;split at he
     ·rename_i ow u;cases he;refine jJ (κ:= .loc 0) (n':=0) (o₁:=[]) aM f ak (fun h=>by simp[eb.makes,g]at h) (fun h=>by simp[eb.makes,g]at h) ?_ ax b;simp only[eA,g,s,r,and_self,if_true,u]
     ·cases he
    ·cases he;refine jJ (κ:= .loc st.n) (n':=st.n+1) (o₁:=st.o) aM f ak (fun _=>p ax.1) (fun _=>q) ?_ ax.2 b;simp only[eA,g,s,r,and_self,if_true]
    ·cases he
   ·cases he
  ·cases he
structure cM where
 b:List (aB×List ah)
 e:List (aB×ec)
def fZ(Z:aZ)(s:cM)(bl:Nat):Prop:=(∃k,(look k s.b).isSome/\Z.bx k=some bl)\/(∃g n v,(look g s.e).isSome/\Z.ow g=some (n,v)/\v.ownBlock=some bl)
def ql(Z:aZ)(s:cM):Prop:= ∀k,(look k s.b=none->Z.bx k=none)/\(look k s.e=none->Z.ow k=none)/\∀j b,¬Z.tr k j b
def dh(s:cM):List aB:=s.b.map (·.1)++s.e.map (·.1)
def jm(s:cM):Prop:=(∀m,look (.loc m) s.b=none)/\(∀m,look (.loc m) s.e=none)
def wN(P:cz)(f:FuncId)(ba:Array Value)(w:World)(R:Ending->World->Prop):Prop:=((∃fn,P.funcs[f]? =some fn/\fn.body.isSome=true/\(fn.name== "runtime.NumGoroutine")=false)/\Calls P f ba w R)\/ ∃v w',(callFunc f ba).run P w= .ok (.value v) w'/\R (.returned v) w'
def bK(P:cz)(f:FuncId)(args:List ah)(s:cM)(Q:ah->cM->Prop):Prop:=
 ∀(w:World) (Z:aZ) (ba:Array Value) (gl:nQ w Z),Good (fZ Z s) w Z s.b s.e->ql Z s->cH w Z args ba.toList->
  wN P f ba w fun e w'=> ∃v r a Z',e= .returned v/\Q r a/\aS w' Z' r v/\Good (fun bl=>fZ Z s bl\/w.heap.size<=bl) w' Z' a.b a.e/\ql Z' a/\jm a/\qa ⟨w,Z,fZ Z s,0,dh s,gl,[]⟩ w' Z'
def GZ(κ:aW Nat)(Z:aZ)(s:cM):Prop:= ∀k,(look k s.b=none->Z.bx k=none)/\(look k s.e=none->Z.ow k=none)/\∀j b,Z.tr k j b->∃m,κ=some m/\k= .loc m
theorem ql.k{Z:aZ}{s:cM}(h:ql Z s):GZ none Z s:=fun k=>⟨(h k).1,(h k).2.1,fun j b ae=>absurd ae ((h k).2.2 j b)⟩
def JW(P:cz)(f:FuncId)(κ:Nat)(args:List ah)(s:cM)(Q:ah->cM->Prop):Prop:=
 ∀(w:World) (Z:aZ) (ba:Array Value) (gl:nQ w Z),Good (fZ Z s) w Z s.b s.e->ql Z s->cH w Z args ba.toList->
  wN P f ba w fun e w'=> ∃v r a Z',e= .returned v/\Q r a/\aS w' Z' r v/\Good (fun bl=>fZ Z s bl\/w.heap.size<=bl) w' Z' a.b a.e/\GZ (some κ) Z' a/\jm a/\qa ⟨w,Z,fZ Z s,0,dh s,gl,[]⟩ w' Z'
def bL(P:cz)(f:FuncId)(args:List ah)(r:ah):Prop:=bK P f args ⟨[],[]⟩ fun a b=>a=r/\b=⟨[],[]⟩
theorem uF{α:Type}{k:aB}{x:α}:∀{l:List (aB×α)},look k l=some x->(k,x)∈l
 |[],h=>by simp[look]at h
 |(i,y)::r,h=>by
  simp only[look]at h;split at h
  ·rename_i e;subst e;cases h;simp
  ·exact p4 _ (uF h)
theorem uM{s:cM}{k:aB}(h:(look k s.b).isSome\/(look k s.e).isSome):k∈dh s:=by
 unfold dh;rcases h with h|h<;>obtain⟨x,a⟩:=gd.1 h<;>have:=uF a
 ·exact sr _ (iL.2 ⟨_,this,rfl⟩)
 ·exact List.mem_append_right _ (iL.2 ⟨_,this,rfl⟩)
section
open Classical
noncomputable def aZ.cut(Z:aZ)(S:aB->Prop):aZ:={A:=Z.A,bx:=fun k=>if S k then Z.bx k else none,ow:=fun k=>if S k then Z.ow k else none,tr:=fun k j b=>S k/\Z.tr k j b}
theorem aZ.cut_bx{Z:aZ}{S:aB->Prop}{k:aB}(h:S k):(Z.cut S).bx k=Z.bx k:=by simp[aZ.cut,h]
theorem aZ.cut_ow{Z:aZ}{S:aB->Prop}{k:aB}(h:S k):(Z.cut S).ow k=Z.ow k:=by simp[aZ.cut,h]
theorem aZ.cut_no{Z:aZ}{S:aB->Prop}{k:aB}(h:¬S k):(Z.cut S).bx k=none/\(Z.cut S).ow k=none/\∀j b,¬(Z.cut S).tr k j b:=by simp[aZ.cut,h]
theorem aZ.cut_some{Z:aZ}{S:aB->Prop}{k:aB}{b:Nat}(h:(Z.cut S).bx k=some b):S k/\Z.bx k=some b:=by
 by_cases a:S k
 ·exact⟨a,by rw[aZ.cut_bx a]at h;exact h⟩
 ·rw[(aZ.cut_no a).1]at h;cases h
theorem aZ.cut_someO{Z:aZ}{S:aB->Prop}{k:aB}{b:Nat×Value}(h:(Z.cut S).ow k=some b):S k/\Z.ow k=some b:=by
 by_cases a:S k
 ·exact⟨a,by rw[aZ.cut_ow a]at h;exact h⟩
 ·rw[(aZ.cut_no a).2.1]at h;cases h
theorem nQ.cut{w:World}{Z:aZ}(h:nQ w Z)(S:aB->Prop):nQ w (Z.cut S):=h
theorem pn.cut(S:aB->Prop)(w:World)(Z:aZ):pn S w Z w (Z.cut S):=⟨fun _ _ h=>⟨h,rfl⟩,fun k b a h=>by rw[aZ.cut_bx a];exact h,fun g n u aY h=>⟨n,u,by rw[aZ.cut_ow aY];exact h,.inl ⟨rfl,rfl⟩⟩,fun _ _ _=>rfl,fun _ _ _ a h=>⟨a,h⟩⟩
end
def hf(S:aB->Prop)(cb b:List (aB×List ah)):Prop:= ∀k cs,look k cb=some cs->look k b=some cs/\S k/\aA S cs
def pX(S:aB->Prop)(a e:List (aB×ec)):Prop:= ∀k o,look k a=some o->look k e=some o/\S k/\dH S o
theorem Good.cut{pr E:Nat->Prop}{w:World}{Z:aZ}{b cb:List (aB×List ah)}{e p:List (aB×ec)}(h:Good pr w Z b e){S:aB->Prop}(ae:hf S cb b)(he:pX S p e)
  (D:∀bl,pr bl->(∃k,(look k cb).isSome/\(Z.cut S).bx k=some bl)\/(∃g n v,(look g p).isSome/\(Z.cut S).ow g=some (n,v)/\v.ownBlock=some bl)->E bl):Good E w (Z.cut S) cb p:=by
 have m:∀k,(look k cb).isSome->(look k b).isSome/\S k:=fun k c=>by obtain⟨cs,t⟩:=gd.1 c;have:=ae k cs t;exact⟨by simp[this.1],this.2.1⟩
 have r:∀k,(look k p).isSome->(look k e).isSome/\S k:=fun k c=>by obtain⟨cs,t⟩:=gd.1 c;have:=he k cs t;exact⟨by simp[this.1],this.2.1⟩
 refine⟨h.alt,fun k cs c=>?_,fun k f bl J U i l=>?_,fun g o aY=>?_,fun g A n n' v v' bl J U i l u F=>?_,fun g k n v bl J U i l u=>?_,fun k=>?_,fun bl aM k j G=>?_⟩
 ·obtain⟨g1,g2,g3⟩:=ae k cs c;obtain⟨bl,us,el,f1,f2,f3,f4,f5⟩:=h.box k cs g1;have z:(Z.cut S).bx k=some bl:=by rw[aZ.cut_bx g2];exact f1
  exact⟨bl,us,el,z,D bl f2 (.inl ⟨k,by simp[c],z⟩),f3,f4,Zn (pn.cut S w Z) g3 f5⟩
 ·obtain⟨a,a2⟩:=m k J;obtain⟨d,B⟩:=m f U;exact h.inj k f bl a d (aZ.cut_some i).2 (aZ.cut_some l).2
 ·obtain⟨g1,g2,g3⟩:=he g o aY;obtain⟨v,us,f1,f2,f3,f4⟩:=h.own g o g1;have y:(Z.cut S).ow g=some (o.n,v):=by rw[aZ.cut_ow g2];exact f1
  exact⟨v,us,y,f2,fun bl s=>⟨D bl (f3 bl s).1 (.inr ⟨g,o.n,v,by simp[aY],y,s⟩),(f3 bl s).2⟩,
   fun xs q=>⟨(f4 xs q).1,I9 (pn.cut S w Z) _ _ _ (g3 xs q) (f4 xs q).2.1,(f4 xs q).2.2⟩⟩
 ·obtain⟨a,a2⟩:=r g J;obtain⟨d,B⟩:=r A U;exact h.oinj g A n n' v v' bl a d (aZ.cut_someO i).2 (aZ.cut_someO l).2 u F
 ·obtain⟨a,a2⟩:=r g J;obtain⟨d,B⟩:=m k U;exact h.obx g k n v bl a d (aZ.cut_someO i).2 l (aZ.cut_some u).2
 ·by_cases x:S k
  ·rw[aZ.cut_bx x,aZ.cut_ow x];exact h.one k
  ·exact .inl (aZ.cut_no x).1
 ·refine h.otr bl ?_ k j G.2;rcases aM with⟨f,a,a2⟩|⟨g,n,v,a,a2,a3⟩
  ·exact .inl ⟨f,(m f a).1,(aZ.cut_some a2).2⟩
  ·exact .inr ⟨g,n,v,(r g a).1,(aZ.cut_someO a2).2,a3⟩
structure jx (ob:List aB) (st st':bh):Prop where
 t:∀x∈st'.t,get x.1 st.t=x.2/\av (fun k=> ¬fresh st'.n st'.o k) x.2
 b:hf (fun k=> ¬fresh st'.n st'.o k) st'.b st.b
 e:pX (fun k=> ¬fresh st'.n st'.o k) st'.e st.e
 o:∀m∈ob,m∈st'.o
theorem UI:∀(i:Nat) (l:List (Nat×ah)),get i l= .junk\/(i,get i l)∈l
 |_,[]=>.inl rfl
 |i,(j,p)::r=>by
  by_cases h:j=i
  ·subst h;right;simp[get]
  ·rcases UI i r with J|J
   ·left;simp[get,h,J]
   ·right;simp[get,h];right;exact J
theorem cS.weaker{C:e0}{st st':bh}{a:Act}{w:World}{Z:aZ}(h:cS C st a w Z)(hw:jx C.ob st st'):cS C st' a w (Z.cut fun k=> ¬fresh st'.n st'.o k):=by
 refine⟨h.good.cut hw.b hw.e (fun bl o _=>o),⟨h.fr.os,h.fr.tape,h.fr.output,h.fr.size,h.fr.block,h.fr.keep,h.fr.fresh,fun n b ae=>?_,h.fr.obn,fun m n u hm=>?_,h.fr.obr,fun k j l g b J U=>h.fr.trd k j l g b J.2 U.2,fun k j b ae=>h.fr.trb k j b ae.2,fun k j b ae=>?_,h.fr.sh,fun j n u b q s=>h.fr.nrow j n u b (aZ.cut_someO q).2 s⟩,h.defers,h.size,fun i=>?_,fun k d=>aZ.cut_no (fun p=>p d),fun x e=>⟨tE (pn.cut _ w Z) _ _ (tl (fun k d f=>f.2 (hw.o k d)) _ (h.ext x e).2) (h.ext x e).1,(h.ext x e).2⟩,fun m hm f=>f.2 (hw.o m hm)⟩
 ·rw[aZ.cut_bx (fun c=>c.2 (hw.o _ (h.fr.obn n b ae)))];exact h.fr.obj n b ae
 ·rw[aZ.cut_ow (fun c=>c.2 (hw.o _ (h.fr.obr m n u hm)))];exact h.fr.row m n u hm
 ·rw[aZ.cut_bx ae.1,aZ.cut_ow ae.1];exact h.fr.trn k j b ae.2
 ·rcases UI i st'.t with r|hm
  ·rw[r];simp[aS]
  ·obtain⟨J,U⟩:=hw.t _ hm;simp only at J;have:=h.slot i;rw[J]at this;exact tE (pn.cut _ w Z) _ _ U this
mutual
def de:ah->ah
 | .slice sz _ xs=>.slice sz .no (cK xs)
 | .agg cs=>.agg (cK cs)
 | .tuple ba=>.tuple (cK ba)
 | .eptr x=>.eptr (de x)
 | .iface t x=>.iface t (de x)
 | .func f cZ=>.func f (cK cZ)
 |p=>p
def cK:List ah->List ah
 |[]=>[]
 |x::xs=>de x::cK xs
end
theorem nH:∀xs,(cK xs).length=xs.length
 |[]=>rfl
 |x::xs=>by simp[cK,nH xs]
mutual
theorem Hb{t:Bool}{w:World}{A:Nat->Nat->Prop}:∀(p:ah) (F:Nat->Prop) (v:Value),dZ t w A F p v->dZ t w A F (de p) v
 | .int _ _,_,_,h=>by simpa only[de]using h
 | .bool _,_,_,h=>by simpa only[de]using h
 | .str _,_,_,h=>by simpa only[de]using h
 | .slice sz tag xs,F,v,h=>by
  simp only[dZ,de]at h⊢;obtain⟨a,cap,J,U,g,k⟩:=h;refine⟨a,cap,by rw[nH];exact J,by rw[nH];exact U,by rw[nH];exact g,?_⟩;rcases k with rfl|⟨b,off,us,G,i,j,f,e,d,c⟩
  ·exact .inl rfl
  ·exact .inr ⟨b,off,us,G,i,j,f,e,d,Ut sz xs G us c⟩
 | .agg cs,F,v,h=>by simp only[dZ,de]at h⊢;obtain⟨us,J,U⟩:=h;exact⟨us,J,Uu cs F _ U⟩
 | .junk,_,_,h=>by simp[dZ]at h
 | .ptr _ _,_,_,h=>by simp[dZ]at h
 | .eptr _,_,_,h=>by simp[dZ]at h
 | .iface _ _,_,_,h=>by simp[dZ]at h
 | .nilp,_,_,h=>by simp[dZ]at h
 | .tuple _,_,_,h=>by simp[dZ]at h
 | .func _ _,_,_,h=>by simp[dZ]at h
 | .gmap _,_,_,h=>by simp[dZ]at h
 | .row _ _ _,_,_,h=>by simp[dZ]at h
 | .rptr _ _ _ _ _,_,_,h=>by simp[dZ]at h
 | .hdm _ _,_,_,h=>by simp[dZ]at h
 | .hdi _ _ _,_,_,h=>by simp[dZ]at h
 | .cst _,_,_,h=>by simp[dZ]at h
theorem Uu{t:Bool}{w:World}{A:Nat->Nat->Prop}:∀(cs:List ah) (F:Nat->Prop) (us:List Value),pD t w A F cs us->pD t w A F (cK cs) us
 |[],_,_,h=>by simpa only[cK]using h
 |c::cs,F,us,h=>by simp only[pD,cK]at h⊢;obtain⟨u,d,b,a,J,U,⟨g,e⟩,f⟩:=h;exact⟨u,d,b,a,J,U,⟨Hb c b u g,e⟩,Uu cs a d f⟩
theorem Ut{t:Bool}{w:World}{A:Nat->Nat->Prop}(sz:Nat):∀(cs:List ah) (F:Nat->Prop) (us:List Value),pC t w A F sz cs us->pC t w A F sz (cK cs) us
 |[],_,_,h=>by simpa only[cK]using h
 |c::cs,F,us,h=>by simp only[pC,cK]at h⊢;obtain⟨u,d,b,a,J,U,⟨g,e⟩,f⟩:=h;exact⟨u,d,b,a,J,U,⟨Hb c b u g,e⟩,Ut sz cs a d f⟩
end
theorem Lw{t:Bool}{w:World}{A:Nat->Nat->Prop}{F:Nat->Prop}{sz:Nat}{tag:Ax}(a:Ax){xs:List ah}(v:Value)(h:dZ t w A F (.slice sz tag xs) v):dZ t w A F (.slice sz a (cK xs)) v:=by have:=Hb _ F v h;simp only[de,dZ]at this⊢;exact this
mutual
theorem zY{w:World}{Z:aZ}:∀(p:ah) (v:Value),aS w Z p v->aS w Z (de p) v
 | .junk,_,h=>by simpa only[de]using h
 | .int k n,_,h=>by simpa only[de]using h
 | .bool b,_,h=>by simpa only[de]using h
 | .str s,_,h=>by simpa only[de]using h
 | .slice sz tag xs,v,h=>by
  simp only[aS,de]at h⊢;obtain⟨⟨a,cap,J,U,c,d⟩,l,i⟩:=h;refine⟨⟨a,cap,by rw[nH];exact J,by rw[nH];exact U,by rw[nH];exact c,?_⟩,fun e=>(by cases e),fun g e=>(by cases e),fun _ _ e=>(by cases e),fun _ e=>(by cases e)⟩;rcases d with rfl|⟨b,off,us,d,i,j⟩
  ·exact .inl rfl
  ·exact .inr ⟨b,off,us,d,i,Zr sz xs us j⟩
 | .agg cs,v,h=>by simp only[aS,de]at h⊢;obtain⟨us,J,U⟩:=h;exact⟨us,J,Zv cs _ U⟩
 | .ptr key off,v,h=>by simpa only[de]using h
 | .iface t x,v,h=>by simp only[aS,de]at h⊢;obtain⟨u,J,U⟩:=h;exact⟨u,J,zY x u U⟩
 | .eptr x,v,h=>by simp only[aS,de]at h⊢;obtain⟨b,off,u,J,U,c⟩:=h;exact⟨b,off,u,J,zY x u U,c⟩
 | .nilp,_,h=>by simpa only[de]using h
 | .tuple ba,v,h=>by simp only[aS,de]at h⊢;obtain⟨us,J,U⟩:=h;exact⟨us,J,Jg ba _ U⟩
 | .func f cZ,v,h=>by simp only[aS,de]at h⊢;obtain⟨us,J,U⟩:=h;exact⟨us,J,Jg cZ _ U⟩
 | .gmap key,v,h=>by simpa only[de]using h
 | .row _ _ _,v,h=>by simpa only[de]using h
 | .rptr _ _ _ _ _,v,h=>by simpa only[de]using h
 | .cst _,v,h=>by simpa only[de]using h
theorem Zv{w:World}{Z:aZ}:∀(cs:List ah) (us:List Value),cW w Z cs us->cW w Z (cK cs) us
 |[],_,h=>by simpa only[cK]using h
 |c::cs,us,h=>by simp only[cW,cK]at h⊢;obtain⟨u,a,J,U,b⟩:=h;exact⟨u,a,J,⟨zY c u U.1,U.2⟩,Zv cs a b⟩
theorem Jg{w:World}{Z:aZ}:∀(cs:List ah) (us:List Value),cH w Z cs us->cH w Z (cK cs) us
 |[],_,h=>by simpa only[cK]using h
 |c::cs,us,h=>by simp only[cH,cK]at h⊢;obtain⟨u,a,J,U,b⟩:=h;exact⟨u,a,J,zY c u U,Jg cs a b⟩
theorem Zr{w:World}{Z:aZ}(sz:Nat):∀(xs:List ah) (us:List Value),di w Z sz xs us->di w Z sz (cK xs) us
 |[],_,h=>by simpa only[cK]using h
 |x::xs,us,h=>by simp only[di,cK]at h⊢;obtain⟨u,a,J,⟨U,c,d⟩,b⟩:=h;exact⟨u,a,J,⟨zY x u U,c,d⟩,Zr sz xs a b⟩
end
def inObs(s:cM)(k:aB):Prop:=(look k s.b).isSome=true\/(look k s.e).isSome=true
def bZ{α β:Type}(s:List (aB×β)):List (aB×α)->List (aB×α)
 |[]=>[]
 |(k,x)::r=>match look k s with
  |some _=>bZ s r
  |none=>(k,x)::bZ s r
theorem uH{α β:Type}(s:List (aB×β))(k:aB):∀l:List (aB×α),look k (bZ s l)=if(look k s).isSome then none else look k l
 |[]=>by simp[bZ,look]
 |(i,x)::r=>by
  simp only[bZ];by_cases e:i=k
  ·subst e;cases h:look i s with
   |some y=>simp[uH s i r,h]
   |none=>simp[look]
  ·cases h:look i s with
   |some y=>simp[uH s k r,look,e]
   |none=>simp[look,e,uH s k r]
theorem zD{α:Type}(k:aB):∀l a:List (aB×α),look k (l++a)=match look k l with|some x=>some x|none=>look k a
 |[],a=>by simp[look]
 |(i,x)::r,a=>by
  by_cases e:i=k
  ·simp[look,e]
  ·simp[look,e,zD k r a]
def after(st:bh)(s a:cM)(d:aW Nat)(r:ah):bh:={t:=eP d r st.t,b:=bZ s.b st.b++a.b,e:=bZ s.e st.e++a.e,n:=st.n,o:=st.o++dh a}
section
open Classical
noncomputable def aZ.join(Z Z':aZ)(s a:cM):aZ:={A:=Z'.A,bx:=fun k=>if(look k s.b).isSome\/(look k a.b).isSome then Z'.bx k else Z.bx k,ow:=fun k=>if(look k s.e).isSome\/(look k a.e).isSome then Z'.ow k else Z.ow k,tr:=fun k j b=>Z.tr k j b\/Z'.tr k j b}
end
theorem cS.callK{C:e0}{st:bh}{a:Act}{w w':World}{Z Z':aZ}(h:cS C st a w Z){s f:cM}(ae:hf (inObs s) s.b st.b)(he:pX (inObs s) s.e st.e)(Y:jm s)
  (aY:Good (fun bl=>fZ (Z.cut (inObs s)) s bl\/w.heap.size<=bl) w' Z' f.b f.e) {κ:aW Nat} (V:GZ κ Z' f) (HP:∀m,κ=some m->Z.bx (.loc m)=none/\Z.ow (.loc m)=none/\∀j b,¬Z.tr (.loc m) j b) {n':Nat} {o':List aB} (dq:∀k,fresh n' o' k->fresh st.n (st.o++dh f) k/\∀m,κ=some m->k≠ .loc m) (M:jm f) (E:qa ⟨w,Z.cut (inObs s),fZ (Z.cut (inObs s)) s,0,dh s,h.fr.gl.cut _,[]⟩ w' Z')
  (Mh:∀m,(look (.obj m) f.b).isSome->(look (.obj m) s.b).isSome\/ .obj m∉st.o) (cF:∀m,(look (.obj m) f.e).isSome->(look (.obj m) s.e).isSome\/ .obj m∉st.o) (d:aW Nat) (aQ:h1 C.N d=true) {r:ah} {v:Value} (aD:aS w' Z' r v):
  cS C {after st s f d r with n:=n',o:=o'} (a.put d v) w' (Z.join Z' s f):=by
 have Q:∀k,(look k s.b).isSome->(look k st.b).isSome:=fun k c=>by obtain⟨cs,y⟩:=gd.1 c;simp[(ae k cs y).1]
 have R:∀k,(look k s.e).isSome->(look k st.e).isSome:=fun k c=>by obtain⟨cs,y⟩:=gd.1 c;simp[(he k cs y).1]
 have aiN:∀k,(look k f.b).isSome->¬(look k s.b).isSome->Z.bx k=none:=fun k c az=>by
  cases k with
  |loc m=>rw[M.1 m]at c;cases c
  |obj m=>exact(h.new (.obj m) ⟨trivial,(Mh m c).resolve_left az⟩).1
 have aiO:∀k,(look k f.e).isSome->¬(look k s.e).isSome->Z.ow k=none:=fun k c az=>by
  cases k with
  |loc m=>rw[M.2 m]at c;cases c
  |obj m=>exact(h.new (.obj m) ⟨trivial,(cF m c).resolve_left az⟩).2.1
 have ajX:∀k,(look k s.b).isSome->(Z.join Z' s f).bx k=Z'.bx k:=fun k c=>by simp[aZ.join,c]
 have Wo:∀k,(look k f.b).isSome->(Z.join Z' s f).bx k=Z'.bx k:=fun k c=>by simp[aZ.join,c]
 have Wp:∀k,Z.bx k≠none->¬(look k s.b).isSome->(Z.join Z' s f).bx k=Z.bx k:=fun k J U=>by have z:¬(look k f.b).isSome:=fun z=>J (aiN k z U);simp[aZ.join,U,z]
 have ajY:∀k,(look k s.e).isSome->(Z.join Z' s f).ow k=Z'.ow k:=fun k c=>by simp[aZ.join,c]
 have MQ:∀k,(look k f.e).isSome->(Z.join Z' s f).ow k=Z'.ow k:=fun k c=>by simp[aZ.join,c]
 have MR:∀k,Z.ow k≠none->¬(look k s.e).isSome->(Z.join Z' s f).ow k=Z.ow k:=fun k J U=>by have z:¬(look k f.e).isSome:=fun z=>J (aiO k z U);simp[aZ.join,U,z]
 have aa7:∀k b,Z'.bx k=some b->(look k f.b).isSome:=fun k b c=>by
  cases P:look k f.b with
  |some _=>rfl
  |none=>rw[(V k).1 P]at c;cases c
 have aa8:∀k b,Z'.ow k=some b->(look k f.e).isSome:=fun k b c=>by
  cases P:look k f.e with
  |some _=>rfl
  |none=>rw[(V k).2.1 P]at c;cases c
 have ak:lU w Z w' (Z.join Z' s f):=by
  refine⟨fun b o be=>E.keep b o be,fun k b _ c=>?_,fun g n u _ aY=>?_,fun b o be=>E.sh b o be,fun _ _ _ _ h=>.inl h⟩
  ·by_cases B:(look k s.b).isSome
   ·rw[ajX k B];cases k with
    |loc m=>rw[Y.1 m]at B;cases B
    |obj m=>exact E.obj m b (by rw[aZ.cut_bx (.inl B)];exact c)
   ·rw[Wp k (by rw[c];simp) B];exact c
  ·by_cases B:(look g s.e).isSome
   ·rw[ajY g B];cases g with
    |loc m=>rw[Y.2 m]at B;cases B
    |obj m=>exact E.row m n u (by rw[aZ.cut_ow (.inr B)];exact aY)
   ·rw[MR g (by rw[aY];simp) B];exact⟨n,u,aY,.inl ⟨rfl,rfl⟩⟩
 have hG:lU w' Z' w' (Z.join Z' s f):=⟨fun b o be=>⟨be,rfl⟩,fun k b _ c=>by rw[Wo k (aa7 k b c)];exact c,fun g n u _ c=>⟨n,u,by rw[MQ g (aa8 g _ c)];exact c,.inl ⟨rfl,rfl⟩⟩,fun _ _ _=>rfl,fun _ _ _ _ h=>.inr h⟩
 have qX:∀bl,fZ (Z.cut (inObs s)) s bl->C.pr bl/\bl<w.heap.size:=by
  intro bl F;rcases F with⟨k,J,U⟩|⟨g,n,u,J,U,z⟩
  ·have A:=(aZ.cut_some U).2;obtain⟨cs,y⟩:=gd.1 (Q k J);obtain⟨K,us,el,g1,g2,_⟩:=h.good.box k cs y;rw[A]at g1;cases g1;exact⟨g2,h.good.boxLt y A⟩
  ·have A:=(aZ.cut_someO U).2;obtain⟨o,HC⟩:=gd.1 (R g J);obtain⟨v',us,g1,g2,g3,_⟩:=h.good.own g o HC;rw[A]at g1;cases g1;exact⟨(g3 bl z).1,h.good.ownLt HC A z⟩
 have VS:∀bl,fZ (Z.cut (inObs s)) s bl\/w.heap.size<=bl->C.pr bl:=fun bl F=>by
  rcases F with F|F
  ·exact(qX bl F).1
  ·exact .inr (jM h.fr.size F)
 have aja:∀k cs bl,look k st.b=some cs->¬(look k s.b).isSome->Z.bx k=some bl->¬fZ (Z.cut (inObs s)) s bl:=by
  intro k cs bl J U z A;rcases A with⟨D,l,a2⟩|⟨g,n,u,l,a2,a3⟩
  ·have:=h.good.inj k D bl (by simp[J]) (Q D l) z (aZ.cut_some a2).2;subst this;exact U l
  ·exact h.good.obx g k n u bl (R g l) (by simp[J]) (aZ.cut_someO a2).2 a3 z
 have ajb:∀g o n u bl,look g st.e=some o->¬(look g s.e).isSome->Z.ow g=some (n,u)->u.ownBlock=some bl->¬fZ (Z.cut (inObs s)) s bl:=by
  intro g o n u bl J U z A G;rcases G with⟨D,l,a2⟩|⟨S,n',X,l,a2,a3⟩
  ·exact h.good.obx g D n u bl (by simp[J]) (Q D l) z A (aZ.cut_some a2).2
  ·have:=h.good.oinj g S n n' u X bl (by simp[J]) (R S l) z (aZ.cut_someO a2).2 A a3;subst this;exact U l
 have Tc:∀k cs,look k (bZ s.b st.b++f.b)=some cs->(¬(look k s.b).isSome/\look k st.b=some cs)\/look k f.b=some cs:=by
  intro k cs c;rw[zD,uH]at c;by_cases B:(look k s.b).isSome
  ·simp only[B,if_true]at c;exact .inr c
  ·simp only[B]at c;cases P:look k st.b with
   |some x=>simp[P]at c;subst c;exact .inl ⟨B,rfl⟩
   |none=>simp[P]at c;exact .inr c
 have Td:∀k cs,look k (bZ s.e st.e++f.e)=some cs->(¬(look k s.e).isSome/\look k st.e=some cs)\/look k f.e=some cs:=by
  intro k cs c;rw[zD,uH]at c;by_cases B:(look k s.e).isSome
  ·simp only[B,if_true]at c;exact .inr c
  ·simp only[B]at c;cases P:look k st.e with
   |some x=>simp[P]at c;subst c;exact .inl ⟨B,rfl⟩
   |none=>simp[P]at c;exact .inr c
 have wG:∀bl,fZ (Z.cut (inObs s)) s bl\/w.heap.size<=bl->∀K,K<w.heap.size->¬fZ (Z.cut (inObs s)) s K->bl≠K:=by
  intro bl J K U z e;subst e;rcases J with J|J
  ·exact z J
  ·omega
 have MY:∀bl,bl<w.heap.size->¬fZ (Z.cut (inObs s)) s bl->w'.heap[bl]? =w.heap[bl]?:=fun bl J U=>E.block bl J U;have isB:∀k bl,(look k (bZ s.b st.b++f.b)).isSome->(Z.join Z' s f).bx k=some bl->(¬(look k s.b).isSome/\(look k st.b).isSome/\Z.bx k=some bl)\/((look k f.b).isSome/\Z'.bx k=some bl):=by
  intro k bl c L;obtain⟨cs,y⟩:=gd.1 c;rcases Tc k cs y with⟨J,U⟩|J
  ·obtain⟨K,us,el,g1,_⟩:=h.good.box k cs U;rw[Wp k (by rw[g1];simp) J]at L;exact .inl ⟨J,by simp[U],L⟩
  ·rw[Wo k (by simp[J])]at L;exact .inr ⟨by simp[J],L⟩
 have HV:∀k x,(look k (bZ s.e st.e++f.e)).isSome->(Z.join Z' s f).ow k=some x->(¬(look k s.e).isSome/\(look k st.e).isSome/\Z.ow k=some x)\/((look k f.e).isSome/\Z'.ow k=some x):=by
  intro k x c L;obtain⟨cs,y⟩:=gd.1 c;rcases Td k cs y with⟨J,U⟩|J
  ·obtain⟨v',us,g1,_⟩:=h.good.own k cs U;rw[MR k (by rw[g1];simp) J]at L;exact .inl ⟨J,by simp[U],L⟩
  ·rw[MQ k (by simp[J])]at L;exact .inr ⟨by simp[J],L⟩
 have Db:∀k bl,¬(look k s.b).isSome->(look k st.b).isSome->Z.bx k=some bl->bl<w.heap.size/\¬fZ (Z.cut (inObs s)) s bl:=by intro k bl J U z;obtain⟨cs,y⟩:=gd.1 U;exact⟨h.good.boxLt y z,aja k cs bl y J z⟩
 have W:∀k n u bl,¬(look k s.e).isSome->(look k st.e).isSome->Z.ow k=some (n,u)->u.ownBlock=some bl->bl<w.heap.size/\¬fZ (Z.cut (inObs s)) s bl:=by intro k n u bl J U z A;obtain⟨cs,y⟩:=gd.1 U;exact⟨h.good.ownLt y z A,ajb k cs n u bl y J z A⟩
 have Gq:∀k bl,(look k f.b).isSome->Z'.bx k=some bl->fZ (Z.cut (inObs s)) s bl\/w.heap.size<=bl:=by intro k bl J U;obtain⟨cs,y⟩:=gd.1 J;obtain⟨K,us,el,g1,g2,_⟩:=aY.box k cs y;rw[U]at g1;cases g1;exact g2
 have Ji:∀k n u bl,(look k f.e).isSome->Z'.ow k=some (n,u)->u.ownBlock=some bl->fZ (Z.cut (inObs s)) s bl\/w.heap.size<=bl:=by intro k n u bl J U z;obtain⟨cs,y⟩:=gd.1 J;obtain⟨v',us,g1,g2,g3,_⟩:=aY.own k cs y;rw[U]at g1;cases g1;exact(g3 bl z).1
 have be:∀bl o,Z'.A bl o->bl<w.heap.size->¬fZ (Z.cut (inObs s)) s bl->Z.A bl o:=by
  intro bl o J U z;rcases E.fresh bl o J with A|A|A
  ·exact A
  ·exact absurd A z
  ·simp only at A;omega
 have od:cS C {t:=st.t,b:=bZ s.b st.b++f.b,e:=bZ s.e st.e++f.e,n:=n',o:=o'} a w' (Z.join Z' s f):=by
  refine h.over ak rfl ⟨aY.alt,fun k cs c=>?_,fun k D bl J U z A=>?_,fun g o fo=>?_,fun g S n n' u X bl J U z A G dk=>?_,fun g k n u bl J U z A G=>?_,fun k=>?_,fun bl aM k j gO=>?_⟩
   ⟨E.os.trans h.fr.os,E.tape.trans h.fr.tape,E.output.trans h.fr.output,jM h.fr.size E.size,fun k c hm=>?_,fun b o O=>?_,fun b o O=>?_,fun n b az=>ak.bx _ _ trivial (h.fr.obj n b az),h.fr.obn,
    fun m n u hm=>FA (h.fr.row m n u hm) (fun n u=>ak.ow _ n u trivial),h.fr.obr,fun k j D df b J U=>?_,fun k j b ae=>?_,fun k j b ae=>?_,fun b o be=>(ak.sh b o (h.fr.keep b o be).1).trans (h.fr.sh b o be),fun j n u b ai aC=>h.fr.nrow j n u b (by simpa[aZ.join,Y.2 j,M.2 j]using ai) aC⟩ (fun k c=>?_) (fun m hm=>yP (eR _) (fun _ h=>sr _ h) (dq m hm).1)
  ·rcases Tc k cs c with⟨J,U⟩|J
   ·obtain⟨bl,us,el,g1,g2,g3,g4,g5⟩:=h.good.box k cs U;obtain⟨p,q⟩:=Db k bl J (by simp[U]) g1;exact⟨bl,us,el,ak.bx _ _ trivial g1,g2,fun o O=>g3 o (be bl o O p q),by rw[MY bl p q];exact g4,qE ak g5⟩
   ·obtain⟨bl,us,el,g1,g2,g3,g4,g5⟩:=aY.box k cs J;exact⟨bl,us,el,hG.bx _ _ trivial g1,VS bl g2,g3,g4,qE hG g5⟩
  ·rcases isB k bl J z with⟨l,a2,a3⟩|⟨l,a2⟩<;>rcases isB D bl U A with⟨p,q,H⟩|⟨p,q⟩
   ·exact h.good.inj k D bl a2 q a3 H
   ·obtain⟨N,c2⟩:=Db k bl l a2 a3;exact absurd rfl (wG bl (Gq D bl p q) bl N c2)
   ·obtain⟨N,c2⟩:=Db D bl p q H;exact absurd rfl (wG bl (Gq k bl l a2) bl N c2)
   ·exact aY.inj k D bl l p a2 q
  ·rcases Td g o fo with⟨J,U⟩|J
   ·obtain⟨u,us,g1,g2,g3,g4⟩:=h.good.own g o U;refine⟨u,us,by rw[MR g (by rw[g1];simp) J];exact g1,⟨g2.1,?_⟩,fun bl F=>?_,sb ak (fun bl F j O=>?_) g4⟩
    ·rcases g2.2 with aC|⟨bb,cap,cur,f1,f2,f3,f4⟩
     ·exact .inl aC
     ·obtain⟨p,q⟩:=W g _ u bb J (by simp[U]) g1 (by rw[f1];rfl);exact .inr ⟨bb,cap,cur,f1,f2,by rw[MY bb p q];exact f3,f4⟩
    ·obtain⟨p,q⟩:=W g _ u bl J (by simp[U]) g1 F;exact⟨(g3 bl F).1,fun j O=>(g3 bl F).2 j (be bl j O p q)⟩
    ·obtain⟨p,q⟩:=W g _ u bl J (by simp[U]) g1 F;exact be bl j O p q
   ·obtain⟨u,us,g1,g2,g3,g4⟩:=aY.own g o J;exact⟨u,us,by rw[MQ g (by simp[J])];exact g1,g2,fun bl F=>⟨VS bl (g3 bl F).1,(g3 bl F).2⟩,sb hG (fun _ _ _ h=>h) g4⟩
  ·rcases HV g _ J z with⟨l,a2,a3⟩|⟨l,a2⟩<;>rcases HV S _ U A with⟨p,q,H⟩|⟨p,q⟩
   ·exact h.good.oinj g S n n' u X bl a2 q a3 H G dk
   ·obtain⟨N,c2⟩:=W g n u bl l a2 a3 G;exact absurd rfl (wG bl (Ji S n' X bl p q dk) bl N c2)
   ·obtain⟨N,c2⟩:=W S n' X bl p q H dk;exact absurd rfl (wG bl (Ji g n u bl l a2 G) bl N c2)
   ·exact aY.oinj g S n n' u X bl l p a2 q G dk
  ·rcases HV g _ J z with⟨l,a2,a3⟩|⟨l,a2⟩<;>rcases isB k bl U G with⟨p,q,H⟩|⟨p,q⟩
   ·exact h.good.obx g k n u bl a2 q a3 A H
   ·obtain⟨N,c2⟩:=W g n u bl l a2 a3 A;exact absurd rfl (wG bl (Gq k bl p q) bl N c2)
   ·obtain⟨N,c2⟩:=Db k bl p q H;exact absurd rfl (wG bl (Ji g n u bl l a2 A) bl N c2)
   ·exact aY.obx g k n u bl l p a2 A q
  ·
   cases L:(Z.join Z' s f).bx k with
   |none=>exact .inl rfl
   |some bl=>
    right;cases oV:(Z.join Z' s f).ow k with
    |none=>rfl
    |some x=>
     exfalso;have ai:(Z.bx k=some bl/\¬(look k s.b).isSome/\¬(look k f.b).isSome)\/Z'.bx k=some bl:=by
      by_cases B:(look k s.b).isSome\/(look k f.b).isSome
      ·right;simpa[aZ.join,B]using L
      ·left;simp only[not_or]at B;exact⟨by simpa[aZ.join,B.1,B.2]using L,B.1,B.2⟩
     have aC:(Z.ow k=some x/\¬(look k s.e).isSome/\¬(look k f.e).isSome)\/Z'.ow k=some x:=by
      by_cases B:(look k s.e).isSome\/(look k f.e).isSome
      ·right;simpa[aZ.join,B]using oV
      ·left;simp only[not_or]at B;exact⟨by simpa[aZ.join,B.1,B.2]using oV,B.1,B.2⟩
     rcases ai with⟨l,a2,a3⟩|l<;>rcases aC with⟨p,q,H⟩|p
     ·rcases h.good.one k with i|i
      ·rw[i]at l;cases l
      ·rw[i]at p;cases p
     ·have vI:=aa8 k x p;have ee:(look k s.e).isSome:=by
       cases k with
       |loc m=>rw[M.2 m]at vI;cases vI
       |obj m=>
        rcases cF m vI with i|i
        ·exact i
        ·rw[(h.new (.obj m) ⟨trivial,i⟩).1]at l;cases l
      obtain⟨o,HC⟩:=gd.1 (R k ee);obtain⟨v',us,g1,_⟩:=h.good.own k o HC;rcases h.good.one k with i|i
      ·rw[i]at l;cases l
      ·rw[i]at g1;cases g1
     ·have y7:=aa7 k bl l;have ee:(look k s.b).isSome:=by
       cases k with
       |loc m=>rw[M.1 m]at y7;cases y7
       |obj m=>
        rcases Mh m y7 with i|i
        ·exact i
        ·rw[(h.new (.obj m) ⟨trivial,i⟩).2.1]at p;cases p
      obtain⟨cs,y⟩:=gd.1 (Q k ee);obtain⟨K,us,el,g1,_⟩:=h.good.box k cs y;rcases h.good.one k with i|i
      ·rw[i]at g1;cases g1
      ·rw[i]at p;cases p
     ·rcases aY.one k with i|i
      ·rw[i]at l;cases l
      ·rw[i]at p;cases p
  ·have VD:∀k j,Z'.tr k j bl->w.heap.size<=bl:=fun k j i=>by
    rcases(E.trb k j bl i).1 with a2|a2
    ·obtain⟨m,_,hm⟩:=(V k).2.2 j bl i;rw[hm]at a2;cases a2
    ·exact a2
   have hold:fZ (Z.cut (inObs s)) s bl->¬Z.tr k j bl:=by
    rintro(⟨D,l,a2⟩|⟨g,n,u,l,a2,a3⟩) i
    ·exact h.good.otr bl (.inl ⟨D,Q D l,(aZ.cut_some a2).2⟩) k j i
    ·exact h.good.otr bl (.inr ⟨g,n,u,R g l,(aZ.cut_someO a2).2,a3⟩) k j i
   have kv:fZ (Z.cut (inObs s)) s bl\/w.heap.size<=bl->¬Z.tr k j bl:=by
    rintro(J|J) i
    ·exact hold J i
    ·have:=(h.fr.trb k j bl i).2;omega
   rcases aM with⟨D,l,a2⟩|⟨g,n,u,l,a2,a3⟩
   ·rcases isB D bl l a2 with⟨p,q,H⟩|⟨p,q⟩
    ·rcases gO with gO|gO
     ·exact h.good.otr bl (.inl ⟨D,q,H⟩) k j gO
     ·have:=(Db D bl p q H).1;have:=VD k j gO;omega
    ·rcases gO with gO|gO
     ·exact kv (Gq D bl p q) gO
     ·exact aY.otr bl (.inl ⟨D,p,q⟩) k j gO
   ·rcases HV g _ l a2 with⟨p,q,H⟩|⟨p,q⟩
    ·rcases gO with gO|gO
     ·exact h.good.otr bl (.inr ⟨g,n,u,q,H,a3⟩) k j gO
     ·have:=(W g n u bl p q H a3).1;have:=VD k j gO;omega
    ·rcases gO with gO|gO
     ·exact kv (Ji g n u bl p q a3) gO
     ·exact aY.otr bl (.inr ⟨g,n,u,p,q,a3⟩) k j gO
  ·have bI:k<w.heap.size:=Nat.lt_of_lt_of_le c h.fr.size;rw[MY k bI fun F=>by
    rcases(qX k F).1 with J|J
    ·exact hm J
    ·omega]
   exact h.fr.block k c hm
  ·obtain⟨bc,bP⟩:=h.fr.keep b o O;obtain⟨cA,ff⟩:=E.keep b o bc;exact⟨cA,ff.trans bP⟩
  ·rcases E.fresh b o O with A|A|A
   ·exact h.fr.fresh b o A
   ·exact .inr (qX b A).1
   ·exact .inr (.inr (jM h.fr.size A))
  ·rcases J with J|J<;>rcases U with U|U
   ·exact h.fr.trd k j D df b J U
   ·have l:=(h.fr.trb k j b J).2;have a2:=(E.trb D df b U).1;rcases a2 with a2|a2
    ·obtain⟨m,_,hm⟩:=(V D).2.2 df b U;rw[hm]at a2;cases a2
    ·simp only at a2;omega
   ·have l:=(h.fr.trb D df b U).2;have a2:=(E.trb k j b J).1;rcases a2 with a2|a2
    ·obtain⟨m,_,hm⟩:=(V k).2.2 j b J;rw[hm]at a2;cases a2
    ·simp only at a2;omega
   ·exact E.trd k j D df b J U
  ·rcases ae with ae|ae
   ·exact⟨(h.fr.trb k j b ae).1,Nat.lt_of_lt_of_le (h.fr.trb k j b ae).2 E.size⟩
   ·refine⟨.inr ?_,(E.trb k j b ae).2⟩;rcases(E.trb k j b ae).1 with a2|a2
    ·obtain⟨m,_,hm⟩:=(V k).2.2 j b ae;rw[hm]at a2;cases a2
    ·exact jM h.fr.size a2
  ·have key:Z.bx k=none/\Z.ow k=none/\¬(look k f.b).isSome/\¬(look k f.e).isSome:=by
    rcases ae with ae|ae
    ·obtain⟨t1,t2⟩:=h.fr.trn k j b ae;refine⟨t1,t2,fun i=>?_,fun i=>?_⟩
     ·cases k with
      |loc m=>rw[M.1 m]at i;cases i
      |obj m=>
       rcases Mh m i with G|G
       ·obtain⟨cs,y⟩:=gd.1 (Q _ G);obtain⟨K,us,el,g1,_⟩:=h.good.box _ cs y;rw[t1]at g1;cases g1
       ·exact(h.new (.obj m) ⟨trivial,G⟩).2.2 j b ae
     ·cases k with
      |loc m=>rw[M.2 m]at i;cases i
      |obj m=>
       rcases cF m i with G|G
       ·obtain⟨cs,y⟩:=gd.1 (R _ G);obtain⟨K,us,g1,_⟩:=h.good.own _ cs y;rw[t2]at g1;cases g1
       ·exact(h.new (.obj m) ⟨trivial,G⟩).2.2 j b ae
    ·obtain⟨m,hm,rfl⟩:=(V k).2.2 j b ae;obtain⟨t1,t2,_⟩:=HP m hm;exact⟨t1,t2,by simp[M.1 m],by simp[M.2 m]⟩
   obtain⟨t1,t2,t3,t4⟩:=key;have t5:¬(look k s.b).isSome:=fun i=>by obtain⟨cs,y⟩:=gd.1 (Q _ i);obtain⟨K,us,el,g1,_⟩:=h.good.box _ cs y;rw[t1]at g1;cases g1
   have t6:¬(look k s.e).isSome:=fun i=>by obtain⟨cs,y⟩:=gd.1 (R _ i);obtain⟨K,us,g1,_⟩:=h.good.own _ cs y;rw[t2]at g1;cases g1
   exact⟨by simp[aZ.join,t3,t5,t1],by simp[aZ.join,t4,t6,t2]⟩
  ·
   simp only at c;obtain⟨c,aix⟩:=dq k c;have VK:(∀j b,¬Z.tr k j b)->∀j b,¬(Z.join Z' s f).tr k j b:=fun J j b ae=>by
    rcases ae with ae|ae
    ·exact J j b ae
    ·obtain⟨m,hm,e⟩:=(V k).2.2 j b ae;exact aix m hm e
   cases k with
   |loc m=>obtain⟨gY,fU,iG⟩:=h.new (.loc m) (yP (eR _) (fun _ h=>sr _ h) c);exact⟨by simp[aZ.join,Y.1 m,M.1 m,gY],by simp[aZ.join,Y.2 m,M.2 m,fU],VK iG⟩
   |obj m=>
    simp only[fresh,kr,not_or,true_and]at c;obtain⟨gY,fU,iG⟩:=h.new (.obj m) ⟨trivial,c.1⟩;have a8:¬(look (.obj m) f.b).isSome:=fun i=>c.2 (uM (.inl i));have bA:¬(look (.obj m) f.e).isSome:=fun i=>c.2 (uM (.inr i));have bR:¬(look (.obj m) s.b).isSome:=fun i=>by obtain⟨cs,y⟩:=gd.1 (Q _ i);obtain⟨K,us,el,g1,_⟩:=h.good.box _ cs y;rw[gY]at g1;cases g1
    have cY:¬(look (.obj m) s.e).isSome:=fun i=>by obtain⟨cs,y⟩:=gd.1 (R _ i);obtain⟨v',us,g1,_⟩:=h.good.own _ cs y;rw[fU]at g1;cases g1
    exact⟨by simp[aZ.join,a8,bR,gY],by simp[aZ.join,bA,cY,fU],VK iG⟩
 exact od.put aQ (wx hG aD)
end
end Go.Pv
