/- Loops over the state at their beginning. -/
import Derived.Deep.LoopGhost
import Derived.Shelf.Strings.Builder1
import Derived.Shelf.Strconv.Itoa3
import Derived.Shelf.Strconv.AtoiAll
import Derived.Ground.NamesProg
import Derived.Test.YtlnndmgfngfeiaaGreatDoorProg
import Derived.ProofKit
import Derived.WalkKit
import Derived.Lib.ItoaNum
import Derived.Lib.AtoiAll
import Derived.Lib.ItoaLen
import Derived.Test.YtlnndmgfngfeiaaGreatDoorV3
set_option linter.all false
set_option maxHeartbeats 4000000
set_option maxRecDepth 4000
open Bool renaming and_eq_true->bF,false_eq_true->kE
open ByteArray renaming size->MH
open Go renaming Program->b3,TypeId->fT
open Go.Extern.AbiNoEscape renaming same->amN
open Go.Proofs.Tryz renaming prog->aQ
open Go.Result renaming andThen_ok->e8
open Go.Sem renaming run_bind->e4,run_pure->fO
open Go.Value renaming cells->mf,int->mP
open List renaming append_assoc->iI,cons_append->ds,drop_eq_getElem_cons->uk,getElem?_eq_getElem->cS,getElem?_eq_some_iff->eV,length_append->fU,length_cons->ga,length_nil->mh,map_cons->ek,mem_append->fM,mem_append_left->rF,mem_cons->gb,mem_map->n8,mem_singleton->mi,nil_append->eW,nodup_append->rG
open List.Nodup renaming length_le_of_subset->aiP
open List.cons renaming injEq->w9
open Nat renaming le_refl->c7,lt_or_ge->lU,zero_le->o3
open Option renaming isSome_iff_exists->fG,isSome_none->um,map_eq_some_iff->hc,map_some->oa
open Option.some renaming inj->hd,injEq->dH
open Prod.mk renaming injEq->gz
open UInt8 renaming ofNat->pS
open _root_ renaming ByteArray->kF,False->dD,Option->a1,UInt8->ah,beq_iff_eq->dK,congrArg->dZ,decide_eq_true_eq->ea,if_neg->bo,if_pos->bP
namespace Go.Pv
section
open Go Go.RowKit
mutual
def hg(N:List aO):al->al
 | .slice sz (.tr k j) xs=>if k∈N\/k=tZ then .slice sz .no (ht N xs)else .slice sz (.tr k j) (ca xs)
 | .slice sz (.own k) xs=>.slice sz (.own k) (ht N xs)
 | .slice sz .nil xs=>.slice sz .nil (ht N xs)
 | .slice sz .no xs=>.slice sz .no (ht N xs)
 | .slice sz (.lo _) xs=>.slice sz .no (ht N xs)
 | .agg cs=>.agg (ht N cs)
 | .eptr x=>.eptr (hg N x)
 | .iface t x=>.iface t (hg N x)
 | .tuple vs=>.tuple (ht N vs)
 | .func f dy=>.func f (ht N dy)
 |p=>p
def ht(N:List aO):List al->List al
 |[]=>[]
 |x::xs=>hg N x::ht N xs
end
theorem xy(N:List aO):∀xs,(ht N xs).length=xs.length
 |[]=>rfl
 |x::xs=>by simp[ht,xy N xs]
section
variable {w:World} {ν μ:aW} {N:List aO} (bq:∀b o,ν.A b o->μ.A b o) (ao:μ.bx=ν.bx) (az:μ.ow=ν.ow) (aI:∀k,k∉N->∀j b,ν.tr k j b->μ.tr k j b)
 (fy:∀k j bz fb b,ν.tr k j b->ν.tr bz fb b->k=bz/\j=fb)
include bq ao az aI fy
mutual
theorem AG:∀(p:al) (v:Value),aT w ν p v->aT w μ (hg N p) v
 | .junk,_,_=>by simp[hg,aT]
 | .int _ _,_,h=>by simpa only[hg,aT]using h
 | .bool _,_,h=>by simpa only[hg,aT]using h
 | .str _,_,h=>by simpa only[hg,aT]using h
 | .slice sz tag xs,v,h=>by
  have hw:=h;simp only[aT]at h;obtain⟨I,J,aA,aS,bG⟩:=h;obtain⟨a0,OI,cz,db,eo,dC⟩:=I;have jr:∃a cap,v= .slice a (ht N xs).length cap/\(ht N xs).length<=cap/\(cap<=maxLen/\(ht N xs).length<=bs)/\(ht N xs=[]\/ ∃b off us,a=some ⟨b,off,none⟩/\kx w μ.A b off us/\cR w μ sz (ht N xs) us):=by
   refine⟨a0,OI,by rw[xy];exact cz,by rw[xy];exact db,by rw[xy];exact eo,?_⟩;rcases dC with aS|⟨b,off,us,aB,aU,b1⟩
   ·exact .inl (by rw[aS];rfl)
   ·exact .inr ⟨b,off,us,aB,wC (fun b o h=>⟨bq b o h,rfl⟩) _ _ aU,Lp sz xs us b1⟩
  cases tag with
  |no=>simp only[hg,aT];exact⟨jr,fun e=>(by cases e),fun _ e=>(by cases e),fun _ _ e=>(by cases e),fun _ e=>(by cases e)⟩
  |lo k=>simp only[hg,aT];exact⟨jr,fun e=>(by cases e),fun _ e=>(by cases e),fun _ _ e=>(by cases e),fun _ e=>(by cases e)⟩
  |nil=>simp only[hg,aT];exact⟨jr,fun _=>J rfl,fun _ e=>(by cases e),fun _ _ e=>(by cases e),fun _ e=>(by cases e)⟩
  |own k=>simp only[hg,aT];refine⟨jr,fun e=>(by cases e),fun g e=>?_,fun _ _ e=>(by cases e),fun _ e=>(by cases e)⟩;rw[az,xy];exact aA g e
  |tr k j=>
   simp only[hg];by_cases aa:k∈N\/k=tZ
   ·rw[bP aa];simp only[aT];exact⟨jr,fun e=>(by cases e),fun _ e=>(by cases e),fun _ _ e=>(by cases e),fun _ e=>(by cases e)⟩
   ·rw[bo aa];have gV:=not_or.1 aa;have aY:=KJ fy _ v hw (by simp only[lf];exact gV.2) (by simp[jh]);have q1:=xJ (A':=μ.A) (fun b o h=>⟨bq b o h,rfl⟩) (fun _ _ _=>rfl) _ _ (μ.tr k j) _ (fun b ao=>by obtain⟨bz,i,hm,ao⟩:=ao;simp only[jh,mi,gz]at hm;obtain⟨rfl,rfl⟩:=hm;exact aI _ gV.1 _ _ ao) aY
    simp only[cm]at q1;exact L8 q1 (wZ xs)
 | .agg cs,v,h=>by simp only[aT,hg]at h⊢;obtain⟨us,I,J⟩:=h;exact⟨us,I,Lr cs _ J⟩
 | .ptr key off,v,h=>by simp only[aT,hg]at h⊢;rw[ao];exact h
 | .eptr x,v,h=>by simp only[aT,hg]at h⊢;obtain⟨b,off,u,I,J,aA⟩:=h;exact⟨b,off,u,I,AG x u J,wC (fun b o h=>⟨bq b o h,rfl⟩) _ _ aA⟩
 | .iface t x,v,h=>by simp only[aT,hg]at h⊢;obtain⟨u,I,J⟩:=h;exact⟨u,I,AG x u J⟩
 | .nilp,_,h=>by simpa only[hg,aT]using h
 | .tuple vs,v,h=>by simp only[aT,hg]at h⊢;obtain⟨us,I,J⟩:=h;exact⟨us,I,Dq vs _ J⟩
 | .func f dy,v,h=>by simp only[aT,hg]at h⊢;obtain⟨us,I,J⟩:=h;exact⟨us,I,Dq dy _ J⟩
 | .gmap key,v,h=>by simp only[aT,hg]at h⊢;rw[ao];exact h
 | .row sz k n,v,h=>by simp only[aT,hg]at h⊢;rw[az];exact h
 | .rptr sz k n i f,v,h=>by simp only[aT,hg]at h⊢;rw[az];exact h
 | .hdm _ _,_,h=>by simp only[aT]at h
 | .hdi _ _ _,_,h=>by simp only[aT]at h
 | .cst _,_,h=>by simpa only[hg,aT]using h
theorem Lr:∀(cs:List al) (us:List Value),cK w ν cs us->cK w μ (ht N cs) us
 |[],_,h=>by simpa only[ht,cK]using h
 |c::cs,us,h=>by simp only[cK,ht]at h⊢;obtain⟨u,bI,I,J,aA⟩:=h;exact⟨u,bI,I,⟨AG c u J.1,J.2⟩,Lr cs bI aA⟩
theorem Dq:∀(cs:List al) (us:List Value),cw w ν cs us->cw w μ (ht N cs) us
 |[],_,h=>by simpa only[ht,cw]using h
 |c::cs,us,h=>by simp only[cw,ht]at h⊢;obtain⟨u,bI,I,J,aA⟩:=h;exact⟨u,bI,I,AG c u J,Dq cs bI aA⟩
theorem Lp(sz:Nat):∀(cs:List al) (us:List Value),cR w ν sz cs us->cR w μ sz (ht N cs) us
 |[],_,h=>by simpa only[ht,cR]using h
 |c::cs,us,h=>by simp only[cR,ht]at h⊢;obtain⟨u,bI,I,⟨J,uI⟩,aA⟩:=h;exact⟨u,bI,I,⟨AG c u J,uI⟩,Lp sz cs bI aA⟩
end
theorem agX{cs:List al}{us:List Value}(h:h9 w ν cs us):h9 w μ (ht N cs) us:=by
 have bX:∀c:al,(∀a b,c≠ .hdm a b)->(∀a b d,c≠ .hdi a b d)->(∀a b,hg N c≠ .hdm a b)/\(∀a b d,hg N c≠ .hdi a b d):=by
  intro c I J;cases c with
  |slice sz tag xs=>cases tag<;>simp only[hg]<;>first|(split<;>simp)|simp
  |hdm a b=>exact absurd rfl (I a b)
  |hdi a b d=>exact absurd rfl (J a b d)
  |_=>simp[hg]
 unfold h9 at h;split at h
 ·simp only[ht,hg,h9];exact⟨Dq bq ao az aI fy _ _ h.1,⟨by rw[xy];exact h.2.len,h.2.inc,h.2.lt⟩⟩
 ·simp only[ht,hg,h9];exact Dq bq ao az aI fy _ _ h
 ·rename_i hn fS;have hr:=Lr bq ao az aI fy _ _ h;rw[pw]
  ·exact hr
  ·exact yA hr
end
theorem XN(N:List aO)(cs:List al)(us:Array Value)(el:fT):iP (ht N cs) us el=iP cs us el:=by
 cases cs with
 |nil=>rfl
 |cons c r=>
  cases c with
  |slice sz tag xs=>
   cases tag with
   |tr k j=>by_cases aa:k∈N\/k=tZ<;>simp[ht,hg,iP,aa]
   |_=>rfl
  |_=>rfl
def Bv(N:List aO)(l:List (Nat×al)):List (Nat×al):=l.map fun x=>(x.1,hg N x.2)
def Bu(N:List aO)(l:List (aO×List al)):List (aO×List al):=l.map fun x=>(x.1,ht N x.2)
def Ed(N:List aO)(o:dU):dU:=⟨o.n,o.el,o.sz,o.xs.map (ht N)⟩
def zf(N:List aO)(rw:List aO)(l:List (aO×dU)):List (aO×dU):=(l.filter fun x=>decide (x.1∉rw)).map fun x=>(x.1,Ed N x.2)
theorem Qj(N:List aO)(i:Nat):∀l,get i (Bv N l)=hg N (get i l)
 |[]=>by simp[Bv,get,hg]
 |(j,p)::r=>by
  have bp:=Qj N i r;simp only[Bv,ek,get]at bp⊢;split
  ·rfl
  ·exact bp
theorem Kc(N:List aO)(k:aO):∀l,look k (Bu N l)=(look k l).map (ht N)
 |[]=>rfl
 |(j,p)::r=>by
  have bp:=Kc N k r;simp only[Bu,ek,look]at bp⊢;split
  ·rfl
  ·exact bp
theorem Kd(N rw:List aO)(k:aO):∀l,look k (zf N rw l)=if k∈rw then none else(look k l).map (Ed N)
 |[]=>by simp[zf,look]
 |(j,p)::r=>by
  have bp:=Kd N rw k r;simp only[zf]at bp⊢;by_cases aD:j∈rw
  ·rw[List.filter_cons_of_neg (by simpa using aD),bp];simp only[look];by_cases aa:k∈rw
   ·simp[aa]
   ·have:j≠k:=fun e=>aa (e▸aD);simp[aa,this]
  ·rw[List.filter_cons_of_pos (by simpa using aD)];simp only[ek,look];by_cases e:j=k
   ·subst e;simp[aD]
   ·rw[bo e,bp,bo e]
def zq(st:a6)(p:al):List aO:=(gB st.e p).map (·.1)
def zr(st:a6)(s:Nat):a6:=⟨put s (fold st.n st.e 0 (get s st.t)) (Bv (zq st (get s st.t)) st.t),Bu (zq st (get s st.t)) st.b,zf (zq st (get s st.t)) (fp (get s st.t)) st.e,st.n+1,st.o⟩
def BM(ob:List aO)(st:a6)(s:Nat):Prop:=iG st.e (get s st.t)/\(gB st.e (get s st.t)).Nodup/\(fp (get s st.t)).Nodup/\ .loc st.n∉st.o/\(∀k∈zq st (get s st.t),k∉ob)/\∀k∈fp (get s st.t),∃j,k= .loc j
def aW.fd(ν:aW)(R:Nat->Prop)(rw:List aO)(e:List (aO×dU))(T:List (Nat->Prop))(N:List aO)(n:Nat):aW:=
 {A:=fun b o=>ν.A b o\/ ∃k,k∈rw/\∃own,look k e=some own/\mL ν k b/\o<own.n*own.sz,
  bx:=ν.bx,ow:=ν.ow,
  tr:=fun k j b=>(k∉N/\ν.tr k j b)\/(k= .loc n/\∃S,T[j]? =some S/\S b)}
theorem aak{C:eI}{st:a6}{a:Act}{w:World}{ν:aW}(h:cv C st a w ν){s:Nat}(aH:BM C.ob st s):∃ν',cv C (zr st s) a w ν':=by
 obtain⟨ok,Kr,rd,xU,Q8,Q3⟩:=aH;unfold zr;generalize bn:get s st.t=p at ok Kr rd Q8 Q3⊢;have l7:aT w ν p (a.tmps.getD s undef):=by rw[<-bn];exact h.slot s
 let R:Nat->Prop:=fun b=> ∃k,k∈fp p/\mL ν k b
 have Fx:=h.new (.loc st.n) ⟨c7 _,xU⟩;have l6:∀k b,k∈fp p->mL ν k b->∃own,look k st.e=some own/\C.w0.heap.size<=b/\b<w.heap.size/\(∀k j,¬ν.tr k j b)/\(∀bz,(look bz st.b).isSome->ν.bx bz≠some b)/\∀g n v,(look g st.e).isSome->ν.ow g=some (n,v)->v.ownBlock=some b->g=k:=by rintro k b aa ⟨n,v,I,J⟩;obtain⟨own,sd⟩:=S7 _ ok k aa;obtain⟨j,rfl⟩:=Q3 k aa;exact⟨own,sd,h.fr.nrow j n v b I J,h.good.ownLt sd I J,h.good.otr b (.inr ⟨_,_,_,by simp[sd],I,J⟩),fun bz gV jR=>h.good.obx _ bz _ _ b (by simp[sd]) gV I J jR,fun g n' v' aR aB aU=>h.good.oinj g _ n' n v' v b aR (by simp[sd]) aB I aU J⟩
 have E1:AX ν R (fp p):=by refine⟨h.fr.trd,fun k bz b aa gV I J=>?_,fun k b aa h=>⟨k,aa,h⟩⟩;obtain⟨n,v,b4,a2⟩:=I;obtain⟨_,c8,_⟩:=l6 k b aa ⟨n,v,b4,a2⟩;obtain⟨_,_,_,_,_,_,c2⟩:=l6 bz b gV J;exact c2 k n v (by simp[c8]) b4 a2
 let N:=zq st p
 let μ:aW:=ν.fd R (fp p) st.e (e0 ν R st.e p) N st.n
 have bq:∀b o,ν.A b o->μ.A b o:=fun b o h=>.inl h;have fy:∀k,k∉N->∀j b,ν.tr k j b->μ.tr k j b:=fun k aa j b ao=>.inl ⟨aa,ao⟩;have abQ:∀q v,aT w ν q v->aT w μ (hg N q) v:=AG bq rfl rfl fy h.fr.trd;have abR:∀sz q v,cR w ν sz q v->cR w μ sz (ht N q) v:=fun sz=>Lp bq rfl rfl fy h.fr.trd sz;have Fq:∀(j:Nat) (S:Nat->Prop) (b:Nat),(e0 ν R st.e p)[j]? =some S->S b->(∃k∈fp p,mL ν k b)\/ ∃k i,(k,i)∈gB st.e p/\ν.tr k i b:=by
  intro j S b aD gR;rcases GW _ j S aD b gR with⟨k,aa,I⟩|⟨⟨k,i,I,J⟩,_⟩
  ·exact .inl ⟨k,aa,I⟩
  ·exact .inr ⟨k,i,I,J⟩
 have wj:∀k,(look k (Bu N st.b)).isSome->(look k st.b).isSome:=fun k aa=>by rw[Kc]at aa;simpa using aa
 have x0:∀k,(look k (zf N (fp p) st.e)).isSome->k∉fp p/\(look k st.e).isSome:=fun k aa=>by
  rw[Kd]at aa;split at aa
  ·cases aa
  ·rename_i e;exact⟨e,by simpa using aa⟩
 have Q9:∀g n v b,g∉fp p->(look g st.e).isSome->ν.ow g=some (n,v)->v.ownBlock=some b->∀k∈fp p,¬mL ν k b:=by intro g n v b aR aG aB aU k aa hr;obtain⟨_,_,_,_,_,_,c⟩:=l6 k b aa hr;exact aR (c g n v aG aB aU▸aa)
 have acg:aT w μ (fold st.n st.e 0 p) (a.tmps.getD s undef):=by refine IC (μ:=μ) h.good E1 (fun b bH=>?_) bq (fun k aa own sd b hL o az=>.inr ⟨k,aa,own,sd,hL,az⟩) p _ 0 l7 ok Kr (fun k aa=>aa) (fun i S aE b gR=>.inr ⟨rfl,S,by simpa using aE,gR⟩);obtain⟨k,aa,hL⟩:=bH;obtain⟨_,_,_,_,aS,_⟩:=l6 k b aa hL;exact aS
 refine⟨μ,⟨fun bl o bq=>?_,fun k cs aa=>?_,fun k bz bl I J=>h.good.inj k bz bl (wj k I) (wj bz J),fun g o aR=>?_,fun g eP n n' v v' bl I J=>h.good.oinj g eP n n' v v' bl (x0 g I).2 (x0 eP J).2,fun g k n v bl I J=>h.good.obx g k n v bl (x0 g I).2 (wj k J),h.good.one,fun bl aI k j adk=>?_⟩,
  ⟨h.fr.os,h.fr.tape,h.fr.output,h.fr.size,h.fr.block,fun b o bM=>⟨.inl (h.fr.keep b o bM).1,(h.fr.keep b o bM).2⟩,fun b o bM=>?_,h.fr.obj,h.fr.obn,h.fr.row,h.fr.obr,fun k j bz fb b I J=>?_,fun k j b ao=>?_,fun k j b ao=>?_,h.fr.sh,h.fr.nrow⟩,
  h.defers,h.size,fun i=>?_,fun k aa=>?_,fun x ad=>?_,fun m hm aY=>h.obk m hm (xI (Nat.le_succ _) (fun _ h=>h) aY)⟩
 ·rcases bq with bq|⟨k,aa,own,_,hL,_⟩
  ·exact h.good.alt bl o bq
  ·obtain⟨_,_,_,aA,_⟩:=l6 k bl aa hL;exact aA
 ·simp only at aa;rw[Kc]at aa;cases aG:look k st.b with
  |none=>rw[aG]at aa;cases aa
  |some dV=>
   rw[aG]at aa;simp only[oa,dH]at aa;subst aa;obtain⟨bl,us,el,aB,aU,b1,dN,hJ⟩:=h.good.box k dV aG;refine⟨bl,us,el,aB,aU,fun o bM=>?_,by rw[XN];exact dN,agX bq rfl rfl fy h.fr.trd hJ⟩;rcases bM with bM|⟨bz,gV,own,_,hL,_⟩
   ·exact b1 o bM
   ·obtain⟨_,_,_,_,_,bG,_⟩:=l6 bz bl gV hL;exact bG k (by simp[aG]) aB
 ·simp only at aR;have Jd:=x0 g (by rw[aR];rfl);rw[Kd,bo Jd.1]at aR;cases aG:look g st.e with
  |none=>rw[aG]at aR;cases aR
  |some nt=>
   rw[aG]at aR;simp only[oa,dH]at aR;subst aR;obtain⟨v,us,aB,aU,b1,dN⟩:=h.good.own g nt aG;have hM:∀bl,v.ownBlock=some bl->∀j,μ.A bl j->ν.A bl j:=by
    intro bl ao j bM;rcases bM with bM|⟨bz,gV,own,_,hL,_⟩
    ·exact bM
    ·exact absurd hL (Q9 g _ v bl Jd.1 Jd.2 aB ao bz gV)
   refine⟨v,us,aB,aU,fun bl ao=>⟨(b1 bl ao).1,fun j bM=>(b1 bl ao).2 j (hM bl ao j bM)⟩,fun xs ad=>?_⟩;simp only[Ed]at ad;cases nQ:nt.xs with
   |none=>rw[nQ]at ad;cases ad
   |some ys=>rw[nQ]at ad;simp only[oa,dH]at ad;subst ad;obtain⟨f1,f2,f3⟩:=dN ys nQ;exact⟨by rw[xy];exact f1,abR _ _ _ f2,fun bl ao j bM=>f3 bl ao j (hM bl ao j bM)⟩
 ·have hold:∀k j,¬ν.tr k j bl:=by refine h.good.otr bl (aI.imp (fun⟨k,b4,a2⟩=>⟨k,wj k b4,a2⟩) fun⟨g,n,v,b4,a2,a3⟩=>⟨g,n,v,(x0 g b4).2,a2,a3⟩)
  rcases adk with⟨_,ao⟩|⟨_,S,gR,ao⟩
  ·exact hold k j ao
  ·rcases Fq j S bl gR ao with⟨bz,gV,hr⟩|⟨bz,i,_,hL⟩
   ·rcases aI with⟨dj,b4,a2⟩|⟨g,n,v,b4,a2,a3⟩
    ·obtain⟨_,_,_,_,_,bG,_⟩:=l6 bz bl gV hr;exact bG dj (wj dj b4) a2
    ·exact Q9 g n v bl (x0 g b4).1 (x0 g b4).2 a2 a3 bz gV hr
   ·exact hold bz i hL
 ·rcases bM with bM|⟨k,aa,own,_,hL,_⟩
  ·exact h.fr.fresh b o bM
  ·obtain⟨_,_,J,_⟩:=l6 k b aa hL;exact .inr (.inr J)
 ·have mixed:∀(k:aO) (j fb:Nat) (S:Nat->Prop),k∉N->ν.tr k j b->(e0 ν R st.e p)[fb]? =some S->S b->dD:=by
   intro k j fb S aa ao gR hL;rcases Fq fb S b gR hL with⟨bz,gV,hr⟩|⟨bz,i,hm,nJ⟩
   ·obtain⟨_,_,_,_,aS,_⟩:=l6 bz b gV hr;exact aS k j ao
   ·obtain⟨rfl,_⟩:=h.fr.trd k j bz i b ao nJ;exact aa (n8.2 ⟨_,hm,rfl⟩)
  rcases I with⟨hn,ck⟩|⟨rfl,S,s1,ck⟩<;>rcases J with⟨fS,cr⟩|⟨rfl,lp,s2,cr⟩
  ·exact h.fr.trd k j bz fb b ck cr
  ·exact(mixed k j fb lp hn ck s2 cr).elim
  ·exact(mixed bz fb j S fS cr s1 ck).elim
  ·exact⟨rfl,U7 E1 p Kr rd (fun k aa=>aa) j fb S lp s1 s2 b ck cr⟩
 ·rcases ao with⟨_,ao⟩|⟨_,S,gR,ao⟩
  ·exact h.fr.trb k j b ao
  ·rcases Fq j S b gR ao with⟨bz,gV,hr⟩|⟨bz,i,hm,nJ⟩
   ·obtain⟨_,_,J,aA,_⟩:=l6 bz b gV hr;exact⟨.inr J,aA⟩
   ·have:=h.fr.trb bz i b nJ;exact⟨.inr (this.1.resolve_left (S6 _ ok _ hm)),this.2⟩
 ·rcases ao with⟨_,ao⟩|⟨rfl,_⟩
  ·exact h.fr.trn k j b ao
  ·exact⟨Fx.1,Fx.2.1⟩
 ·simp only[get_put];split
  ·rename_i e;subst e;exact acg
  ·rw[Qj];exact abQ _ _ (h.slot i)
 ·have aY:fresh st.n st.o k:=xI (Nat.le_succ _) (fun _ h=>h) aa;obtain⟨hn,fS,jb⟩:=h.new k aY;refine⟨hn,fS,fun j b ao=>?_⟩;rcases ao with⟨_,ao⟩|⟨rfl,_⟩
  ·exact jb j b ao
  ·have:=aa.1;simp only at this;omega
 ·obtain⟨aB,aU⟩:=h.ext x ad;refine⟨sF (S:=fun k=>k∉N) (w:=w) (ν:=ν) (w':=w) (ν':=μ) ⟨fun b o h=>⟨.inl h,rfl⟩,fun _ _ _ h=>h,fun g n u _ h=>⟨n,u,h,.inl ⟨rfl,rfl⟩⟩,fun _ _ _=>rfl,fun k j b aa ao=>.inl ⟨aa,ao⟩⟩ _ _ (u7 (fun k aa aJ=>Q8 k aJ aa) _ aU) aB,aU⟩
end
section
open Go Go.RowKit
def kX:List al->Prop
 |[]=>True
 |p::b2=>(match p with| .slice _ _ xs=>xs.length<=bs| .str s=>s.length<=bs|_=>True)/\kX b2
def kn:al->Prop
 | .slice _ _ xs=>xs.length<=bs
 | .str s=>s.length<=bs
 | .agg cs=>kX cs
 |_=>True
def lY:List al->Prop
 |[]=>True
 |p::r=>kn p/\lY r
theorem Lq{w:World}{ν:aW}:∀{cs:List al} {us:List Value},cK w ν cs us->kX cs
 |[],_,_=>trivial
 |c::cs,us,h=>by
  simp only[cK]at h;obtain⟨u,bI,_,I,J⟩:=h;refine⟨?_,Lq J⟩;cases c<;>simp only<;>have aA:=I.1<;>simp only[aT]at aA
  ·exact aA.2
  ·obtain⟨⟨a,cap,_,_,aS,_⟩,_⟩:=aA;exact aS.2
theorem UA{w:World}{ν:aW}{cs:List al}{us:List Value}(h:h9 w ν cs us):iH cs=true->kX cs:=fun bn=>by rw[pw bn]at h;exact Lq h
theorem UO{w:World}{ν:aW}{p:al}{v:Value}(h:aT w ν p v):kn p:=by
 cases p<;>simp only[kn]<;>simp only[aT]at h
 ·exact h.2
 ·obtain⟨⟨a,cap,_,_,aS,_⟩,_⟩:=h;exact aS.2
 ·obtain⟨us,_,J⟩:=h;exact Lq J
theorem UM{w:World}{ν:aW}:∀{cs:List al} {us:List Value},cw w ν cs us->lY cs
 |[],_,_=>trivial
 |c::cs,us,h=>by simp only[cw]at h;obtain⟨u,bI,_,I,J⟩:=h;exact⟨UO I,UM J⟩
inductive C where
 |skip
 |region (gs:List cT)
 |drawn (q:Bool) (N:Nat) (gs:List cT)
 |drawnW (nw:List Nat) (N:Nat) (gs:List cT)
 |seq (a b:C)
 |cond (x:cY) (t e:C)
 |block (id:Nat) (c:C)
 |loop (c:C)
 |exit (id:Nat)
 |ret
 |pub (s:Nat) (c:C)
 |pubB (s:Nat) (c:C)
 |fg (po:Bool) (s:Nat) (c:C)
 |fz (agg:Bool) (s:Nat) (c:C)
 |fd (s:Nat) (c:C)
 |no
def Dc(st:a6):al->a1 (al×List (aO×dU))
 | .row sz k n=>match look k st.e with
  |some ⟨n',el,dn,some xs⟩=>if n'=n/\dn=sz then some (.slice sz (.own k) xs,dd k ⟨n,el,sz,none⟩ st.e)else none
  |_=>none
 |_=>none
def vk(st:a6)(s:Nat):a1 a6:=
 match Dc st (get s st.t)with
 |some (p,e)=>some {st with t:=put s p st.t,e:=e}
 |none=>none
def wQ(st:a6)(s:Nat):a1 a6:=
 match get (s%1000) st.t with
 | .ptr k off=>match look k st.b with
  |some cs=>match cs[off+s/1000]? with
   |some p=>match Dc st p with
    |some (Ap,e)=>if iH cs then some {st with b:=dd k (cs.set (off+s/1000) Ap) st.b,e:=e}else none
    |none=>none
   |none=>none
  |none=>none
 |_=>none
theorem Lf{C:eI}{st:a6}{a:Act}{w:World}{ν:aW}(h:cv C st a w ν){s:Nat}{p:al}(au:aT w ν p (a.tmps.getD s undef)):cv C {st with t:=put s p st.t} a w ν:=by
 refine⟨h.good,h.fr,h.defers,h.size,fun i=>?_,h.new,h.ext,h.obk⟩;have:=h.slot i;simp only[get_put];split
 ·rename_i e;subst e;exact au
 ·exact this
theorem TF{C:eI}{st:a6}{a:Act}{w:World}{ν:aW}(h:cv C st a w ν){p Ap:al}{e:List (aO×dU)}{v:Value}(bn:aT w ν p v)(he:Dc st p=some (Ap,e)):
  ∃ν',cv C {st with e:=e} a w ν'/\aT w ν' Ap v/\lW w ν w ν':=by
 unfold Dc at he;split at he
 ·rename_i sz k n;split at he
  ·rename_i n' el dn xs aa;split at he
   ·rename_i aH;obtain⟨rfl,rfl⟩:=aH;cases he;simp only[aT]at bn;obtain⟨_,aG,n0,u,I,J,aA⟩:=bn;obtain⟨v0,eT,cz,db,eo,dC⟩:=h.good.own k _ aa;rw[I]at cz;simp only[dH,gz]at cz;obtain⟨rfl,rfl⟩:=cz;have aK:v=u:=aA rfl;subst aK;obtain⟨dc,_,_⟩:=dC xs rfl;simp only at dc;obtain⟨g1,g2⟩:=h.publish aa rfl I (by rw[dc];exact aG);refine⟨_,g1,g2,⟨fun b o bq=>⟨.inl bq,rfl⟩,fun j b _ aD=>aD,fun g n u _ iL=>⟨n,u,?_,.inl ⟨rfl,rfl⟩⟩,fun _ _ _=>rfl,fun _ _ _ _ h=>h⟩⟩;simp only[aW.withRowOf];split
    ·rename_i e;subst e;rw[I]at iL;exact iL
    ·exact iL
   ·cases he
  ·cases he
 ·cases he
def zs(po:Bool):al->al
 | .slice sz tag xs=>.slice sz (if po then tag else .no) (ca xs)
 |p=>cm p
theorem aal{w:World}{ν:aW}{po:Bool}{p:al}{v:Value}(h:aT w ν p v):aT w ν (zs po p) v:=by
 have I:=yC p v h;cases p with
 |slice sz tag xs=>
  simp only[zs];cases po with
  |false=>simpa only[kE,if_false,cm]using I
  |true=>
   simp only[if_true];simp only[aT,cm]at h I⊢;refine⟨I.1,fun e=>h.2.1 e,fun g e=>?_,fun k j e=>?_,fun k e=>?_⟩
   ·obtain⟨n,u,aB,aU,b1⟩:=h.2.2.1 g e;exact⟨n,u,aB,by rw[mM];exact aU,by rw[mM];exact b1⟩
   ·exact IE _ _ (h.2.2.2.1 k j e)
   ·exact IE _ _ (h.2.2.2.2 k e)
 |_=>exact I
theorem agd{C:eI}{st st':a6}{a:Act}{w:World}{ν:aW}(h:cv C st a w ν){s:Nat}(he:vk st s=some st'):∃ν',cv C st' a w ν':=by
 unfold vk at he;split at he
 ·rename_i p e bn;cases he;obtain⟨ν',I,J,_⟩:=TF h (h.slot s) bn;exact⟨_,Lf I J⟩
 ·cases he
theorem UJ{w:World}{ν:aW}:∀{cs:List al} {us:List Value} {i:Nat} {p q:al} {v:Value},cK w ν cs us->cs[i]? =some p->us[i]? =some v->aT w ν q v->cK w ν (cs.set i q) us
 |[],_,_,_,_,_,_,h,_,_=>by simp at h
 |c::cs,us,0,p,q,v,h,_,aK,bA=>by simp only[cK]at h;obtain⟨u,bI,rfl,I,J⟩:=h;simp only[List.getElem?_cons_zero,dH]at aK;subst aK;simp only[List.set_cons_zero,cK];exact⟨_,_,rfl,⟨bA,I.2⟩,J⟩
 |c::cs,us,i+1,p,q,v,h,bn,aK,bA=>by simp only[cK]at h;obtain⟨u,bI,rfl,I,J⟩:=h;simp only[List.set_cons_succ,cK];exact⟨_,_,rfl,I,UJ J (by simpa using bn) (by simpa using aK) bA⟩
theorem agc{C:eI}{st st':a6}{a:Act}{w:World}{ν:aW}(h:cv C st a w ν){s:Nat}(he:wQ st s=some st'):∃ν',cv C st' a w ν':=by
 unfold wQ at he;split at he
 ·rename_i k aeV aa;generalize aeV+s/1000=off at he;split at he
  ·rename_i cs da;split at he
   ·rename_i p bn;split at he
    ·rename_i Ap e Jw;split at he
     ·rename_i fx;cases he;obtain⟨bl,us,el,g1,g2,g3,g4,g5⟩:=h.good.box k cs da;rw[pw fx]at g5;have bY:off<us.toList.length:=by rw[pA g5];exact(eV.1 bn).1
      obtain⟨v,aK⟩:∃v,us.toList[off]? =some v:=⟨_,cS bY⟩;have JC:aT w ν p v:=by have:=AD off g5;rw[uk (eV.1 bn).1,uk bY]at this;simp only[cK]at this;obtain⟨u,bI,aB,aU,_⟩:=this;rw[(eV.1 bn).2]at aU;rw[(eV.1 aK).2]at aB;cases aB;exact aU.1
      obtain⟨ν',I,J,aA⟩:=TF h JC Jw;have ni:cK w ν' (cs.set off Ap) us.toList:=UJ (UI aA g5) bn aK J;have Rj:=yA ni;refine⟨ν',⟨I.good.alt,fun j dV aD=>?_,fun j fb b aD lA=>I.good.inj j fb b ?_ ?_,I.good.own,I.good.oinj,fun g j n v b aR aD=>I.good.obx g j n v b aR ?_,I.good.one,fun bl ao=>I.good.otr bl (ao.imp (fun⟨bz,b4,a2⟩=>⟨bz,by rw[jG]at b4;split at b4;(rename_i e;subst e;simp[da]);exact b4,a2⟩) id)⟩,I.fr,I.defers,I.size,I.slot,I.new,I.ext,I.obk⟩
      ·simp only at aD;rw[jG]at aD;split at aD
       ·rename_i e;subst e;cases aD;obtain⟨iy,bI,eO,f1,f2,f3,f4,f5⟩:=I.good.box k cs da;have:iy=bl:=by have:=aA.bx k bl trivial g1;rw[this]at f1;cases f1;rfl
        subst this;rw[qn fx]at g4 f4;rw[g4]at f4;injection f4 with f4;injection f4 with f4 f6 f7;refine⟨iy,us,el,f1,f2,f3,by rw[qn Rj];exact g4,by rw[pw Rj];exact ni⟩
       ·exact I.good.box j dV aD
      ·simp only at aD;rw[jG]at aD;split at aD
       ·rename_i e;subst e;simp[da]
       ·exact aD
      ·simp only at lA;rw[jG]at lA;split at lA
       ·rename_i e;subst e;simp[da]
       ·exact lA
      ·simp only at aD;rw[jG]at aD;split at aD
       ·rename_i e;subst e;simp[da]
       ·exact aD
     ·cases he
    ·cases he
   ·cases he
  ·cases he
 ·cases he
def tn{α:Type}(k:aO)(l:List (aO×α)):List (aO×α):=match l with
 |[]=>[]
 |(i,x)::r=>if i=k then tn k r else(i,x)::tn k r
theorem Ke{α:Type}(k j:aO):∀l:List (aO×α),look j (tn k l)=if j=k then none else look j l
 |[]=>by simp[tn,look]
 |(i,x)::r=>by
  simp only[tn];by_cases h:i=k
  ·subst h;rw[bP rfl,Ke i j r];by_cases J:j=i
   ·simp[J]
   ·have:¬i=j:=fun e=>J e.symm;simp[look,J,this]
  ·rw[bo h];simp only[look];by_cases J:i=j
   ·subst J;simp[h]
   ·simp only[J,if_false];exact Ke k j r
def IF(agg:Bool):List al->a1 al
 |[p]=>if agg then some (.agg [p])else some p
 |cs=>if agg then some (.agg cs)else none
def vY(st:a6)(agg:Bool)(s:Nat):a1 a6:=
 match get s st.t with
 | .ptr k 0=>match look k st.b with
  |some cs=>if iH cs then match IF agg cs with
    |some x=>some {st with t:=put s (.eptr x) st.t,b:=tn k st.b}
    |none=>none
   else none
  |none=>none
 |_=>none
theorem afY{u:Value}(h:u.oneCell'=true):u.cells.toList=[u]:=by cases u<;>first|rfl|(simp[Value.oneCell']at h)
theorem Sm{w:World}{A:Nat->Nat->Prop}{b:Nat}{us:Array Value}{el:fT}(ao:w.heap[b]? =some (.cells us el))(bq:∀o,o<us.size->A b o):∀(vs:List Value) (off:Nat),us.toList.drop off=vs->kx w A b off vs
 |[],_,_=>trivial
 |v::vs,off,h=>by
  have bY:off<us.toList.length:=by
   rcases lU off us.toList.length with I|I
   ·exact I
   ·rw[List.drop_eq_nil_of_le I]at h;cases h
  have J:=uk bY;rw[h]at J;injection J with J aA;refine⟨⟨bq off (by simpa using bY),?_⟩,Sm ao bq vs (off+1) aA.symm⟩;have acN:off<us.size:=by simpa using bY
  simp only[World.cell?,ao,um,kE,if_false];rw[J];simp[acN]
theorem aaz{C:eI}{st st':a6}{a:Act}{w:World}{ν:aW}(h:cv C st a w ν){agg:Bool}{s:Nat}(he:vY st agg s=some st'):∃ν',cv C st' a w ν':=by
 unfold vY at he;split at he
 ·rename_i k aa;split at he
  ·rename_i cs da;split at he
   ·rename_i fx;split at he
    ·rename_i x ad;cases he;obtain⟨bl,us,el,g1,g2,g3,g4,g5⟩:=h.good.box k cs da;rw[pw fx]at g5;rw[qn fx]at g4;have bY:bl<w.heap.size:=by
      rcases lU bl w.heap.size with I|I
      ·exact I
      ·rw[Array.getElem?_eq_none I]at g4;cases g4
     let ν':aW:={ν with A:=fun b o=>ν.A b o\/(b=bl/\o<us.size)}
     have az:lW w ν w ν':=⟨fun b o bq=>⟨.inl bq,rfl⟩,fun j b _ aD=>aD,fun g n u _ iL=>⟨n,u,iL,.inl ⟨rfl,rfl⟩⟩,fun _ _ _=>rfl,fun _ _ _ _ h=>h⟩;have iC:∀j dV,look j (tn k st.b)=some dV->j≠k/\look j st.b=some dV:=fun j dV aD=>by
      rw[Ke]at aD;split at aD
      ·cases aD
      ·rename_i e;exact⟨e,aD⟩
     have Fe:∀j,(look j (tn k st.b)).isSome->(look j st.b).isSome:=fun j aD=>by obtain⟨dV,h1⟩:=fG.1 aD;simp[(iC j dV h1).2]
     have oD:∀(g:aO) (n:Nat) (v:Value),(look g st.e).isSome->ν.ow g=some (n,v)->v.ownBlock=some bl->dD:=fun g n v I J aA=>h.good.obx g k n v bl I (by simp[da]) J aA g1;have mG:aT w ν' (.eptr x) (a.tmps.getD s undef):=by
      have au:=h.slot s;rw[aa]at au;simp only[aT]at au⊢;obtain⟨fN,cz,db⟩:=au;rw[g1]at cz;cases cz;have aG:kx w ν'.A bl 0 us.toList:=Sm g4 (fun o az=>.inr ⟨rfl,az⟩) _ 0 rfl;have g6:cK w ν' cs us.toList:=UI az g5;unfold IF at ad;split at ad
      ·rename_i p;simp only[cK]at g6;obtain⟨u,bI,aB,aU,b1⟩:=g6;subst b1;split at ad
       ·cases ad;exact⟨bl,0,.agg us,db,by simp only[aT];exact⟨us,rfl,by rw[aB];simp only[cK];exact⟨u,[],rfl,aU,rfl⟩⟩,by simpa[mf]using aG⟩
       ·cases ad;refine⟨bl,0,u,db,aU.1,?_⟩;rw[afY aU.2,<-aB];exact aG
      ·split at ad
       ·cases ad;exact⟨bl,0,.agg us,db,by simp only[aT];exact⟨us,rfl,g6⟩,by simpa[mf]using aG⟩
       ·cases ad
     refine⟨ν',Lf (ν:=ν') (st:={st with b:=tn k st.b}) ⟨⟨fun b o bq=>?_,fun j dV aD=>?_,fun j fb b I J=>h.good.inj j fb b (Fe j I) (Fe fb J),fun g o aR=>?_,h.good.oinj,fun g j n v b I J=>h.good.obx g j n v b I (Fe j J),h.good.one,fun b aI=>h.good.otr b (aI.imp (fun⟨j,b4,a2⟩=>⟨j,Fe j b4,a2⟩) id)⟩,⟨h.fr.os,h.fr.tape,h.fr.output,h.fr.size,h.fr.block,fun b o bq=>⟨.inl (h.fr.keep b o bq).1,(h.fr.keep b o bq).2⟩,fun b o bq=>?_,h.fr.obj,h.fr.obn,h.fr.row,h.fr.obr,h.fr.trd,h.fr.trb,h.fr.trn,h.fr.sh,h.fr.nrow⟩,h.defers,h.size,fun i=>vt az (h.slot i),h.new,fun x ad=>⟨vt az (h.ext x ad).1,(h.ext x ad).2⟩,h.obk⟩ mG⟩
     ·rcases bq with bq|⟨rfl,_⟩
      ·exact h.good.alt b o bq
      ·exact bY
     ·obtain⟨cD,lA⟩:=iC j dV aD;obtain⟨iy,bI,eO,f1,f2,f3,f4,f5⟩:=h.good.box j dV lA;refine⟨iy,bI,eO,f1,f2,fun o bq=>?_,f4,pz az f5⟩;rcases bq with bq|⟨rfl,_⟩
      ·exact f3 o bq
      ·exact cD (h.good.inj j k _ (by simp[lA]) (by simp[da]) f1 g1)
     ·obtain⟨v0,eT,aB,aU,b1,dN⟩:=h.good.own g o aR;have wb:∀b,v0.ownBlock=some b->∀j,ν'.A b j->ν.A b j:=fun b ao j bq=>by
       rcases bq with bq|⟨rfl,_⟩
       ·exact bq
       ·exact(oD g _ v0 (by simp[aR]) aB ao).elim
      exact⟨v0,eT,aB,aU,fun b ao=>⟨(b1 b ao).1,fun j bq=>(b1 b ao).2 j (wb b ao j bq)⟩,rj az wb dN⟩
     ·rcases bq with bq|⟨rfl,_⟩
      ·exact h.fr.fresh b o bq
      ·exact .inr g2
    ·cases he
   ·cases he
  ·cases he
 ·cases he
def sE(st:a6)(x:cY)(b:Bool):a6:=match x with
 | .t i=>{st with t:=put i (.bool b) st.t}
 | .c _=>st
def qk(nw:List Nat)(o:List aO):List Nat:=nw.filter fun j=>decide (aO.obj j∉o)
theorem aeK{nw:List Nat}{o:List aO}:∀j∈qk nw o,aO.obj j∉o:=fun j aD=>by have:=(List.mem_filter.1 aD).2;simpa using this
def cL(P:b3)(ob:List aO):C->(Exit->a6->Prop)->a6->Prop
 | .skip,Q,st=>Q .normal st
 | .region gs,Q,st=>hh P ob gs st (Q .normal)
 | .drawn q N gs,Q,st=>hU P q [] st.n gs st (uo (st.n+N) st.o (Q .normal))
 | .drawnW nw N gs,Q,st=>hU P false (qk nw st.o) st.n gs st (uo (st.n+N) ((qk nw st.o).map aO.obj++st.o) (Q .normal))
 | .seq a b,Q,st=>cL P ob a (fun e st'=>match e with| .normal=>cL P ob b Q st'|e=>Q e st') st
 | .cond x t e,Q,st=>match bQ st.t x with
  | .bool b=>(b=true->cL P ob t Q (sE st x true))/\(b=false->cL P ob e Q (sE st x false))
  |_=>dD
 | .block id c,Q,st=>cL P ob c (fun e st'=>match e with| .exit j=>if j=id then Q .normal st' else Q (.exit j) st'|e=>Q e st') st
 | .loop c,Q,st=> ∃(jz:Nat->a6->Prop) (m:Nat) (wY:a6),mm ob st wY/\jz m wY/\
   ∀k s,jz k s->(∀i,kn (get i s.t))->(∀j cs,look j s.b=some cs->iH cs=true->kX cs)->cL P ob c (fun e aq=>match e with| .normal=> ∃bz oU,bz<k/\mm ob aq oU/\jz bz oU|e=>Q e aq) s
 | .exit id,Q,st=>Q (.exit id) st
 | .ret,Q,st=>Q .ret st
 | .pub s c,Q,st=>match vk st s with
  |some st'=>cL P ob c Q st'
  |none=>dD
 | .pubB s c,Q,st=>match wQ st s with
  |some st'=>cL P ob c Q st'
  |none=>dD
 | .fg po s c,Q,st=>cL P ob c Q {st with t:=put s (zs po (get s st.t)) st.t}
 | .fd s c,Q,st=>BM ob st s/\cL P ob c Q (zr st s)
 | .fz eJ s c,Q,st=>match vY st eJ s with
  |some st'=>cL P ob c Q st'
  |none=>dD
 | .no,_,_=>dD
def gU(N:Nat)(bu:List (Nat×dt)):C->Code->Bool
 | .skip,.skip=>true
 | .region gs,.region _ ops false=>ko N bu ops.toList gs ops.toList
 | .drawn _ N' gs,.region _ ops true=>N'==N&&ko N bu ops.toList gs ops.toList&&Bk gs ops.toList&&zi N gs
 | .drawnW _ N' gs,.region _ ops true=>N'==N&&ko N bu ops.toList gs ops.toList&&Bk gs ops.toList&&zi N gs
 | .seq a b,.seq x y=>gU N bu a x&&gU N bu b y
 | .cond x t e,.cond o eH jk=>dX x o&&gU N bu t eH&&gU N bu e jk
 | .block id c,.block CG iA=>id==CG&&gU N bu c iA
 | .loop c,.loop iA=>gU N bu c iA
 | .exit id,.exit CG=>id==CG
 | .ret,.ret=>true
 | .pub _ c,iA=>gU N bu c iA
 | .pubB _ c,iA=>gU N bu c iA
 | .fg _ _ c,iA=>gU N bu c iA
 | .fz _ _ c,iA=>gU N bu c iA
 | .fd _ c,iA=>gU N bu c iA
 | .no,_=>true
 |_,_=>false
theorem Qs{N:Nat}{bu:List (Nat×dt)}{ops:List Oper}:∀{gs:List cT} {os:List Oper},ko N bu ops gs os=true->gs.length=os.length
 |[],[],_=>rfl
 |[],_::_,h=>by simp[ko]at h
 |_::_,[],h=>by simp[ko]at h
 |g::gs,o::os,h=>by simp only[ko,bF]at h;simp[Qs h.2]
def MO(P:b3)(C:eI)(c:Code)(Q:Exit->a6->Prop)(st:a6):Prop:= ∀a w ν,cv C st a w ν->c.wp P (fun e c1 w'=> ∃st' ν',Q e st'/\cv C st' c1 w' ν') a w
theorem qV{P:b3}(hm:P.follows .mixedOrders=true){bu:List (Nat×dt)}(aI:e7 P bu=true){X:eI}:∀(c:C) (code:Code) (Q:Exit->a6->Prop) (st:a6),gU X.N bu c code=true->cL P X.ob c Q st->MO P X code Q st
 | .skip,code,Q,st,az,he=>by
  cases code<;>simp only[gU]at az<;>try cases az
  intro a w ν hr;exact wp_skip ⟨st,ν,he,hr⟩
 | .region gs,code,Q,st,az,he=>by
  cases code<;>try(simp[gU]at az;done)
  rename_i id ops draw;cases draw<;>simp only[gU]at az
  ·intro a w ν hr;refine wp_region ?_;have aG:gs.length=ops.size:=by simpa using Qs az
   rw[List.range_eq_range',<-aG];exact Ps aI (K:=Q .normal) (fun st' c1 w' ν' I J=>⟨st',ν',I,J⟩) gs ops.toList 0 Ψ az st a w ν he hr
  ·cases az
 | .drawn q N gs,code,Q,st,az,he=>by
  cases code<;>try(simp[gU]at az;done)
  rename_i id ops draw;cases draw<;>simp only[gU]at az
  ·cases az
  ·simp only[bF,dK]at az;obtain⟨⟨⟨rfl,I⟩,J⟩,aA⟩:=az;intro a w ν hr;exact Pq hm aI I J aA (nw:=[]) (K:=Q .normal) (fun st' c1 w' ν' I J=>⟨st',ν',I,J⟩) Ψ he hr
 | .drawnW nw N gs,code,Q,st,az,he=>by
  cases code<;>try(simp[gU]at az;done)
  rename_i id ops draw;cases draw<;>simp only[gU]at az
  ·cases az
  ·simp only[bF,dK]at az;obtain⟨⟨⟨rfl,I⟩,J⟩,aA⟩:=az;intro a w ν hr;exact Pq hm aI I J aA (nw:=qk nw st.o) (K:=Q .normal) (fun st' c1 w' ν' I J=>⟨st',ν',I,J⟩) aeK he hr
 | .seq x y,code,Q,st,az,he=>by
  cases code<;>try(simp[gU]at az;done)
  rename_i tj lu;simp only[gU,bF]at az;intro a w ν hr;refine wp_seq ?_;have I:=qV hm aI x tj _ st az.1 he a w ν hr;refine wp_mono I fun e c1 w' bX=>?_;obtain⟨st',ν',bA,dA⟩:=bX;cases e with
  |normal=>exact qV hm aI y lu Q st' az.2 bA c1 w' ν' dA
  |_=>exact⟨st',ν',bA,dA⟩
 | .cond x t e,code,Q,st,az,he=>by
  cases code<;>try(simp[gU]at az;done)
  rename_i o XV ce;simp only[gU,bF]at az;intro a w ν hr;simp only[cL]at he;have ad:=dY hr az.1.1;split at he
  ·rename_i b ao;rw[ao]at ad;simp only[aT]at ad;have Cq:cv X (sE st x b) a w ν:=by
    unfold sE;split
    ·exact Ld hr (by simpa[bQ]using ao)
    ·exact hr
   refine wp_cond ad ?_;cases b
   ·exact qV hm aI e ce Q _ az.2 (he.2 rfl) a w ν Cq
   ·exact qV hm aI t XV Q _ az.1.2 (he.1 rfl) a w ν Cq
  ·exact he.elim
 | .block id c,code,Q,st,az,he=>by
  cases code<;>try(simp[gU]at az;done)
  rename_i CG iA;simp only[gU,bF,dK]at az;obtain⟨rfl,az⟩:=az;intro a w ν hr;refine wp_block ?_;refine wp_mono (qV hm aI c iA _ st az he a w ν hr) fun e c1 w' bX=>?_;obtain⟨st',ν',bA,dA⟩:=bX;cases e with
  |exit j=>
   simp only[Exit.inBlock]at bA⊢;by_cases aD:j=id
   ·rw[bP aD]at bA⊢;exact⟨st',ν',bA,dA⟩
   ·rw[bo aD]at bA⊢;exact⟨st',ν',bA,dA⟩
  |_=>exact⟨st',ν',bA,dA⟩
 | .loop c,code,Q,st,az,he=>by
  cases code<;>try(simp[gU]at az;done)
  rename_i iA;simp only[gU]at az;intro a w ν hr;simp only[cL]at he;obtain⟨jz,m,wY,hw,aE,sk⟩:=he;refine wp_loop_ghost (fun k a w=> ∃s ν,jz k s/\cv X s a w ν) m ⟨wY,_,aE,hr.weaker hw⟩ ?_;intro k a w uL;obtain⟨s,ν,au,yb⟩:=uL;have I:=sk k s au (fun i=>UO (yb.slot i)) (fun j cs aD=>by obtain⟨bl,us,el,_,_,_,_,g5⟩:=yb.good.box j cs aD;exact UA g5);refine wp_mono (qV hm aI c iA _ s az I a w ν yb) fun e c1 w' bX=>?_;obtain⟨st',ν',bA,dA⟩:=bX;cases e with
  |normal=>obtain⟨bz,oU,aB,aU,b1⟩:=bA;exact⟨bz,aB,oU,_,b1,dA.weaker aU⟩
  |_=>exact⟨st',ν',bA,dA⟩
 | .exit id,code,Q,st,az,he=>by
  cases code<;>try(simp[gU]at az;done)
  rename_i CG;simp only[gU,dK]at az;subst az;intro a w ν hr;exact wp_exit ⟨st,ν,he,hr⟩
 | .ret,code,Q,st,az,he=>by
  cases code<;>try(simp[gU]at az;done)
  intro a w ν hr;exact wp_ret ⟨st,ν,he,hr⟩
 | .pub s c,code,Q,st,az,he=>by
  simp only[gU]at az;simp only[cL]at he;split at he
  ·rename_i st' au;intro a w ν hr;obtain⟨ν',I⟩:=agd hr au;exact qV hm aI c code Q st' az he a w ν' I
  ·exact he.elim
 | .pubB s c,code,Q,st,az,he=>by
  simp only[gU]at az;simp only[cL]at he;split at he
  ·rename_i st' au;intro a w ν hr;obtain⟨ν',I⟩:=agc hr au;exact qV hm aI c code Q st' az he a w ν' I
  ·exact he.elim
 | .fg po s c,code,Q,st,az,he=>by simp only[gU]at az;simp only[cL]at he;intro a w ν hr;exact qV hm aI c code Q _ az he a w ν (Lf hr (aal (hr.slot s)))
 | .fd s c,code,Q,st,az,he=>by simp only[gU]at az;simp only[cL]at he;intro a w ν hr;obtain⟨ν',I⟩:=aak hr he.1;exact qV hm aI c code Q _ az he.2 a w ν' I
 | .fz eJ s c,code,Q,st,az,he=>by
  simp only[gU]at az;simp only[cL]at he;intro a w ν hr;split at he
  ·rename_i st' eA;obtain⟨ν',I⟩:=aaz hr eA;exact qV hm aI c code Q st' az he a w ν' I
  ·exact he.elim
 | .no,code,Q,st,az,he=>by simp only[cL]at he
inductive cu where
 |tmp (i:Nat)
 |cell (i:Nat) (agg:Bool) (sz:Nat)
def bh(st:a6):cu->a1 (Prop×al)
 | .tmp i=>some (True,get i st.t)
 | .cell i agg sz=>mH st.b st.e agg sz (get i st.t)
def bg(st:a6):List cu->a1 (Prop×List al)
 |[]=>some (True,[])
 |r::e6=>match bh st r,bg st e6 with
  |some (c,p),some (iA,b2)=>some (c/\iA,p::b2)
  |_,_=>none
def qq(bu:List (Nat×dt)):List cu->List ResultVar->Bool
 |[],[]=>true
 | .tmp i::e6,.tmp j::os=>i==j&&qq bu e6 os
 | .cell i agg sz::e6,.cell j t::os=>i==j&&(match dJ bu t with|some f=>f.size==sz&&f.kind.isAgg==agg|none=>false)&&qq bu e6 os
 |_,_=>false
def bf:List al->al
 |[p]=>p
 |b2=>.tuple b2
def GO(tmps:Array Value):ResultVar->Sem Value
 | .tmp t=>pure (tmps.getD t undef)
 | .cell x t=>do loadVar t (<-asAddr (tmps.getD x undef))
theorem ag1(fn:Func)(tmps:Array Value):results fn tmps=(do let vs<-fn.results.mapM (GO tmps);pure (if h:vs.size=1 then vs[0]else .tuple vs)):=by unfold results;congr 2
theorem Lv{P:b3}{bu:List (Nat×dt)}(aI:e7 P bu=true){X:eI}{st:a6}{a:Act}{w:World}{ν:aW}(hr:cv X st a w ν):
  ∀(e6:List cu) (os:List ResultVar) (c:Prop) (b2:List al),qq bu e6 os=true->bg st e6=some (c,b2)->c->
  ∃vs,(os.mapM (GO a.tmps)).run P w= .ok vs w/\cw w ν b2 vs
 |[],[],c,b2,_,he,_=>by simp only[bg]at he;cases he;exact⟨[],Ψ,by simp[cw]⟩
 |[],_::_,_,_,az,_,_=>by simp[qq]at az
 | .tmp _::_,[],_,_,az,_,_=>by simp[qq]at az
 | .cell _ _ _::_,[],_,_,az,_,_=>by simp[qq]at az
 |r::e6,o::os,c,b2,az,he,aH=>by
  simp only[bg]at he;split at he
  ·rename_i c8 p c2 TE I J;cases he;cases r with
   |tmp i=>
    cases o with
    |cell _ _=>simp[qq]at az
    |tmp j=>simp only[qq,bF,dK]at az;obtain⟨rfl,az⟩:=az;simp only[bh]at I;cases I;obtain⟨vs,g1,g2⟩:=Lv aI hr e6 os c2 TE az J aH.2;refine⟨a.tmps.getD i undef::vs,?_,by simp only[cw];exact⟨_,_,rfl,hr.slot i,g2⟩⟩;simp only[List.mapM_cons,e4,GO,fO,e8,g1]
   |cell i agg sz=>
    cases o with
    |tmp _=>simp[qq]at az
    |cell j t=>
     simp only[qq,bF,dK]at az;obtain⟨⟨rfl,aA⟩,az⟩:=az;split at aA
     ·rename_i f aY;simp only[bF,dK]at aA;obtain⟨rfl,rfl⟩:=aA;simp only[bh]at I;obtain⟨vs,g1,g2⟩:=Lv aI hr e6 os c2 TE az J aH.2;obtain⟨v,f1,f2⟩:=FT aI hr.good aY (hr.slot i) I aH.1;have Cn:∃lX,a.tmps.getD i undef= .pointer (some lX):=by
       have au:=hr.slot i;unfold mH at I;split at I
       ·rename_i dn k n k9 iJ aa;rw[aa]at au;simp only[aT]at au;obtain⟨⟨b,o,e⟩,_⟩:=au;exact⟨_,e⟩
       ·rename_i k off aa;rw[aa]at au;simp only[aT]at au;obtain⟨b,_,e⟩:=au;exact⟨_,e⟩
       ·rename_i q aa;rw[aa]at au;simp only[aT]at au;obtain⟨b,off,u,e,_⟩:=au;exact⟨_,e⟩
       ·cases I
      obtain⟨lX,QF⟩:=Cn;rw[QF]at f1;simp only[Instr.loadAt,Instr.sureAddr,e4,fO,e8]at f1;refine⟨v::vs,?_,by simp only[cw];exact⟨_,_,rfl,f2,g2⟩⟩;have abF:(asAddr (.pointer (some lX)):Sem Addr).run P w= .ok lX w:=rfl;simp only[List.mapM_cons,e4,GO,fO,e8,g1,QF,abF,f1]
     ·cases aA
  ·cases he
theorem Dr{w:World}{ν:aW}:∀{b2:List al} {vs:List Value},cw w ν b2 vs->vs.length=b2.length
 |[],vs,h=>by simp only[cw]at h;subst h;rfl
 |p::b2,vs,h=>by simp only[cw]at h;obtain⟨u,bI,rfl,_,J⟩:=h;simp[Dr J]
def kA:Nat->List al->List (Nat×al)
 |_,[]=>[]
 |i,p::b2=>(i,p)::kA (i+1) b2
theorem EM:∀(b2:List al) (i j:Nat),get j (kA i b2)=if i<=j/\j<i+b2.length then b2.getD (j-i) .junk else .junk
 |[],i,j=>by simp[kA,get]
 |p::b2,i,j=>by
  simp only[kA,get];by_cases h:i=j
  ·subst h;simp
  ·rw[bo h,EM b2 (i+1) j];by_cases J:i<=j/\j<i+(p::b2).length
   ·rw[bP J,bP (by simp at J⊢;omega)];have:j-i=(j-(i+1))+1:=Ω
    rw[this];simp
   ·rw[bo J,bo (by simp at J⊢;omega)]
def gE{α:Type}(aq:dF):List (aO×α)->Prop
 |[]=>True
 |(k,_)::r=>ag aq k/\gE aq r
theorem CM{α:Type}{aq:dF}:∀{l:List (aO×α)},gE aq l->∀k,(look k l).isSome->ag aq k
 |[],_,k,h=>by simp[look]at h
 |(i,x)::r,aa,k,h=>by
  simp only[gE]at aa;simp only[look]at h;split at h
  ·rename_i e;subst e;exact aa.1
  ·exact CM aa.2 k h
def bL(e6:List cu)(s:dF)(Q:al->dF->Prop)(e:Exit)(st:a6):Prop:=
 (e= .ret\/e= .normal)/\match bg st e6 with
  |some (c,b2)=>c/\∃aq,gE aq s.b/\gE aq s.e/\oX (ag aq) aq.b st.b/\oY (ag aq) aq.e st.e/\jc aq/\ak (ag aq) (cm (bf b2))/\Q (cm (bf b2)) aq
  |none=>dD
theorem bJ.ofW{P:b3}{bu:List (Nat×dt)}(aI:e7 P bu=true){f:FuncId}{fn:Func}(aY:P.funcs[f]? =some fn){code:Code}(ao:fn.body=some code)(iD:(fn.name== "runtime.NumGoroutine")=false){e6:List cu}(yb:qq bu e6 fn.results.toList=true)
  {args:List al} (aG:args.length<=fn.ntmps) {s:dF} (p8:jc s) {Q:al->dF->Prop} (he:∀X:eI,X.N=fn.ntmps->X.ob=gj s->X.ex=[]->(∀b o,X.ν0.A b o->b<X.w0.heap.size)->lY args->(∀j cs,look j s.b=some cs->iH cs=true->kX cs)->MO P X code (bL e6 s Q) ⟨kA 0 args,s.b,s.e,0,gj s⟩):bJ P f args s Q:=by
 intro w ν vs gl aR ad hr;refine .inl ⟨⟨fn,aY,by simp[ao],iD⟩,?_⟩;have pj:=Dr hr;have gh:vs.size=args.length:=by simpa using pj
 let X:eI:=⟨w,ν,gn ν s,fn.ntmps,gj s,gl,[]⟩
 have nh:∀k,fresh 0 (gj s) k->ν.bx k=none/\ν.ow k=none/\∀j b,¬ν.tr k j b:=by
  intro k aa;cases k with
  |loc m=>exact⟨(ad _).1 (p8.1 m),(ad _).2.1 (p8.2 m),(ad _).2.2⟩
  |obj m=>
   simp only[fresh,true_and]at aa;refine⟨?_,?_,(ad _).2.2⟩
   ·refine(ad _).1 ?_;cases h:look (.obj m) s.b with
    |none=>rfl
    |some x=>exact absurd (Ai (.inl (by simp[h]))) aa
   ·refine(ad _).2.1 ?_;cases h:look (.obj m) s.e with
    |none=>rfl
    |some x=>exact absurd (Ai (.inr (by simp[h]))) aa
 have oF:∀m,(ν.bx (.obj m)≠none\/ν.ow (.obj m)≠none)-> .obj m∈gj s:=by
  intro m hm;refine Classical.byContradiction fun aH=>?_;obtain⟨I,J,_⟩:=nh (.obj m) ⟨trivial,aH⟩;rcases hm with hm|hm
  ·exact hm I
  ·exact hm J
 have p7:cv X ⟨kA 0 args,s.b,s.e,0,gj s⟩ {tmps:=vs++Array.replicate (fn.ntmps-vs.size) undef,defers:=[]} w ν:=by
  refine⟨⟨aR.alt,fun k cs aa=>?_,aR.inj,fun g o eL=>?_,aR.oinj,aR.obx,aR.one,aR.otr⟩,⟨rfl,rfl,rfl,c7 _,fun _ _ _=>rfl,fun b o h=>⟨h,rfl⟩,fun b o h=>.inl h,fun n b h=>h,fun n b h=>oF n (.inl (by rw[h];simp)),fun m n u h=>⟨n,u,h,.inl ⟨rfl,rfl⟩⟩,fun m n u h=>oF m (.inr (by rw[h];simp)),fun k j _ _ b h=>absurd h ((ad k).2.2 j b),fun k j b h=>absurd h ((ad k).2.2 j b),fun k j b h=>absurd h ((ad k).2.2 j b),fun _ _ _=>rfl,fun j n u b aB _=>(by rw[(ad _).2.1 (p8.2 j)]at aB;cases aB)⟩,rfl,?_,fun i=>?_,nh,fun _ ad=>(by cases ad),fun m hm aY=>aY.2 hm⟩
  ·obtain⟨bl,us,el,g1,g2,g3⟩:=aR.box k cs aa;exact⟨bl,us,el,g1,.inl g2,g3⟩
  ·obtain⟨v,us,g1,g2,g3,g4⟩:=aR.own g o eL;exact⟨v,us,g1,g2,fun bl eE=>⟨.inl (g3 bl eE).1,(g3 bl eE).2⟩,g4⟩
  ·show(vs++Array.replicate (fn.ntmps-vs.size) undef).size=fn.ntmps;simp;omega
  ·rw[EM];by_cases aE:i<args.length
   ·rw[bP Ω];have uT:args[i]? =some args[i]:=cS aE;obtain⟨v,aB,aU⟩:=GI i hr uT;have aK:(vs++Array.replicate (fn.ntmps-vs.size) undef).getD i undef=v:=by
     have Eo:vs[i]? =some v:=by simpa using aB
     rw[Array.getD_eq_getD_getElem?,Array.getElem?_append_left Ω,Eo];rfl
    show aT w ν _ ((vs++Array.replicate (fn.ntmps-vs.size) undef).getD i undef);rw[aK];simpa[List.getD,uT]using aU
   ·rw[bo Ω];simp[aT]
 have adr:=he X rfl rfl rfl aR.alt (UM hr) (fun j cs aD=>by obtain⟨bl,us,el,_,_,_,_,g5⟩:=aR.box j cs aD;exact UA g5) _ w ν p7;refine calls_of_wp aY ao (wp_mono adr fun e c1 w' bX=>?_);obtain⟨st',ν',⟨k0,bA⟩,dA⟩:=bX;cases k6:bg st' e6 with
 |none=>simp[k6]at bA
 |some x=>
  obtain⟨iA,b2⟩:=x;simp only[k6]at bA;obtain⟨nd,aq,kb,ke,cz,db,eo,dC,dc⟩:=bA;obtain⟨wV,g1,g2⟩:=Lv aI dA e6 fn.results.toList iA b2 yb k6 nd;have ac7:=Dr g2;have iZ:c1.defers=[]/\∃v,(results fn c1.tmps).run P w'= .ok v w'/\(fun(e:Ending) w'=> ∃v r aq ν',e= .returned v/\Q r aq/\aT w' ν' r v/\Good (fun bl=>gn ν s bl\/w.heap.size<=bl) w' ν' aq.b aq.e/\qW ν' aq/\jc aq/\qG ⟨w,ν,gn ν s,0,gj s,gl,[]⟩ w' ν') (.returned v) w':=by
   refine⟨dA.defers,?_⟩;have hA:(results fn c1.tmps).run P w'= .ok (if h:wV.toArray.size=1 then wV.toArray[0]else .tuple wV.toArray) w':=by rw[ag1];simp only[e4,Array.mapM_eq_mapM_toList,Sem.run_map,g1,e8,fO]
   refine⟨_,hA,_,cm (bf b2),aq,ν'.cut (ag aq),rfl,dc,?_,dA.good.cut cz db (fun bl h _=>h),?_,eo,?_⟩
   ·have kh:aT w' ν' (bf b2) (if h:wV.toArray.size=1 then wV.toArray[0]else .tuple wV.toArray):=by
     match b2,wV,g2,ac7 with
     |[p],[v],g2,_=>simp only[cw]at g2;obtain⟨u,bI,aB,aU,_⟩:=g2;cases aB;simpa[bf]using aU
     |[],[],g2,_=>simp[bf,aT,cw]
     |p::gv::b2,v::v2::wV,g2,_=>rw[dif_neg Ψ];simp only[bf,aT];exact⟨_,rfl,by simpa using g2⟩
     |[_],[],_,h=>simp at h
     |[],_::_,_,h=>simp at h
     |[_],_::_::_,_,h=>simp at h
     |_::_::_,[],_,h=>simp at h
     |_::_::_,[_],_,h=>simp at h
    exact sF (oe.cut _ w' ν') _ _ dC (yC _ _ kh)
   ·intro k;refine⟨?_,?_,?_⟩;rotate_left 2
    ·rintro j b ⟨au,ao⟩;obtain⟨t1,t2⟩:=dA.fr.trn k j b ao;rcases au with au|au<;>obtain⟨x,qa⟩:=fG.1 au
     ·obtain⟨bl,bI,el,aB,_⟩:=dA.good.box k x (cz k x qa).1;rw[t1]at aB;cases aB
     ·obtain⟨v',bI,aB,_⟩:=dA.good.own k x (db k x qa).1;rw[t2]at aB;cases aB
    ·intro aa;by_cases au:ag aq k
     ·rw[aW.cut_bx au];rcases au with au|au
      ·rw[aa]at au;cases au
      ·obtain⟨x,qa⟩:=fG.1 au;obtain⟨v',bI,aB,_⟩:=dA.good.own k x (db k x qa).1;rcases dA.good.one k with I|I
       ·exact I
       ·rw[I]at aB;cases aB
     ·exact(aW.cut_no au).1
    ·intro aa;by_cases au:ag aq k
     ·rw[aW.cut_ow au];rcases au with au|au
      ·obtain⟨x,qa⟩:=fG.1 au;obtain⟨bl,bI,el,aB,_⟩:=dA.good.box k x (cz k x qa).1;rcases dA.good.one k with I|I
       ·rw[I]at aB;cases aB
       ·exact I
      ·rw[aa]at au;cases au
     ·exact(aW.cut_no au).2.1
   ·refine⟨dA.fr.os,dA.fr.tape,dA.fr.output,dA.fr.size,dA.fr.block,dA.fr.keep,dA.fr.fresh,fun n b h=>?_,fun n b h=>oF n (.inl (by rw[h];simp)),fun m n u h=>?_,fun m n u h=>oF m (.inr (by rw[h];simp)),fun k j bz fb b I J=>dA.fr.trd k j bz fb b I.2 J.2,fun k j b ao=>dA.fr.trb k j b ao.2,fun k j b ao=>(by rw[aW.cut_bx ao.1,aW.cut_ow ao.1];exact dA.fr.trn k j b ao.2),dA.fr.sh,fun j n u b aB aU=>dA.fr.nrow j n u b (aW.cut_someO aB).2 aU⟩
    ·have au:ag aq (.obj n):=by
      cases aG:look (.obj n) s.b with
      |none=>rw[(ad _).1 aG]at h;cases h
      |some x=>exact CM kb _ (by simp[aG])
     rw[aW.cut_bx au];exact dA.fr.obj n b h
    ·have au:ag aq (.obj m):=by
      cases aG:look (.obj m) s.e with
      |none=>rw[(ad _).2.1 aG]at h;cases h
      |some x=>exact CM ke _ (by simp[aG])
     rw[aW.cut_ow au];exact dA.fr.row m n u h
  rcases k0 with rfl|rfl<;>exact iZ
theorem bJ.of{P:b3}(hm:P.follows .mixedOrders=true){bu:List (Nat×dt)}(aI:e7 P bu=true){f:FuncId}{fn:Func}(aY:P.funcs[f]? =some fn){code:Code}(ao:fn.body=some code)(iD:(fn.name== "runtime.NumGoroutine")=false){c:C}(aH:gU fn.ntmps bu c code=true){e6:List cu}(yb:qq bu e6 fn.results.toList=true)
  {args:List al} (aG:args.length<=fn.ntmps) {s:dF} (p8:jc s) {Q:al->dF->Prop} (he:lY args->(∀j cs,look j s.b=some cs->iH cs=true->kX cs)->cL P (gj s) c (bL e6 s Q) ⟨kA 0 args,s.b,s.e,0,gj s⟩):bJ P f args s Q:=
 bJ.ofW aI aY ao iD yb aG p8 fun X oB l4 _ _ I J=>qV hm aI c code _ _ (by rw[oB];exact aH) (by rw[l4];exact he I J)
def cI(bu:List (Nat×dt))(c:C)(e6:List cu)(aeG:Nat)(fn:Func):Bool:=
 match fn.body with
 |some code=>gU fn.ntmps bu c code&&qq bu e6 fn.results.toList&& !(fn.name== "runtime.NumGoroutine")&&decide (aeG<=fn.ntmps)
 |none=>false
theorem bJ.mk{P:b3}(hm:P.follows .mixedOrders=true){bu:List (Nat×dt)}(aI:e7 P bu=true){f:FuncId}{fn:Func}(aY:P.funcs[f]? =some fn){c:C}{e6:List cu}{n:Nat}(dS:cI bu c e6 n fn=true)
  {args:List al} (aG:args.length<=n) {s:dF} (p8:jc s) {Q:al->dF->Prop} (he:lY args->(∀j cs,look j s.b=some cs->iH cs=true->kX cs)->cL P (gj s) c (bL e6 s Q) ⟨kA 0 args,s.b,s.e,0,gj s⟩):bJ P f args s Q:=by
 unfold cI at dS;split at dS
 ·rename_i code ao;simp only[bF,Bool.not_eq_true',ea]at dS;obtain⟨⟨⟨I,J⟩,aA⟩,aS⟩:=dS;exact bJ.of hm aI aY ao aA I J (Nat.le_trans aG aS) p8 he
 ·cases dS
theorem wK:jc ⟨[],[]⟩:=⟨fun _=>rfl,fun _=>rfl⟩
def b8(e6:List cu)(r:al)(e:Exit)(st:a6):Prop:=
 (e= .ret\/e= .normal)/\match bg st e6 with
  |some (c,b2)=>c/\cm (bf b2)=r
  |none=>dD
theorem Wv{e6:List cu}{r:al}(hr:ak (fun _=>dD) r):b8 e6 r=bL e6 ⟨[],[]⟩ (fun dh aq=>dh=r/\aq=⟨[],[]⟩):=by
 funext e st;unfold b8 bL;apply propext;refine and_congr_right fun _=>?_;cases bg st e6 with
 |none=>exact Iff.rfl
 |some x=>
  obtain⟨c,b2⟩:=x;refine and_congr_right fun _=>?_;constructor
  ·intro h;refine⟨⟨[],[]⟩,trivial,trivial,fun k cs aa=>by simp[look]at aa,fun k cs aa=>by simp[look]at aa,wK,?_,h,rfl⟩;rw[h];exact u7 (fun k aa=>aa.elim) r hr
  ·rintro⟨aq,_,_,_,_,_,_,h,_⟩;exact h
theorem ct.mk{P:b3}(hm:P.follows .mixedOrders=true){bu:List (Nat×dt)}(aI:e7 P bu=true){f:FuncId}{fn:Func}(aY:P.funcs[f]? =some fn){c:C}{e6:List cu}{n:Nat}(dS:cI bu c e6 n fn=true)
  {args:List al} (aG:args.length<=n) {r:al} (hr:ak (fun _=>dD) r) (he:lY args->cL P [] c (b8 e6 r) ⟨kA 0 args,[],[],0,[]⟩):ct P f args r:=by
 refine bJ.mk hm aI aY dS aG wK fun I _=>?_;rw[<-Wv hr];exact he I
theorem Hb{α:Type}{β:Type}:∀l:List (aO×α),aX ([]:List (aO×β)) l=l
 |[]=>rfl
 |(k,x)::r=>by simp[aX,look,Hb r]
theorem bc.val{P:b3}{n:Nat}{args:List al}{st:a6}{d:a1 Nat}{K:a6->Prop}{r:al}(aa:aj (fun _=>dD) args)(aY:ct P n args r)(h:K {st with t:=fk d r st.t}):bc P n args st d K:=by
 refine .inl ⟨⟨[],[]⟩,_,fun k cs aa=>by simp[look]at aa,fun k cs aa=>by simp[look]at aa,wK,u4 (fun _ h=>h.elim) _ aa,aY,?_⟩;rintro dh aq ⟨rfl,rfl⟩;refine⟨⟨fun m h=>by simp[look]at h,fun m h=>by simp[look]at h⟩,?_⟩;have:after st ⟨[],[]⟩ ⟨[],[]⟩ d dh={st with t:=fk d dh st.t}:=by simp[after,Hb,gj]
 rw[this];exact h
@[reducible,simp] def b6(n:Int):cY:= .c (.int .i64 n)
@[reducible,simp] def ab(a b:Nat):cT:=⟨none,.s (.v a (.mov (.t b)))⟩
@[reducible,simp] def a8(a:Nat)(i:fP):cT:=⟨none,.s (.v a i)⟩
@[reducible,simp] def cd(i:dL):cT:=⟨none,.s i⟩
@[reducible,simp] def eM(a f:Nat)(l:List cY):cT:=⟨none,.call (some a) (.c (.func f [])) l⟩
@[reducible,simp] def b0(j:Nat)(w:Bool)(a b:Nat):cT:=⟨some (j,w),.s (.v a (.mov (.t b)))⟩
@[reducible,simp] def lR(j:Nat)(w:Bool)(a:Nat)(i:fP):cT:=⟨some (j,w),.s (.v a i)⟩
@[reducible,simp] def ys(j:Nat)(w:Bool)(i:dL):cT:=⟨some (j,w),.s i⟩
@[reducible,simp] def dm(d s a b:Nat):cT:=a8 d (.iaddr s (.t a) (.t b))
@[reducible,simp] def a7(d s a:Nat):cT:=a8 d (.load false s (.t a))
@[reducible,simp] def bO(d s a:Nat):cT:=a8 d (.load true s (.t a))
@[reducible,simp] def bm(d o s a:Nat):cT:=a8 d (.faddr o false s (.t a))
@[reducible,simp] def qo(d o s a:Nat):cT:=a8 d (.faddr o true s (.t a))
@[reducible,simp] def cA(d:Nat)(o:BinOp)(a b:Nat):cT:=a8 d (.bin o false (.t a) (.t b))
@[reducible,simp] def bk(d:Nat)(o:BinOp)(a:Nat)(n:Int):cT:=a8 d (.bin o false (.t a) (b6 n))
@[reducible,simp] def cJ(d a:Nat):cT:=a8 d (.len (.t a))
@[reducible,simp] def dq(d a:Nat):cT:=a8 d (.notB (.t a))
@[reducible,simp] def dI(d i a:Nat):cT:=a8 d (.ext i (.t a))
@[reducible,simp] def cH(d a b:Nat):cT:=a8 d (.pick (.t a) (.c (.bool true)) (.t b))
@[reducible,simp] def ep(d a b:Nat):cT:=a8 d (.pick (.t a) (.t b) (.c (.bool false)))
@[reducible,simp] def bZ(d:Nat)(b:Bool):cT:=a8 d (.mov (.c (.bool b)))
@[reducible,simp] def cG(d:Nat)(n:Int):cT:=a8 d (.mov (b6 n))
@[reducible,simp] def bD(s a b:Nat):cT:=cd (.store s (.t a) (.t b))
@[reducible,simp] def aF(j:Nat)(w:Bool)(x:cT):cT:=⟨some (j,w),x.i⟩
@[reducible,simp] def af(l:List cT)(c:C):C:= .seq (.region l) c
@[reducible,simp] def bt(n:Nat)(a b:C):C:= .cond (.t n) a b
@[reducible,simp] def We(d a:Nat)(l:List cY):cT:=⟨none,.call (some d) (.t a) l⟩
@[reducible,simp] def cC(d f a:Nat):cT:=eM d f [.t a]
@[reducible,simp] def eN(d f a b:Nat):cT:=eM d f [.t a,.t b]
@[reducible,simp] def dv:List al:=[.int .i64 0,.int .i64 0,.str [],.slice 4 .nil []]
@[reducible,simp] def fl(a b:Nat):cT:=cd (.box a none (.t b))
@[reducible,simp] def gI(a:Nat)(l:List al):cT:=cd (.alloc a none (.agg l))
@[reducible,simp] def n4(a n:Nat):cT:=a8 a (.mov (.c (.slice n .nil [])))
@[reducible,simp] def j1(a b c d e:Nat):cT:=cd (.app a b c (.t d) (.t e))
@[reducible,simp] def fm(a b c:Nat)(l:List cY):cT:=cd (.bsl a b c l)
@[reducible,simp] def gy(a b:Nat):cT:=a8 a (.nck (.t b))
@[reducible,simp] def mO(d s a:Nat)(n:Int):cT:=a8 d (.iaddr s (.t a) (b6 n))
@[reducible,simp] def ll(d:Nat)(l:List al)(m:List (Nat×Nat×cY)):cT:=a8 d (.build l m)
@[reducible,simp] def jx(a b c:Nat)(x:C):C:= .block 0 (.loop (af [cA a .lss b c] (.seq (bt a .skip (.exit 0)) x)))
end
end Go.Pv
namespace Go.Pv
open Go Go.RowKit
theorem aaw(w:World)(a:Addr)(n:Nat):(w.freeze a n).os=w.os/\(w.freeze a n).tape=w.tape/\(w.freeze a n).output=w.output/\(w.freeze a n).heap.size=w.heap.size/\∀j,j≠a.block->(w.freeze a n).heap[j]? =w.heap[j]?:=by
 unfold World.freeze;split
 ·exact⟨rfl,rfl,rfl,rfl,fun _ _=>rfl⟩
 ·exact⟨rfl,rfl,rfl,Ψ,fun j aD=>by simp only[Array.getElem?_modify];rw[bo (Ne.symm aD)]⟩
theorem cv.dropRow{C:eI}{st:a6}{a:Act}{w w':World}{ν:aW}(h:cv C st a w ν){g:aO}{o:dU}(aR:look g st.e=some o){xs:List al}(ad:o.xs=some xs){n:Nat}{v:Value}(aK:ν.ow g=some (n,v)){bl:Nat}(eE:v.ownBlock=some bl)
  (wo:w'.os=w.os) (Cu:w'.tape=w.tape) (Cm:w'.output=w.output) (ks:∀j,j≠bl->w'.heap[j]? =w.heap[j]?) (ef:w'.heap.size=w.heap.size):cv C {st with e:=aX [(g,o)] st.e} a w' ν:=by
 obtain⟨v0,us,cz,db,eo,dC⟩:=h.good.own g o aR;rw[aK]at cz;simp only[dH,gz]at cz;obtain⟨KS,rfl⟩:=cz;obtain⟨_,_,Fk⟩:=dC xs ad;have bq:∀b o,ν.A b o->b≠bl:=fun b o bq e=>Fk bl eE o (e▸bq);have az:lW w ν w' ν:=⟨fun b o uJ=>⟨uJ,World.cell?_of_block (ks b (bq b o uJ))⟩,fun _ _ _ h=>h,fun g n u _ aR=>⟨n,u,aR,.inl ⟨rfl,rfl⟩⟩,fun b o uJ=>yJ (ks b (bq b o uJ)),fun _ _ _ _ h=>h⟩;have aG:∀k p,look k (aX [(g,o)] st.e)=some p->k≠g/\look k st.e=some p:=by
  intro k p aa;rw[tO]at aa;by_cases e:g=k
  ·subst e;simp[look]at aa
  ·simp[look,e]at aa;exact⟨Ne.symm e,aa⟩
 have Ff:∀k,(look k (aX [(g,o)] st.e)).isSome->k≠g/\(look k st.e).isSome:=by intro k aa;obtain⟨p,bn⟩:=fG.1 aa;exact⟨(aG k p bn).1,by simp[(aG k p bn).2]⟩
 refine h.over az rfl ⟨fun b o ao=>by rw[ef];exact h.good.alt b o ao,fun k cs aa=>?_,h.good.inj,fun k p aa=>?_,fun k bz n n' u fe b I J=>h.good.oinj k bz n n' u fe b (Ff k I).2 (Ff bz J).2,fun k j n u b I J=>h.good.obx k j n u b (Ff k I).2 J,h.good.one,fun b ao=>h.good.otr b (ao.imp id fun⟨k,n,u,I,J⟩=>⟨k,n,u,(Ff k I).2,J⟩)⟩
  ⟨wo.trans h.fr.os,Cu.trans h.fr.tape,Cm.trans h.fr.output,by rw[ef];exact h.fr.size,fun k aa hm=>?_,fun b o uJ=>?_,h.fr.fresh,h.fr.obj,h.fr.obn,h.fr.row,h.fr.obr,h.fr.trd,fun k j b ao=>⟨(h.fr.trb k j b ao).1,by rw[ef];exact(h.fr.trb k j b ao).2⟩,h.fr.trn,fun b o uJ=>(az.sh b o (h.fr.keep b o uJ).1).trans (h.fr.sh b o uJ),h.fr.nrow⟩ h.new
 ·obtain⟨b,bI,el,g1,g2,g3,g4,g5⟩:=h.good.box k cs aa;refine⟨b,bI,el,g1,g2,g3,?_,pz az g5⟩;rw[ks b fun e=>h.good.obx g k n v b (by simp[aR]) (by simp[aa]) aK (by rw[e];exact eE) g1];exact g4
 ·obtain⟨cD,gV⟩:=aG k p aa;obtain⟨u,bI,aB,aU,b1,dN⟩:=h.good.own k p gV;refine⟨u,bI,aB,⟨aU.1,?_⟩,b1,rj az (fun _ _ _ h=>h) dN⟩;rcases aU.2 with aU|⟨hT,cap,cur,f1,f2,f3,f4⟩
  ·exact .inl aU
  ·refine .inr ⟨hT,cap,cur,f1,f2,?_,f4⟩;rw[ks hT fun e=>cD (h.good.oinj k g _ _ _ _ bl (by simp[gV]) (by simp[aR]) aB aK (by rw[f1,<-e];rfl) eE)];exact f3
 ·have bn:=(eo bl eE).1;rw[ks k fun e=>by subst e;exact bn.elim hm (fun J=>Ω)];exact h.fr.block k aa hm
 ·obtain⟨cE,dj⟩:=h.fr.keep b o uJ;exact⟨cE,(az.A b o cE).2.trans dj⟩
theorem UC{w:World}{ν:aW}:∀{l:List ah} {us:List Value},cR w ν 1 (fW l) us->us=Lib.byteCells l
 |[],us,h=>by simpa[fW,cR,Lib.byteCells]using h
 |x::xs,us,h=>by simp only[fW,ek,cR]at h;obtain⟨u,bI,rfl,⟨I,_,_⟩,J⟩:=h;simp only[aT]at I;subst I;have:=UC (l:=xs) J;rw[this];simp[Lib.byteCells,mf]
end Go.Pv
namespace Go.Proofs
open Go.Shelf Go.RowKit
variable {P:b3} {hR:Ren}
set_option maxRecDepth 100000 in
theorem Any.Builder_String_ex(L:Lays.n169 P hR)(X:Builder.Extra P hR)(b:Nat)(l:List ah)(w:World)(bK:l≠[])(p:Value)(g cap:Nat)(cur:Array Value)(uN:w.heap[b]? =some (.cells #[p,.slice (some ⟨g,0,none⟩) l.length cap] (hR.t 72) (0,0)))
  (kt:w.ownsRow 0 (hR.t 5) 1 (.slice (some ⟨g,0,none⟩) l.length cap) l.length (Lib.byteCells l)) (aR:w.heap[g]? =some (.cells cur (hR.t 5) (0,0))) (r7:l.length<=cap) (zF:cap<=maxLen) (QO:cur.size=cap*1):
  Calls P (hR.f 169) #[.pointer (some ⟨b,0,none⟩)] w fun e w'=>e= .returned (.string ⟨l.toArray⟩)/\w'=w.drew.freeze ⟨g,0,none⟩ l.length:=by
 have wi:l.length≠0:=by simpa using bK
 have c8:w.drew.cell? ⟨b,1,none⟩=some (.slice (some ⟨g,0,none⟩) l.length cap):=by have:w.drew.heap[b]? =some (.cells #[p,.slice (some ⟨g,0,none⟩) l.length cap] (hR.t 72) (0,0)):=uN;rw[Lib.cell_of_heap this];rfl
 have akr:(Builtin.unsafeSliceData_ #[(hR.t 37)] (hR.t 127) #[.slice (some ⟨g,0,none⟩) l.length cap]).run P w.drew= .ok (.pointer (some ⟨g,0,none⟩)) w.drew:=Lib.run_unsafeSliceData_row _ _ _ _ _ _ Ω
 have akt:(Builtin.unsafeString_ #[(hR.t 127),(hR.t 3)] (hR.t 9) #[.pointer (some ⟨g,0,none⟩),.int .i64 l.length]).run P w.drew= .ok (.string ⟨l.toArray⟩) (w.drew.freeze ⟨g,0,none⟩ l.length):=by refine Lib.run_unsafeString_row w.drew (hR.t 127) (hR.t 3) (hR.t 9) (hR.t 5) L.t127 X.cellsByte g cur.size (by have aci:w.drew.heap[g]? =some (.cells cur (hR.t 5) (0,0)):=aR;simp[World.shape?,aci]) l bK Ω (by unfold maxLen at zF;omega) ?_;intro j x ad;have:=kt.cells (g:=g) rfl j (.int .u8 x.toNat) (by simp[Lib.byteCells,ad]);exact this
 have mixed:=L.mixed;have t72:=L.t72;have a72:=L.a72;have z72:=L.z72;have v72:=L.v72;have amH:=run_underlying L.t72;have t70:=L.t70;have a70:=L.a70;have z70:=L.z70;have v70:=L.v70;have amG:=run_underlying L.t70;have t37:=L.t37;have a37:=L.a37;have z37:=L.z37;have v37:=L.v37;have amF:=run_underlying L.t37;have t127:=L.t127;have a127:=L.a127;have z127:=L.z127;have v127:=L.v127;have amE:=run_underlying L.t127;have t3:=L.t3;have a3:=L.a3;have z3:=L.z3;have v3:=L.v3;have w5:=run_underlying L.t3;have t9:=L.t9;have a9:=L.a9;have z9:=L.z9;have v9:=L.v9;have Vw:=run_underlying L.t9;have t5:=X.t5;have a5:=X.a5;have z5:=X.z5;have v5:=X.v5;have Vv:=run_underlying X.t5;go_enter L.f169,Body.n169_ntmps hR;go_wp2;go_region_o;all_goals(go_wp2;go_ret;exact⟨rfl,rfl⟩)
end Go.Proofs
namespace Go.Pv
section
open Go Go.RowKit
theorem gp{α:Type}{l:List α}{i:Nat}(h:i<l.length):∃b,l[i]? =some b/\∀h,(l[i]'h)=b:=⟨l[i],cS h,fun _=>rfl⟩
def LC(st:a6)(i:dL):Prop:=match lO st i with|some (c,_)=>c|none=>dD
def LD(st:a6)(i:dL):a6:=match lO st i with|some (_,s)=>s|none=>st
def vI(P:b3)(ob:List aO)(r:List cT)(K:a6->Prop)(st:a6):Prop:=hh P ob r st K
def y1(P:b3)(ob:List aO)(c:C)(Q:Exit->a6->Prop)(st:a6):Prop:=cL P ob c Q st
def p1(P:b3)(ob:List aO)(v:al)(s:Nat)(w:Bool)(i:dM)(r:List cT)(st:a6)(K:a6->Prop):Prop:=
 match v with
 | .bool b=>(b=w->hh P ob (⟨none,i⟩::r) {st with t:=put s (.bool w) st.t} K)/\(b= !w->hh P ob r {st with t:=fk i.dst (.tuple []) (put s (.bool !w) st.t)} K)
 | .tuple []=>hh P ob r {st with t:=fk i.dst (.tuple []) st.t} K
 |_=>dD
def uE(P:b3)(ob:List aO)(v:al)(x:cY)(t e:C)(Q:Exit->a6->Prop)(st:a6):Prop:=
 match v with
 | .bool b=>(b=true->cL P ob t Q (sE st x true))/\(b=false->cL P ob e Q (sE st x false))
 |_=>dD
def Is(P:b3)(ob:List aO)(v:al)(d:a1 Nat)(xs:List al)(r:List cT)(st:a6)(K:a6->Prop):Prop:=
 match v with
 | .func n dy=>bc P n (ca (xs++dy)) st d (vI P ob r K)
 |_=>dD
section
variable {P:b3} {ob:List aO} {st:a6} {K:a6->Prop} {r:List cT} {Q:Exit->a6->Prop} {a b c t e:C}
theorem Y6:hh P ob [] st K=K st:=rfl
theorem Y8{i:dL}:hh P ob (⟨none,.s i⟩::r) st K=(LC st i/\hh P ob r (LD st i) K):=by
 simp only[hh,pZ,LC,LD];cases lO st i with
 |none=>simp
 |some x=>rfl
theorem Y2{d:a1 Nat}{f:cY}{xs:List cY}:hh P ob (⟨none,.call d f xs⟩::r) st K=Is P ob (bQ st.t f) d (xs.map (bQ st.t)) r st K:=by simp only[hh,pZ,Is];rfl
def Iv(P:b3)(ob:List aO)(v:al)(d:a1 Nat)(xs:List al)(r:List cT)(st:a6)(K:a6->Prop):Prop:=
 match v with
 | .func n dy=>A0 P ob n (xs++dy) st d (vI P ob r K)
 |_=>dD
theorem Y7{d:a1 Nat}{f:cY}{xs:List cY}:hh P ob (⟨none,.opn d f xs⟩::r) st K=Iv P ob (bQ st.t f) d (xs.map (bQ st.t)) r st K:=by simp only[hh,pZ,Iv];rfl
theorem Y0{n:Nat}{dy xs:List al}{d:a1 Nat}:Iv P ob (.func n dy) d xs r st K=A0 P ob n (xs++dy) st d (vI P ob r K):=rfl
def Iu(P:b3)(ob:List aO)(v:al)(d:a1 Nat)(r:List cT)(st:a6)(K:a6->Prop):Prop:=
 match v with
 | .func n dy=> ¬n<1000000/\bc P (vD n) (ca dy) st d (vI P ob r K)
 |_=>dD
theorem Y3{d:a1 Nat}{f:cY}:hh P ob (⟨none,.callb d f⟩::r) st K=Iu P ob (bQ st.t f) d r st K:=by simp only[hh,pZ,Iu];rfl
theorem YZ{n:Nat}{dy:List al}{d:a1 Nat}:Iu P ob (.func n dy) d r st K=(¬n<1000000/\bc P (vD n) (ca dy) st d (vI P ob r K)):=rfl
theorem ahT(n:Nat):vD n=n-1000000:=rfl
theorem Y5{d:Nat}{x:cY}:hh P ob (⟨none,.next d x⟩::r) st K=xA st d (bQ st.t x) (vI P ob r K):=by simp only[hh,pZ];rfl
def vG(P:b3)(ob:List aO)(c:C)(Q:Exit->a6->Prop):a1 a6->Prop
 |some st=>cL P ob c Q st
 |none=>dD
theorem Wr:vG P ob c Q (some st)=cL P ob c Q st:=rfl
theorem YF{s:Nat}:cL P ob (.pub s c) Q st=vG P ob c Q (vk st s):=by simp only[cL];cases vk st s<;>rfl
theorem YB{po:Bool}{s:Nat}:cL P ob (.fg po s c) Q st=cL P ob c Q {st with t:=put s (zs po (get s st.t)) st.t}:=rfl
theorem YC{po:Bool}{s:Nat}{d:C}:cL P ob (.seq (.fg po s c) d) Q st=cL P ob (.seq c d) Q {st with t:=put s (zs po (get s st.t)) st.t}:=rfl
theorem YD{eJ:Bool}{s:Nat}:cL P ob (.fz eJ s c) Q st=vG P ob c Q (vY st eJ s):=by simp only[cL];cases vY st eJ s<;>rfl
theorem YE{eJ:Bool}{s:Nat}{d:C}:cL P ob (.seq (.fz eJ s c) d) Q st=vG P ob (.seq c d) Q (vY st eJ s):=by simp only[cL];cases vY st eJ s<;>rfl
theorem Yz{s:Nat}:cL P ob (.fd s c) Q st=(BM ob st s/\cL P ob c Q (zr st s)):=rfl
theorem YA{s:Nat}{d:C}:cL P ob (.seq (.fd s c) d) Q st=(BM ob st s/\cL P ob (.seq c d) Q (zr st s)):=rfl
theorem YG{s:Nat}:cL P ob (.pubB s c) Q st=vG P ob c Q (wQ st s):=by simp only[cL];cases wQ st s<;>rfl
theorem Y1{n:Nat}{dy:List al}{d:a1 Nat}{xs:List al}:Is P ob (.func n dy) d xs r st K=bc P n (ca (xs++dy)) st d (vI P ob r K):=rfl
theorem Y4{s:Nat}{w:Bool}{i:dM}:hh P ob (⟨some (s,w),i⟩::r) st K=p1 P ob (get s st.t) s w i r st K:=by simp only[hh,p1];try rfl
theorem Zd{s:Nat}{i:dM}:p1 P ob (.bool true) s true i r st K=hh P ob (⟨none,i⟩::r) {st with t:=put s (.bool true) st.t} K:=by simp[p1]
theorem Y9{s:Nat}{i:dM}:p1 P ob (.bool false) s false i r st K=hh P ob (⟨none,i⟩::r) {st with t:=put s (.bool false) st.t} K:=by simp[p1]
theorem Zc{s:Nat}{i:dM}:p1 P ob (.bool true) s false i r st K=hh P ob r {st with t:=fk i.dst (.tuple []) (put s (.bool true) st.t)} K:=by simp[p1]
theorem Za{s:Nat}{i:dM}:p1 P ob (.bool false) s true i r st K=hh P ob r {st with t:=fk i.dst (.tuple []) (put s (.bool false) st.t)} K:=by simp[p1]
theorem Zb{s:Nat}{w:Bool}{i:dM}:p1 P ob (.tuple []) s w i r st K=hh P ob r {st with t:=fk i.dst (.tuple []) st.t} K:=by simp[p1]
theorem cP{x:Bool}{s:Nat}{w:Bool}{i:dM}(I:x=w->hh P ob (⟨none,i⟩::r) {st with t:=put s (.bool w) st.t} K)(J:x= !w->hh P ob r {st with t:=fk i.dst (.tuple []) (put s (.bool !w) st.t)} K):p1 P ob (.bool x) s w i r st K:=⟨I,J⟩
theorem Yo:cL P ob (.seq (.seq a b) c) Q st=cL P ob (.seq a (.seq b c)) Q st:=by simp only[cL];congr 1;funext e st';cases e<;>rfl
theorem YL:cL P ob (.seq .skip c) Q st=cL P ob c Q st:=rfl
theorem YJ:cL P ob (.seq .ret c) Q st=Q .ret st:=rfl
theorem Yx{n:Nat}:cL P ob (.seq (.exit n) c) Q st=Q (.exit n) st:=rfl
theorem YM:cL P ob .skip Q st=Q .normal st:=rfl
theorem YK:cL P ob .ret Q st=Q .ret st:=rfl
theorem Yy{n:Nat}:cL P ob (.exit n) Q st=Q (.exit n) st:=rfl
theorem YH{gs:List cT}:cL P ob (.seq (.region gs) c) Q st=hh P ob gs st (y1 P ob c Q):=rfl
theorem YI{gs:List cT}:cL P ob (.region gs) Q st=hh P ob gs st (Q .normal):=rfl
theorem Yr{x:cY}:cL P ob (.seq (.cond x t e) c) Q st=uE P ob (bQ st.t x) x (.seq t c) (.seq e c) Q st:=by simp only[cL,uE];try rfl
theorem Ys{x:cY}:cL P ob (.cond x t e) Q st=uE P ob (bQ st.t x) x t e Q st:=by simp only[cL,uE];try rfl
theorem YO{x:cY}:uE P ob (.bool true) x t e Q st=cL P ob t Q (sE st x true):=by simp[uE]
theorem YN{x:cY}:uE P ob (.bool false) x t e Q st=cL P ob e Q (sE st x false):=by simp[uE]
theorem cN{v:Bool}{x:cY}(I:v=true->cL P ob t Q (sE st x true))(J:v=false->cL P ob e Q (sE st x false)):uE P ob (.bool v) x t e Q st:=⟨I,J⟩
def yV(P:b3)(ob:List aO)(id:Nat)(c:C)(Q:Exit->a6->Prop)(e:Exit)(st:a6):Prop:=
 match e with
 | .normal=>cL P ob c Q st
 | .exit j=>if j=id then cL P ob c Q st else Q (.exit j) st
 |e=>Q e st
theorem Yp{id:Nat}:cL P ob (.seq (.block id a) c) Q st=cL P ob a (yV P ob id c Q) st:=by
 simp only[cL];congr 1;funext e st';cases e with
 |exit j=>rfl
 |_=>rfl
theorem Yq{id:Nat}:cL P ob (.block id a) Q st=cL P ob a (yV P ob id .skip Q) st:=by
 simp only[cL];congr 1;funext e st';cases e with
 |exit j=>simp only[yV];by_cases aD:j=id<;>simp[aD,cL]
 |_=>rfl
theorem Wj{id:Nat}:yV P ob id c Q .normal st=y1 P ob c Q st:=rfl
theorem Wi{id j:Nat}:yV P ob id c Q (.exit j) st=if j=id then y1 P ob c Q st else Q (.exit j) st:=rfl
theorem Wk{id:Nat}:yV P ob id c Q .ret st=Q .ret st:=rfl
def bU(ob:List aO)(jz:Nat->a6->Prop)(k:Nat)(Q:Exit->a6->Prop)(e:Exit)(st:a6):Prop:=
 match e with
 | .normal=> ∃bz oU,bz<k/\mm ob st oU/\jz bz oU
 |e=>Q e st
theorem Wp{jz:Nat->a6->Prop}{k:Nat}:bU ob jz k Q .normal st= ∃bz oU,bz<k/\mm ob st oU/\jz bz oU:=rfl
theorem Wo{jz:Nat->a6->Prop}{k n:Nat}:bU ob jz k Q (.exit n) st=Q (.exit n) st:=rfl
theorem Wq{jz:Nat->a6->Prop}{k:Nat}:bU ob jz k Q .ret st=Q .ret st:=rfl
theorem xB(jz:Nat->a6->Prop)(m:Nat)(wY:a6)(hw:mm ob st wY)(bK:jz m wY)(h:∀k s,jz k s->(∀i,kn (get i s.t))->(∀j cs,look j s.b=some cs->iH cs=true->kX cs)->cL P ob a (bU ob jz k Q) s):cL P ob (.loop a) Q st:=by
 simp only[cL];refine⟨jz,m,wY,hw,bK,fun k s I J aA=>?_⟩;have:=h k s I J aA;have bA:(bU ob jz k Q)=(fun e aq=>match e with| .normal=> ∃bz oU,bz<k/\mm ob aq oU/\jz bz oU|e=>Q e aq):=by funext e aq;cases e<;>rfl
 rw[bA]at this;exact this
end
/-Regions cj draw their order. -/
def LA(n0:Nat)(st:a6)(i:dL):Prop:=match ei (nH n0 i) st.n (nH n0 i::st.o) st i with|some (c,_)=>c|none=>dD
def LB(n0:Nat)(st:a6)(i:dL):a6:=match ei (nH n0 i) st.n (nH n0 i::st.o) st i with|some (_,s)=>s|none=>st
def Hj(P:b3)(q:Bool)(nw:List Nat)(n0:Nat)(r:List cT)(K:a6->Prop)(st:a6):Prop:=hU P q nw n0 r st K
def p0(P:b3)(q:Bool)(nw:List Nat)(n0:Nat)(v:al)(s:Nat)(w:Bool)(i:dM)(r:List cT)(st:a6)(K:a6->Prop):Prop:=
 match v with
 | .bool b=>(b=w->hU P q nw n0 (⟨none,i⟩::r) {st with t:=put s (.bool w) st.t} K)/\(b= !w->hU P q nw n0 r {st with t:=fk i.dst (.tuple []) (put s (.bool !w) st.t)} K)
 | .tuple []=>hU P q nw n0 r {st with t:=fk i.dst (.tuple []) st.t} K
 |_=>dD
def Ir(P:b3)(q:Bool)(nw:List Nat)(n0:Nat)(v:al)(d:a1 Nat)(xs:List al)(r:List cT)(st:a6)(K:a6->Prop):Prop:=
 match v with
 | .func n dy=>hf P q nw n (ca (xs++dy)) st d (Hj P q nw n0 r K)
 |_=>dD
section
variable {P:b3} {ob:List aO} {st:a6} {K:a6->Prop} {r:List cT} {Q:Exit->a6->Prop} {c:C} {q:Bool} {nw:List Nat} {n0 N:Nat}
theorem YS:hU P q nw n0 [] st K=K st:=rfl
theorem YT{i:dL}:hU P q nw n0 (⟨none,.s i⟩::r) st K=(kL q nw n0 st i/\LA n0 st i/\hU P q nw n0 r (LB n0 st i) K):=by
 simp only[hU,iX,LA,LB];cases ei (nH n0 i) st.n (nH n0 i::st.o) st i with
 |none=>simp
 |some x=>rfl
theorem YQ{d:a1 Nat}{f:cY}{xs:List cY}:hU P q nw n0 (⟨none,.call d f xs⟩::r) st K=Ir P q nw n0 (bQ st.t f) d (xs.map (bQ st.t)) r st K:=by simp only[hU,iX,Ir];rfl
theorem YP{n:Nat}{dy:List al}{d:a1 Nat}{xs:List al}:Ir P q nw n0 (.func n dy) d xs r st K=hf P q nw n (ca (xs++dy)) st d (Hj P q nw n0 r K):=rfl
theorem YR{s:Nat}{w:Bool}{i:dM}:hU P q nw n0 (⟨some (s,w),i⟩::r) st K=p0 P q nw n0 (get s st.t) s w i r st K:=by simp only[hU,p0];try rfl
theorem YY{s:Nat}{i:dM}:p0 P q nw n0 (.bool true) s true i r st K=hU P q nw n0 (⟨none,i⟩::r) {st with t:=put s (.bool true) st.t} K:=by simp[p0]
theorem YU{s:Nat}{i:dM}:p0 P q nw n0 (.bool false) s false i r st K=hU P q nw n0 (⟨none,i⟩::r) {st with t:=put s (.bool false) st.t} K:=by simp[p0]
theorem YX{s:Nat}{i:dM}:p0 P q nw n0 (.bool true) s false i r st K=hU P q nw n0 r {st with t:=fk i.dst (.tuple []) (put s (.bool true) st.t)} K:=by simp[p0]
theorem YV{s:Nat}{i:dM}:p0 P q nw n0 (.bool false) s true i r st K=hU P q nw n0 r {st with t:=fk i.dst (.tuple []) (put s (.bool false) st.t)} K:=by simp[p0]
theorem YW{s:Nat}{w:Bool}{i:dM}:p0 P q nw n0 (.tuple []) s w i r st K=hU P q nw n0 r {st with t:=fk i.dst (.tuple []) st.t} K:=by simp[p0]
theorem cO{x:Bool}{s:Nat}{w:Bool}{i:dM}(I:x=w->hU P q nw n0 (⟨none,i⟩::r) {st with t:=put s (.bool w) st.t} K)(J:x= !w->hU P q nw n0 r {st with t:=fk i.dst (.tuple []) (put s (.bool !w) st.t)} K):p0 P q nw n0 (.bool x) s w i r st K:=⟨I,J⟩
theorem Yt{gs:List cT}:cL P ob (.seq (.drawn q N gs) c) Q st=hU P q [] st.n gs st (uo (st.n+N) st.o (y1 P ob c Q)):=rfl
theorem Yu{gs:List cT}:cL P ob (.drawn q N gs) Q st=hU P q [] st.n gs st (uo (st.n+N) st.o (Q .normal)):=rfl
theorem Yv{gs:List cT}:cL P ob (.seq (.drawnW nw N gs) c) Q st=hU P false (qk nw st.o) st.n gs st (uo (st.n+N) ((qk nw st.o).map aO.obj++st.o) (y1 P ob c Q)):=rfl
theorem Yw{gs:List cT}:cL P ob (.drawnW nw N gs) Q st=hU P false (qk nw st.o) st.n gs st (uo (st.n+N) ((qk nw st.o).map aO.obj++st.o) (Q .normal)):=rfl
theorem aeL{o:List aO}:qk [] o=[]:=rfl
theorem aeJ{j:Nat}{nw:List Nat}{o:List aO}:qk (j::nw) o=if aO.obj j∈o then qk nw o else j::qk nw o:=by simp only[qk,List.filter_cons,ea,ite_not]
theorem hf.val{n:Nat}{args:List al}{d:a1 Nat}{r:al}(aa:aj (fun _=>dD) args)(aY:ct P n args r)(h:K {st with t:=fk d r st.t}):hf P q nw n args st d K:=by
 refine .inr ⟨⟨[],[]⟩,⟨[],[]⟩,r,none,fun k cs aa=>by simp[look]at aa,fun k cs aa=>by simp[look]at aa,wK,wK,⟨fun k h=>.inl h,fun k h=>.inl h,fun k h=>h,fun k h=>h,fun k h=>by cases h⟩,u4 (fun _ h=>h.elim) _ aa,aY,fun _=>⟨rfl,rfl⟩,?_⟩;have:({after st ⟨[],[]⟩ ⟨[],[]⟩ d r with o:=st.o}:a6)={st with t:=fk d r st.t}:=by simp[after,Hb]
 rw[this];exact h
theorem bb{n:Nat}{args:List al}{d:a1 Nat}{r:al}(aY:ct P n args r)(h:K {st with t:=fk d r st.t})(aa:aj (fun _=>dD) args:=by simp):hf P q nw n args st d K:=hf.val aa aY h
end
section
variable {k:IntKind} {n:Int} {b:Bool} {s:List ah} {sz:Nat} {tag:y0} {xs:List al} {key:aO} {off f:Nat} {x:al}
@[simp]theorem amk:eG (.int k n)=true:=rfl
@[simp]theorem al7:eG (.bool b)=true:=rfl
@[simp]theorem ams:eG (.str s)=true:=rfl
@[simp]theorem amr:eG (.slice sz tag xs)=true:=rfl
@[simp]theorem al5:eG (.agg xs)=true:=rfl
@[simp]theorem amo:eG (.ptr key off)=true:=rfl
@[simp]theorem ame:eG (.eptr x)=true:=rfl
@[simp]theorem amj{t:Nat}:eG (.iface t x)=true:=rfl
@[simp]theorem ajL{t:Nat}:cells (.iface t x)=[.iface t x]:=rfl
@[simp]theorem ama{a:a1 Addr}{n c:Nat}:eG (.cst (.slice a n c))=true:=rfl
@[simp]theorem amb{s}:eG (.cst (.string s))=true:=rfl
@[simp]theorem amm:eG .nilp=true:=rfl
@[simp]theorem amg:eG (.func f xs)=true:=rfl
@[simp]theorem ami:eG (.gmap key)=true:=rfl
@[simp]theorem amq{n:Nat}:eG (.row sz key n)=true:=rfl
@[simp]theorem ajT{n:Nat}:cells (.row sz key n)=[.row sz key n]:=rfl
@[simp]theorem ajM:cells (.int k n)=[.int k n]:=rfl
@[simp]theorem ajC:cells (.bool b)=[.bool b]:=rfl
@[simp]theorem ajV:cells (.str s)=[.str s]:=rfl
@[simp]theorem ajU:cells (.slice sz tag xs)=[.slice sz tag xs]:=rfl
@[simp]theorem ajA:cells (.agg xs)=xs:=rfl
@[simp]theorem ajR:cells (.ptr key off)=[.ptr key off]:=rfl
@[simp]theorem ajG:cells (.eptr x)=[.eptr x]:=rfl
@[simp]theorem ajP:cells .nilp=[.nilp]:=rfl
@[simp]theorem ajI:cells (.func f xs)=[.func f xs]:=rfl
@[simp]theorem ajK:cells (.gmap key)=[.gmap key]:=rfl
end
section
variable {b:List (aO×List al)} {e:List (aO×dU)} {agg:Bool} {sz off:Nat} {k:aO} {p:al} {cs xs vs:List al} {hl:IntKind} {n i:Int} {m j:Nat} {tag:y0} {s:List ah} {Ng:Bool} {lo aE:a1 al}
@[simp]theorem alz{dn:Nat}{f:Nat}:mH b e agg sz (.rptr dn k m j f)=yE agg sz dn m j f (look k e):=rfl
@[simp]theorem aly:mH b e agg sz (.ptr k off)=(match look k b with
  |some cs=>if agg then some (iH cs=true/\off+sz<=cs.length,.agg ((cs.drop off).take sz))else(cs[off]?).map fun p=>(iH cs=true,p)
  |none=>none):=rfl
@[simp]theorem alx:mH b e agg sz (.eptr p)=if agg then some (isAgg sz p,p)else some (eG p=true/\cells p=[p],p):=rfl
@[simp]theorem akn:BO agg sz (.eptr p)=if agg then some (isAgg sz p,p)else some (eG p=true/\cells p=[p],p):=rfl
@[simp]theorem akc{o:Nat}:ov off agg sz (.ptr k o)=some (True,.ptr k (o+off)):=rfl
@[simp]theorem ake{dn f:Nat}:ov off agg sz (.rptr dn k m j f)=some (True,.rptr dn k m j (f+off)):=rfl
@[simp]theorem aj4:ov off agg sz (.eptr (.agg cs))=if agg then some (off+sz<=cs.length,.eptr (.agg ((cs.drop off).take sz)))else(cs[off]?).map fun p=>(eG p=true/\cells p=[p],.eptr p):=rfl
@[simp]theorem akg:rX off agg sz (.agg cs)=if agg then some (off+sz<=cs.length,.agg ((cs.drop off).take sz))else(cs[off]?).map fun p=>(True,p):=rfl
@[simp]theorem akU{dn:Nat}:zU sz (.slice dn tag xs) (.int hl i)=if dn=sz then some (0<=i/\i<xs.length,.eptr (xs.getD i.toNat .junk))else none:=rfl
@[simp]theorem akT{dn:Nat}:zU sz (.row dn k m) (.int hl i)=if dn=sz then some (0<=i/\i<m,.rptr dn k m i.toNat 0)else none:=rfl
@[simp]theorem alw{dn:Nat}:z6 (.slice dn tag xs)=some (True,.int .i64 xs.length):=rfl
@[simp]theorem alv{dn:Nat}:z6 (.row dn k m)=some (True,.int .i64 m):=rfl
@[simp]theorem alu{a:a1 Addr}{n c:Nat}:z6 (.cst (.slice a n c))=some (True,.int .i64 n):=rfl
@[simp]theorem al3{s}:Dy (.cst (.string s))=some (True,.int .i64 s.size):=rfl
@[simp]theorem al4:Dy (.str s)=some (True,.int .i64 s.length):=rfl
@[simp]theorem aj3:Ev j (.tuple vs)=(vs[j]?).map fun p=>(True,p):=rfl
@[simp]theorem alP:Ac (.ptr k off)=some (True,.ptr k off):=rfl
@[simp]theorem alN:Ac (.eptr p)=some (True,.eptr p):=rfl
@[simp]theorem alO:Ac (.func j cs)=some (True,.func j cs):=rfl
@[simp]theorem alQ:F7 (.bool Ng)=some (True,.bool (!Ng)):=rfl
@[simp]theorem al2:GQ (.str s) (.int hl i)=some (0<=i/\i<s.length,.int .u8 (s.getD i.toNat 0).toNat):=rfl
@[simp]theorem amt:GV (.str s) lo aE=(match rf 0 lo,rf s.length aE with
  |some l,some h=>some (0<=l/\l<=h/\h<=s.length,.str ((s.take h.toNat).drop l.toNat))
  |_,_=>none):=rfl
@[simp]theorem alA{dn:Nat}:FU sz (.slice dn tag xs) lo aE=(if dn=sz then match rf 0 lo,rf xs.length aE with
  |some l,some h=>some (0<=l/\l<=h/\h<=xs.length,.slice sz .no ((xs.take h.toNat).drop l.toNat))
  |_,_=>none else none):=rfl
theorem SD{f:aO->a1 (List al)}{b7:j5}{z q:al}{ok:Bool}:oN f b7 z ok (.gmap k) q=(match f k with
  |some (.hdm _ _::kvs)=>if yi b7 q=false then none else match tQ b7 q kvs with
   |some (some v)=>some (True,if ok then .tuple [v,.bool true]else v)
   |some none=>some (True,if ok then .tuple [z,.bool false]else z)
   |none=>none
  |_=>none):=rfl
theorem aey{f:aO->a1 (List al)}:ve f (.gmap k)=(match f k with
  |some (.hdm _ borns::_)=>some (True,.int .i64 borns.length)
  |_=>none):=rfl
theorem aev{f:aO->a1 (List al)}:tP f (.ptr k 0)=(match f k with
  |some [.hdi _ seen last,.gmap mk]=>match f mk with
   |some (.hdm clock borns::kvs)=>match seen.getLast? with
    |some n=>(oM n borns kvs).map fun p=>(clock=last,p)
    |none=>none
   |_=>none
  |_=>none):=rfl
@[simp]theorem al1{dn f n' el ia:Nat}:yE agg sz dn m j f (some ⟨n',el,ia,some xs⟩)=(if n'=m/\ia=dn then
   (match xs[j]? with
    |some p=>if agg then some (eG p=true/\f+sz<=(cells p).length,.agg (((cells p).drop f).take sz))else((cells p)[f]?).map fun q=>(eG p=true,q)
    |none=>none)else none):=rfl
end
attribute [simp] Yo YH Yp Yr YL YJ Yx YM YK Yy YI Yq Ys y1 Wj Wi Wk Wo Wq Y6 Y8 Y2 Y1 Y3 YZ ahT Y4
 Zd Y9 Zc Za Zb YO YN LC LD lO gH kA bQ get put iO qh nq nr dd rf aw aC GX oV uz Gj F3 Ee FY
 look fk dL.dst dM.dst sE vI qQ ca cm ak aj
 Yt Yu Yv Yw aeL aeJ YS YT YQ YP YR YY YU YX YV YW LA LB ei nH kL xH fP.loadO uo Hj yf iH mn Y5 YF YG YB YC YD YE vY IF tn zs Wr vk Dc wQ rq rk D1 FW DZ pa
theorem ba{P:b3}{n:Nat}{args:List al}{st:a6}{d:a1 Nat}{K:a6->Prop}{r:al}(aY:ct P n args r)(h:K {st with t:=fk d r st.t})(aa:aj (fun _=>dD) args:=by simp):bc P n args st d K:=bc.val aa aY h
theorem av{a b:Prop}(ao:b)(bM:a:=by first|omega|(unfold aZ;omega)|(unfold bs;omega)):a/\b:=⟨bM,ao⟩
theorem dr{p:Prop}(h:dD:=by first|contradiction|omega):p:=h.elim
theorem cB{p:Prop}(h:p:=by(try simp[*]);(repeat' first|with_reducible refine av ?_|with_reducible refine ba (by assumption) ?_|with_reducible refine bb (by assumption) ?_|simp[*]);(all_goals first|done|(simp[b8,bg,bh,bf, *];done))):p:=h
attribute [simp] Y7 Y0 Yz YA Bl FC hg ht Bv Bu Ed zf zr zq BM
end
section
open Go Go.RowKit
structure gJ (s:dF):Prop where
 obj:jc s
 kb:∀k cs,look k s.b=some cs->aj (ag s) cs
 ke:∀k o,look k s.e=some o->cc (ag s) o
structure Same (s aq:dF):Prop where
 b:∀k,(look k s.b).isSome=(look k aq.b).isSome
 e:∀k,(look k s.e).isSome=(look k aq.e).isSome
theorem Same.refl(s:dF):Same s s:=⟨fun _=>rfl,fun _=>rfl⟩
theorem z8{α:Type}{k:aO}{x:α}:∀{l:List (aO×α)},(k,x)∈l->(look k l).isSome
 |(i,y)::r,h=>by
  simp only[look];split
  ·rfl
  ·rename_i cD;rcases gb.1 h with h|h
   ·cases h;exact absurd rfl cD
   ·exact z8 h
theorem adA{s:dF}{k:aO}(h:k∈gj s):ag s k:=by
 unfold gj at h;rcases fM.1 h with h|h
 ·obtain⟨⟨bz,x⟩,I,rfl⟩:=n8.1 h;exact .inl (z8 I)
 ·obtain⟨⟨bz,x⟩,I,rfl⟩:=n8.1 h;exact .inr (z8 I)
theorem aej{s:dF}(h:jc s)(m:Nat):aO.loc m∉gj s:=fun hm=>by
 rcases adA hm with I|I
 ·rw[h.1 m]at I;cases I
 ·rw[h.2 m]at I;cases I
theorem DO{α β:Type}(s:List (aO×β)):∀(a b:List (aO×α)),aX s (a++b)=aX s a++aX s b
 |[],b=>rfl
 |(k,x)::r,b=>by
  simp only[ds,aX];cases look k s with
  |none=>simp[DO s r b]
  |some _=>exact DO s r b
theorem V6{α β:Type}(s:List (aO×β)):∀(l:List (aO×α)),(∀k x,(k,x)∈l->(look k s).isSome)->aX s l=[]
 |[],_=>rfl
 |(k,x)::r,h=>by
  have I:=h k x Ψ;simp only[aX];cases aG:look k s with
  |none=>rw[aG]at I;cases I
  |some _=>exact V6 s r fun k x ad=>h k x (by simp[ad])
theorem DP{α:Type}(s:List (aO×α)):aX s s=[]:=V6 s s fun k x h=>z8 h
theorem Vx{α:Type}{k:aO}{x:α}:∀{l:List (aO×α)},look k l=none->dd k x l=l++[(k,x)]
 |[],_=>rfl
 |(i,y)::r,h=>by
  simp only[look]at h;split at h
  ·cases h
  ·rename_i cD;simp[dd,cD,Vx h]
theorem sp{α:Type}(k:aO):∀(a b:List (aO×α)),look k (a++b)=match look k a with|some x=>some x|none=>look k b
 |[],b=>rfl
 |(i,y)::r,b=>by
  simp only[ds,look];split
  ·rfl
  ·exact sp k r b
theorem bc.ob{P:b3}{n:Nat}{args:List al}{st:a6}{d:a1 Nat}{K:a6->Prop}{s:dF}{Q:al->dF->Prop}(aY:bJ P n args s Q)(au:gJ s)(ao:∀k cs,look k s.b=some cs->look k st.b=some cs)(he:∀k o,look k s.e=some o->look k st.e=some o)
  (aa:aj (ag s) args) (h:∀r aq,Q r aq->Same s aq/\K ⟨fk d r st.t,aX s.b st.b++aq.b,aX s.e st.e++aq.e,st.n,st.o++gj aq⟩):bc P n args st d K:=by
 refine .inl ⟨s,Q,fun k cs aH=>⟨ao k cs aH,.inl (by simp[aH]),au.kb k cs aH⟩,fun k o az=>⟨he k o az,.inr (by simp[az]),au.ke k o az⟩,au.obj,aa,aY,fun r aq bA=>?_⟩;obtain⟨I,J⟩:=h r aq bA;exact⟨⟨fun m hm=>.inl (by rw[I.b];exact hm),fun m hm=>.inl (by rw[I.e];exact hm)⟩,J⟩
theorem bL.ob{e6:List cu}{s aq:dF}{Q:al->dF->Prop}{e:Exit}{st:a6}{c:Prop}{b2:List al}(k0:e= .ret\/e= .normal)(k6:bg st e6=some (c,b2))(aH:c)(au:gJ aq)(eQ:Same s aq)(ao:∀k cs,look k aq.b=some cs->look k st.b=some cs)(cQ:∀k o,look k aq.e=some o->look k st.e=some o)
  (aa:ak (ag aq) (cm (bf b2))) (bA:Q (cm (bf b2)) aq):bL e6 s Q e st:=by
 refine⟨k0,?_⟩;rw[k6];have Q2:∀{α:Type} (l:List (aO×α)),(∀k x,(k,x)∈l->ag aq k)->gE aq l:=by
  intro α l;induction l with
  |nil=>intro _;trivial
  |cons x r bp=>obtain⟨k,x⟩:=x;intro h;exact⟨h k x Ψ,bp fun k x ad=>h k x (by simp[ad])⟩
 exact⟨aH,aq,Q2 _ fun k x ad=>.inl (by rw[<-eQ.b];exact z8 ad),Q2 _ fun k x ad=>.inr (by rw[<-eQ.e];exact z8 ad),fun k cs da=>⟨ao k cs da,.inl (by simp[da]),au.kb k cs da⟩,fun k o az=>⟨cQ k o az,.inr (by simp[az]),au.ke k o az⟩,au.obj,aa,bA⟩
theorem bJ.mono{P:b3}{f:FuncId}{args:List al}{s:dF}{Q qI:al->dF->Prop}(h:bJ P f args s Q)(bA:∀r aq,Q r aq->qI r aq):bJ P f args s qI:=by
 intro w ν vs gl I J aA;have hm:∀(e:Ending) (w':World),(∃v r aq ν',e= .returned v/\Q r aq/\aT w' ν' r v/\Good (fun bl=>gn ν s bl\/w.heap.size<=bl) w' ν' aq.b aq.e/\qW ν' aq/\jc aq/\qG ⟨w,ν,gn ν s,0,gj s,gl,[]⟩ w' ν')->(∃v r aq ν',e= .returned v/\qI r aq/\aT w' ν' r v/\Good (fun bl=>gn ν s bl\/w.heap.size<=bl) w' ν' aq.b aq.e/\qW ν' aq/\jc aq/\qG ⟨w,ν,gn ν s,0,gj s,gl,[]⟩ w' ν'):=by rintro e w' ⟨v,r,aq,ν',b4,a2,a3⟩;exact⟨v,r,aq,ν',b4,bA _ _ a2,a3⟩
 rcases h w ν vs gl I J aA with⟨zI,aH⟩|⟨v,w',aH,hr⟩
 ·exact .inl ⟨zI,aH.mono hm⟩
 ·exact .inr ⟨v,w',aH,hm _ _ hr⟩
def bV(st:a6)(e6:List cu)(R:al->Prop):Prop:=match bg st e6 with
 |some (c,b2)=>c/\R (cm (bf b2))
 |none=>dD
theorem bL.at{e6:List cu}{s:dF}{Q:al->dF->Prop}{e:Exit}{st:a6}(aq:dF)(k0:e= .ret\/e= .normal)(au:gJ aq)(eQ:Same s aq)(ao:∀k cs,look k aq.b=some cs->look k st.b=some cs)(cQ:∀k o,look k aq.e=some o->look k st.e=some o)
  (h:bV st e6 fun r=>ak (ag aq) r/\Q r aq):bL e6 s Q e st:=by
 unfold bV at h;split at h
 ·rename_i c b2 hr;exact bL.ob k0 hr h.1 au eQ ao cQ h.2.1 h.2.2
 ·exact h.elim
theorem hf.ob{P:b3}{nw:List Nat}{n:Nat}{args:List al}{st:a6}{d:a1 Nat}{K:a6->Prop}{s aq:dF}{r:al}(aY:bJ P n args s fun dh eH=>dh=r/\eH=aq)(au:gJ s)(gq:gJ aq)(eQ:Same s aq)(ao:∀k cs,look k s.b=some cs->look k st.b=some cs)(he:∀k o,look k s.e=some o->look k st.e=some o)
  (aa:aj (ag s) args) (h:K ⟨fk d r st.t,aX s.b st.b++aq.b,aX s.e st.e++aq.e,st.n,st.o⟩):hf P false nw n args st d K:=
 .inr ⟨s,aq,r,none,fun k cs aH=>⟨ao k cs aH,.inl (by simp[aH]),au.kb k cs aH⟩,fun k o az=>⟨he k o az,.inr (by simp[az]),au.ke k o az⟩,au.obj,gq.obj,⟨fun k aa=>.inl (by rw[eQ.b];exact aa),fun k aa=>.inl (by rw[eQ.e];exact aa),fun k aa=>by rw[<-eQ.b];exact aa,fun k aa=>by rw[<-eQ.e];exact aa,fun k aa=>by cases aa⟩,aa,aY,(fun e=>by cases e),h⟩
theorem hf.new{P:b3}{nw:List Nat}{n:Nat}{args:List al}{st:a6}{d:a1 Nat}{K:a6->Prop}{m:Nat}{cs:List al}{r:al}(aY:bJ P n args ⟨[],[]⟩ fun dh eH=>dh=r/\eH=⟨[(.obj m,cs)],[]⟩)(hm:m∈nw)(ao:look (.obj m) st.b=none)(he:look (.obj m) st.e=none)
  (aa:aj (fun _=>dD) args) (h:K ⟨fk d r st.t,st.b++[(.obj m,cs)],st.e,st.n,st.o⟩):hf P false nw n args st d K:=by
 refine .inr ⟨⟨[],[]⟩,⟨[(.obj m,cs)],[]⟩,r,some (.obj m),fun k cs aa=>by simp[look]at aa,fun k cs aa=>by simp[look]at aa,wK,⟨fun j=>by simp[look],fun j=>by simp[look]⟩,⟨fun k aa=>?_,fun k aa=>by simp[look]at aa,fun k aa=>by simp[look]at aa,fun k aa=>by simp[look]at aa,fun k aa=>?_⟩,u4 (fun _ h=>h.elim) _ aa,aY,(fun e=>by cases e),?_⟩
 ·simp only[look]at aa;split at aa
  ·rename_i e;subst e;exact .inr rfl
  ·cases aa
 ·simp only[dH]at aa;subst aa;exact⟨⟨m,hm,rfl⟩,ao,he,.inl (by simp[look])⟩
 ·have:({after st ⟨[],[]⟩ ⟨[(.obj m,cs)],[]⟩ d r with o:=st.o}:a6)=⟨fk d r st.t,st.b++[(.obj m,cs)],st.e,st.n,st.o⟩:=by simp[after,Hb]
  rw[this];exact h
theorem gJ.of{s:dF}(az:jc s)(ao:∀x∈s.b,aj (ag s) x.2)(he:∀x∈s.e,∀xs,x.2.xs=some xs->aj (ag s) xs):gJ s:=⟨az,fun k cs aa=>ao (k,cs) (wD aa),fun k o aa xs ad=>he (k,o) (wD aa) xs ad⟩
@[simp]theorem alR(b:List (aO×List al))(e:List (aO×dU)):gj ⟨b,e⟩=b.map (·.1)++e.map (·.1):=rfl
theorem ad1{α:Type}{s b:List (aO×α)}(h:∀p∈s,look p.1 b=some p.2):∀k x,look k s=some x->look k b=some x:=fun k x ad=>h (k,x) (wD ad)
theorem cg{S:aO->Prop}{fN b:List (aO×List al)}(h:∀p∈fN,look p.1 b=some p.2/\S p.1/\aj S p.2):oX S fN b:=fun k x ad=>h (k,x) (wD ad)
theorem ch{S:aO->Prop}{fN b:List (aO×dU)}(h:∀p∈fN,look p.1 b=some p.2/\S p.1/\cc S p.2):oY S fN b:=fun k x ad=>h (k,x) (wD ad)
theorem ai{α:Type}{s b:List (aO×α)}(h:∀k x,look k s=some x->look k b=some x:=by first|(refine ad1 ?_;simp;done)|(intro k x ad;first|exact ad|(simp[ad,DP];done)|(simp[sp,DP,ad];done)|(cases k<;>simp_all[sp];done))):∀k x,look k s=some x->look k b=some x:=h
theorem cX{ob:List aO}{st st':a6}(I:∀x∈st'.t,get x.1 st.t=x.2/\ak (fun k=> ¬fresh st'.n st'.o k) x.2:=by simp[fresh,aj,ak,bj,ag,Pv.look])(J:∀p∈st'.b,look p.1 st.b=some p.2/\(¬fresh st'.n st'.o p.1)/\aj (fun k=> ¬fresh st'.n st'.o k) p.2:=by simp[fresh,aj,ak,bj,ag,Pv.look])(aA:∀p∈st'.e,look p.1 st.e=some p.2/\(¬fresh st'.n st'.o p.1)/\cc (fun k=> ¬fresh st'.n st'.o k) p.2:=by simp[fresh,aj,ak,cc,ag,Pv.look])(aS:∀m∈ob,m∈st'.o:=by simp):mm ob st st':=⟨I,cg J,ch aA,aS⟩
theorem bU.next{ob:List aO}{jz:Nat->a6->Prop}{k:Nat}{Q:Exit->a6->Prop}{st:a6}(bz:Nat){aq:a6}(aa:bz<k)(aE:jz bz aq)(hw:mm ob st aq):bU ob jz k Q .normal st:=⟨bz,aq,aa,hw,aE⟩
def lx:List (Int×al)->List al
 |[]=>[]
 |(k,v)::r=>.int .i64 k::v::lx r
def lJ(l:List (Int×al)):List al:= .hdm l.length (List.range l.length)::lx l
def vO(k:Int):List (Int×al)->a1 al
 |[]=>none
 |(i,v)::r=>if k=i then some v else vO k r
def qR(k:Int)(v:al):List (Int×al)->a1 (List (Int×al))
 |[]=>none
 |(i,w)::r=>if k=i then some ((k,v)::r)else match qR k v r with|some dh=>some ((i,w)::dh)|none=>none
def nG(k:Int)(v:al)(l:List (Int×al)):List (Int×al):=match qR k v l with|some cF=>cF|none=>l++[(k,v)]
@[simp]theorem alD:[al.hdm 0 []]=lJ []:=rfl
theorem PX:∀a b,lx (a++b)=lx a++lx b
 |[],_=>rfl
 |(k,v)::r,b=>by simp[lx,PX r b]
theorem SA(k:Int):∀l,tQ .i (.int .i64 k) (lx l)=some (vO k l)
 |[]=>rfl
 |(i,v)::r=>by
  simp only[lx,tQ,u3,vO];by_cases h:k=i
  ·simp[h]
  ·have:(k==i)=false:=by simp[h]
   simp[h,SA k r,this]
theorem Nc{k:Int}{v:al}:∀{l cF},qR k v l=some cF->cF.length=l.length
 |[],_,h=>by simp[qR]at h
 |(i,w)::r,cF,h=>by
  simp only[qR]at h;split at h
  ·cases h;rfl
  ·split at h
   ·rename_i dh hr;cases h;simp[Nc hr]
   ·cases h
theorem SI(k:Int)(v:al):∀l,vf .i (.int .i64 k) v (lx l)=some ((qR k v l).map lx)
 |[]=>rfl
 |(i,w)::r=>by
  simp only[lx,vf,u3,qR];by_cases h:k=i
  ·subst h;simp[lx]
  ·simp only[and_self,if_true,h,if_false,dK,SI k v r];have:(k==i)=false:=by simp[h]
   rw[this];cases qR k v r<;>simp[lx]
@[simp]theorem aeA(k:Int)(v:al)(l:List (Int×al)):ra .i (.int .i64 k) v (lJ l)=some (lJ (nG k v l)):=by
 simp only[lJ,ra,Sb,Bool.true_eq_false,reduceCtorEq,if_false,SI,nG];cases h:qR k v l with
 |some cF=>simp[Nc h]
 |none=>simp[PX,lx,List.range_succ]
@[simp]theorem np(f:aO->a1 (List al))(m:aO)(l:List (Int×al))(z:al)(ok:Bool)(k:Int)(hm:f m=some (lJ l)):oN f .i z ok (.gmap m) (.int .i64 k)=(match vO k l with
  |some v=>some (True,if ok then .tuple [v,.bool true]else v)
  |none=>some (True,if ok then .tuple [z,.bool false]else z)):=by
 simp only[SD,hm,lJ,Sb,Bool.true_eq_false,reduceCtorEq,if_false,SA];cases vO k l<;>rfl
def bj(n:Nat)(seen:List Nat)(m:aO):List al:=[.hdi n seen n,.gmap m]
@[simp]theorem al0(m:aO)(l:List (Int×al)):Dj m (lJ l)=some (bj l.length [] m):=rfl
@[simp]theorem alX(l:List (Int×al)):iH (lJ l)=false:=rfl
theorem Kj(b:Nat):∀(n:Nat) (l:List (Int×al)),oM b (List.range' n l.length) (lx l)=(if n<=b then(l[b-n]?).map fun x=>.tuple [.int .i64 x.1,x.2]else none)
 |n,[]=>by simp[oM,lx]
 |n,(k,v)::r=>by
  simp only[ga,List.range'_succ,lx,oM];by_cases h:n=b
  ·subst h;simp
  ·rw[bo h,Kj b (n+1) r];by_cases J:n<=b
   ·rw[bP J,bP Ω];have:b-n=(b-(n+1))+1:=Ω
    rw[this];simp
   ·rw[bo J,bo Ω]
@[simp]theorem aeu(f:aO->a1 (List al))(hl mk:aO)(n:Nat)(seen:List Nat)(b:Nat)(l:List (Int×al))(aE:f hl=some (bj n (seen++[b]) mk))(hm:f mk=some (lJ l))(aJ:n=l.length):tP f (.ptr hl 0)=(l[b]?).map fun x=>(True,.tuple [.int .i64 x.1,x.2]):=by subst aJ;simp only[aev,aE,hm,bj,lJ,List.getLast?_append,List.getLast?_singleton,Option.some_or,List.range_eq_range',Kj,o3,if_true,Nat.sub_zero,Option.map_map];cases l[b]?<;>simp
theorem Yn{st:a6}{d:Nat}{K:a6->Prop}{hl mk:aO}{n:Nat}{seen:List Nat}{l:List (Int×al)}(aE:look hl st.b=some (bj n seen mk))(hm:look mk st.b=some (lJ l))(aJ:n=l.length)
  (I:(∀b,b<n->b∈seen)->K {st with t:=put d (.tuple [.bool false]) st.t}) (J:∀b k v,l[b]? =some (k,v)->b∉seen->K {st with t:=put d (.tuple [.bool true,.int .i64 k,v]) st.t,b:=dd hl (bj n (seen++[b]) mk) st.b}):
  xA st d (.ptr hl 0) K:=by
 subst aJ;simp only[xA,aE,bj,hm,lJ,SM,and_self,true_and];refine⟨fun h=>I fun b ao=>h b (by simpa using ao),fun b k v Jp ao=>?_⟩;rw[List.range_eq_range',Kj]at Jp;simp only[o3,if_true,Nat.sub_zero,hc,al.tuple.injEq,w9,and_true]at Jp;obtain⟨⟨bz,v'⟩,aB,aU,b1⟩:=Jp;simp only at aU b1;subst aU b1;exact J b bz v' aB ao
theorem af9{n:Nat}{seen:List Nat}(aP:seen.Nodup)(bY:∀b∈seen,b<n)(j9:∀b,b<n->b∈seen):seen.Perm (List.range n):=(List.perm_ext_iff_of_nodup aP List.nodup_range).2 fun b=>⟨fun h=>by simpa using bY b h,fun h=>j9 b (by simpa using h)⟩
theorem UY{n:Nat}{seen:List Nat}(aP:seen.Nodup)(bY:∀b∈seen,b<n):seen.length<=n:=by have:=aiP aP (l₂:=List.range n) (fun b ao=>by simpa using bY b ao);simpa using this
theorem ahe{n b:Nat}{seen:List Nat}(aP:seen.Nodup)(bY:∀b∈seen,b<n)(ao:b<n)(aJ:b∉seen):seen.length<n:=by have I:(b::seen).Nodup:=List.nodup_cons.2 ⟨aJ,aP⟩;have:=UY I (n:=n) (by simp;exact⟨ao,bY⟩);simp at this;omega
theorem Uc{α:Type}:∀(l pre:List α),(List.range' pre.length l.length).filterMap (fun b=>(pre++l)[b]?)=l
 |[],_=>rfl
 |x::r,pre=>by have bp:=Uc r (pre++[x]);simp only[fU,List.length_singleton,iI,List.singleton_append]at bp;simp[List.range'_succ,bp]
theorem ahd{α:Type}{l:List α}{seen:List Nat}(aP:seen.Nodup)(bY:∀b∈seen,b<l.length)(j9:∀b,b<l.length->b∈seen):(seen.filterMap fun b=>l[b]?).Perm l:=by have I:=(af9 aP bY j9).filterMap fun b=>l[b]?;have J:=Uc l [];simp only[mh,eW,<-List.range_eq_range']at J;rwa[J]at I
theorem aeP{b:Nat}{seen:List Nat}(aP:seen.Nodup)(aJ:b∉seen):(seen++[b]).Nodup:=by rw[rG];exact⟨aP,Ψ,by simp;intro a bM e;subst e;exact aJ bM⟩
theorem cv.start{w:World}{ν:aW}(gl:oc w ν){s:dF}{args:List al}{vs:Array Value}(p8:jc s)(aR:Good (gn ν s) w ν s.b s.e)(ad:qW ν s)(hr:cw w ν args vs.toList):
  cv ⟨w,ν,gn ν s,vs.size,gj s,gl,[]⟩ ⟨kA 0 args,s.b,s.e,0,gj s⟩ {tmps:=vs,defers:=[]} w ν:=by
 have pj:=Dr hr;have gh:vs.size=args.length:=by simpa using pj
 have nh:∀k,fresh 0 (gj s) k->ν.bx k=none/\ν.ow k=none/\∀j b,¬ν.tr k j b:=by
  intro k aa;cases k with
  |loc m=>exact⟨(ad _).1 (p8.1 m),(ad _).2.1 (p8.2 m),(ad _).2.2⟩
  |obj m=>
   simp only[fresh,true_and]at aa;refine⟨?_,?_,(ad _).2.2⟩
   ·refine(ad _).1 ?_;cases h:look (.obj m) s.b with
    |none=>rfl
    |some x=>exact absurd (Ai (.inl (by simp[h]))) aa
   ·refine(ad _).2.1 ?_;cases h:look (.obj m) s.e with
    |none=>rfl
    |some x=>exact absurd (Ai (.inr (by simp[h]))) aa
 have oF:∀m,(ν.bx (.obj m)≠none\/ν.ow (.obj m)≠none)-> .obj m∈gj s:=by
  intro m hm;refine Classical.byContradiction fun aH=>?_;obtain⟨I,J,_⟩:=nh (.obj m) ⟨trivial,aH⟩;rcases hm with hm|hm
  ·exact hm I
  ·exact hm J
 refine⟨⟨aR.alt,fun k cs aa=>?_,aR.inj,fun g o eL=>?_,aR.oinj,aR.obx,aR.one,aR.otr⟩,⟨rfl,rfl,rfl,c7 _,fun _ _ _=>rfl,fun b o h=>⟨h,rfl⟩,fun b o h=>.inl h,fun n b h=>h,fun n b h=>oF n (.inl (by rw[h];simp)),fun m n u h=>⟨n,u,h,.inl ⟨rfl,rfl⟩⟩,fun m n u h=>oF m (.inr (by rw[h];simp)),fun k j _ _ b h=>absurd h ((ad k).2.2 j b),fun k j b h=>absurd h ((ad k).2.2 j b),fun k j b h=>absurd h ((ad k).2.2 j b),fun _ _ _=>rfl,fun j n u b aB _=>(by rw[(ad _).2.1 (p8.2 j)]at aB;cases aB)⟩,rfl,rfl,fun i=>?_,nh,fun _ ad=>(by cases ad),fun m hm aY=>aY.2 hm⟩
 ·obtain⟨bl,us,el,g1,g2,g3⟩:=aR.box k cs aa;exact⟨bl,us,el,g1,.inl g2,g3⟩
 ·obtain⟨v,us,g1,g2,g3,g4⟩:=aR.own g o eL;exact⟨v,us,g1,g2,fun bl eE=>⟨.inl (g3 bl eE).1,(g3 bl eE).2⟩,g4⟩
 ·rw[EM];by_cases aE:i<args.length
  ·rw[bP Ω];have uT:args[i]? =some args[i]:=cS aE;obtain⟨v,aB,aU⟩:=GI i hr uT;have Eo:vs[i]? =some v:=by simpa using aB
   show aT w ν _ (vs.getD i undef);rw[Array.getD_eq_getD_getElem?,Eo];simpa[List.getD,uT]using aU
  ·rw[bo Ω];simp[aT]
theorem bJ.sem{P:b3}{f:FuncId}{args:List al}{s:dF}{Q:al->dF->Prop}(p8:jc s)
  (h:∀(w:World) (ν:aW) (vs:Array Value) (gl:oc w ν),vs.size=args.length->cv ⟨w,ν,gn ν s,vs.size,gj s,gl,[]⟩ ⟨kA 0 args,s.b,s.e,0,gj s⟩ {tmps:=vs,defers:=[]} w ν->
   vF P f vs w fun e w'=> ∃v st' c1 ν' r aq,e= .returned v/\cv ⟨w,ν,gn ν s,vs.size,gj s,gl,[]⟩ st' c1 w' ν'/\aT w' ν' r v/\gE aq s.b/\gE aq s.e/\oX (ag aq) aq.b st'.b/\oY (ag aq) aq.e st'.e/\jc aq/\ak (ag aq) r/\Q r aq):bJ P f args s Q:=by
 intro w ν vs gl aR ad hr;have gh:vs.size=args.length:=by simpa using Dr hr
 have p7:=cv.start gl p8 aR ad hr;have hm:∀(e:Ending) (w':World),(∃v st' c1 ν' r aq,e= .returned v/\cv ⟨w,ν,gn ν s,vs.size,gj s,gl,[]⟩ st' c1 w' ν'/\aT w' ν' r v/\gE aq s.b/\gE aq s.e/\oX (ag aq) aq.b st'.b/\oY (ag aq) aq.e st'.e/\jc aq/\ak (ag aq) r/\Q r aq)->
   ∃v r aq ν',e= .returned v/\Q r aq/\aT w' ν' r v/\Good (fun bl=>gn ν s bl\/w.heap.size<=bl) w' ν' aq.b aq.e/\qW ν' aq/\jc aq/\qG ⟨w,ν,gn ν s,0,gj s,gl,[]⟩ w' ν':=by
  rintro e w' ⟨v,st',c1,ν',r,aq,rfl,dA,KS,kb,ke,cz,db,eo,dC,dc⟩;refine⟨v,r,aq,ν'.cut (ag aq),rfl,dc,sF (oe.cut _ w' ν') _ _ dC KS,dA.good.cut cz db (fun bl h _=>h),?_,eo,?_⟩
  ·intro k;refine⟨?_,?_,?_⟩;rotate_left 2
   ·rintro j b ⟨au,ao⟩;obtain⟨t1,t2⟩:=dA.fr.trn k j b ao;rcases au with au|au<;>obtain⟨x,qa⟩:=fG.1 au
    ·obtain⟨bl,bI,el,aB,_⟩:=dA.good.box k x (cz k x qa).1;rw[t1]at aB;cases aB
    ·obtain⟨v',bI,aB,_⟩:=dA.good.own k x (db k x qa).1;rw[t2]at aB;cases aB
   ·intro aa;by_cases au:ag aq k
    ·rw[aW.cut_bx au];rcases au with au|au
     ·rw[aa]at au;cases au
     ·obtain⟨x,qa⟩:=fG.1 au;obtain⟨v',bI,aB,_⟩:=dA.good.own k x (db k x qa).1;rcases dA.good.one k with I|I
      ·exact I
      ·rw[I]at aB;cases aB
    ·exact(aW.cut_no au).1
   ·intro aa;by_cases au:ag aq k
    ·rw[aW.cut_ow au];rcases au with au|au
     ·obtain⟨x,qa⟩:=fG.1 au;obtain⟨bl,bI,el,aB,_⟩:=dA.good.box k x (cz k x qa).1;rcases dA.good.one k with I|I
      ·rw[I]at aB;cases aB
      ·exact I
     ·rw[aa]at au;cases au
    ·exact(aW.cut_no au).2.1
  ·refine⟨dA.fr.os,dA.fr.tape,dA.fr.output,dA.fr.size,dA.fr.block,dA.fr.keep,dA.fr.fresh,fun n b h=>?_,dA.fr.obn,fun m n u h=>?_,dA.fr.obr,fun k j bz fb b I J=>dA.fr.trd k j bz fb b I.2 J.2,fun k j b ao=>dA.fr.trb k j b ao.2,fun k j b ao=>(by rw[aW.cut_bx ao.1,aW.cut_ow ao.1];exact dA.fr.trn k j b ao.2),dA.fr.sh,fun j n u b aB aU=>dA.fr.nrow j n u b (aW.cut_someO aB).2 aU⟩
   ·have au:ag aq (.obj n):=by
     cases aG:look (.obj n) s.b with
     |none=>rw[(ad _).1 aG]at h;cases h
     |some x=>exact CM kb _ (by simp[aG])
    rw[aW.cut_bx au];exact dA.fr.obj n b h
   ·have au:ag aq (.obj m):=by
     cases aG:look (.obj m) s.e with
     |none=>rw[(ad _).2.1 aG]at h;cases h
     |some x=>exact CM ke _ (by simp[aG])
    rw[aW.cut_ow au];exact dA.fr.row m n u h
 rcases h w ν vs gl gh p7 with⟨zI,aH⟩|⟨v,w',aH,k6⟩
 ·exact .inl ⟨zI,aH.mono hm⟩
 ·exact .inr ⟨v,w',aH,hm _ _ k6⟩
theorem cv.grown{C:eI}{st:a6}{a:Act}{w w':World}{ν:aW}(h:cv C st a w ν)(aR:w.grownBy w' none):cv C st a w' ν:=by
 have nP:lW w ν w' ν:=⟨fun b o bq=>⟨bq,OM aR (h.good.alt b o bq)⟩,fun _ _ _ h=>h,fun _ n u _ h=>⟨n,u,h,.inl ⟨rfl,rfl⟩⟩,fun b o bq=>yJ (aR.block b (h.good.alt b o bq) Ψ),fun _ _ _ _ h=>h⟩;refine h.over nP rfl ⟨fun b o bq=>Nat.lt_of_lt_of_le (h.good.alt b o bq) aR.size,fun k cs aa=>?_,h.good.inj,fun g o eL=>?_,h.good.oinj,h.good.obx,h.good.one,h.good.otr⟩
  ⟨aR.os.trans h.fr.os,aR.tape.trans h.fr.tape,aR.output.trans h.fr.output,Nat.le_trans h.fr.size aR.size,fun k aa hm=>?_,fun b o bq=>?_,h.fr.fresh,h.fr.obj,h.fr.obn,h.fr.row,h.fr.obr,h.fr.trd,fun k j b ao=>⟨(h.fr.trb k j b ao).1,Nat.lt_of_lt_of_le (h.fr.trb k j b ao).2 aR.size⟩,h.fr.trn,fun b o bq=>(nP.sh b o (h.fr.keep b o bq).1).trans (h.fr.sh b o bq),h.fr.nrow⟩ h.new
 ·obtain⟨bl,us,el,g1,g2,g3,g4,g5⟩:=h.good.box k cs aa;exact⟨bl,us,el,g1,g2,g3,by rw[aR.block bl (Array.getElem?_eq_some_iff.1 g4).1 Ψ];exact g4,pz nP g5⟩
 ·obtain⟨v,us,g1,g2,g3,g4⟩:=h.good.own g o eL;exact⟨v,us,g1,g2.kept aR (by cases v.ownBlock<;>simp),g3,rj nP (fun _ _ _ h=>h) g4⟩
 ·rw[aR.block k (Nat.lt_of_lt_of_le aa h.fr.size) Ψ];exact h.fr.block k aa hm
 ·obtain⟨cE,dj⟩:=h.fr.keep b o bq;exact⟨cE,(nP.A b o cE).2.trans dj⟩
end
end Go.Pv
namespace Go.Proofs
section
open Go.Shelf
def Tryz.lays169_ren:Go.Shelf.Ren:=⟨fun|169=>66|n=>n,fun|70=>104|9=>9|0=>0|72=>106|37=>35|127=>181|3=>3|5=>5|n=>n,fun|n=>n⟩
theorem Tryz.lays169:Go.Proofs.Lays.n169 aQ Tryz.lays169_ren:={
 mixed:=by kernel_rfl
 f169:=Tryz.func66.trans (dZ some (by kernel_rfl))
 t0:=Tryz.underlying0
 a0:=Tryz.isAgg0
 z0:=Tryz.sizeOf0
 v0:=Tryz.zeroValue0
 t3:=Tryz.underlying3
 a3:=Tryz.isAgg3
 z3:=Tryz.sizeOf3
 v3:=Tryz.zeroValue3
 t9:=Tryz.underlying9
 a9:=Tryz.isAgg9
 z9:=Tryz.sizeOf9
 v9:=Tryz.zeroValue9
 t37:=Tryz.underlying35
 a37:=Tryz.isAgg35
 z37:=Tryz.sizeOf35
 v37:=Tryz.zeroValue35
 t70:=Tryz.underlying104
 a70:=Tryz.isAgg104
 z70:=Tryz.sizeOf104
 v70:=Tryz.zeroValue104
 t72:=Tryz.underlying106
 a72:=Tryz.isAgg106
 z72:=Tryz.sizeOf106
 v72:=Tryz.zeroValue106
 t127:=Tryz.underlying181
 a127:=Tryz.isAgg181
 z127:=Tryz.sizeOf181
 v127:=Tryz.zeroValue181}
theorem Tryz.builderE:Builder.Extra aQ Tryz.lays169_ren:={
 sizeBuilder:=by kernel_rfl
 liesBuilder:=by kernel_rfl
 t5:=Tryz.underlying5
 a5:=Tryz.isAgg5
 z5:=Tryz.sizeOf5
 v5:=Tryz.zeroValue5
 infoByte:=by kernel_rfl
 cellsByte:=by kernel_rfl
 sizeByte:=by kernel_rfl
 neB5:=by decide}
def Tryz.laysM171_ren:Go.Shelf.Ren:=⟨fun|171=>136|243=>192|246=>229|283=>261|284=>262|285=>263|286=>264|129=>241|317=>278|318=>279|319=>280|320=>281|337=>296|338=>297|n=>n,fun|3=>3|9=>9|2=>2|4=>4|171=>284|0=>0|53=>267|37=>35|5=>5|173=>286|212=>302|51=>265|20=>20|213=>303|46=>209|232=>326|233=>327|n=>n,fun|17=>0|18=>3|19=>4|n=>n⟩
theorem Tryz.laysM171:Go.Proofs.LaysM.n171 aQ Tryz.laysM171_ren:={
 mixed:=by kernel_rfl
 f129:=Tryz.func241.trans (dZ some (by kernel_rfl))
 f171:=Tryz.func136.trans (dZ some (by kernel_rfl))
 f243:=Tryz.func192.trans (dZ some (by kernel_rfl))
 f246:=Tryz.func229.trans (dZ some (by kernel_rfl))
 f283:=Tryz.func261.trans (dZ some (by kernel_rfl))
 f284:=Tryz.func262.trans (dZ some (by kernel_rfl))
 f285:=Tryz.func263.trans (dZ some (by kernel_rfl))
 f286:=Tryz.func264.trans (dZ some (by kernel_rfl))
 f317:=Tryz.func278.trans (dZ some (by kernel_rfl))
 f318:=Tryz.func279.trans (dZ some (by kernel_rfl))
 f319:=Tryz.func280.trans (dZ some (by kernel_rfl))
 f320:=Tryz.func281.trans (dZ some (by kernel_rfl))
 f337:=Tryz.func296.trans (dZ some (by kernel_rfl))
 f338:=Tryz.func297.trans (dZ some (by kernel_rfl))
 t0:=Tryz.underlying0
 a0:=Tryz.isAgg0
 z0:=Tryz.sizeOf0
 v0:=Tryz.zeroValue0
 t2:=Tryz.underlying2
 a2:=Tryz.isAgg2
 z2:=Tryz.sizeOf2
 v2:=Tryz.zeroValue2
 t3:=Tryz.underlying3
 a3:=Tryz.isAgg3
 z3:=Tryz.sizeOf3
 v3:=Tryz.zeroValue3
 t4:=Tryz.underlying4
 a4:=Tryz.isAgg4
 z4:=Tryz.sizeOf4
 v4:=Tryz.zeroValue4
 t5:=Tryz.underlying5
 a5:=Tryz.isAgg5
 z5:=Tryz.sizeOf5
 v5:=Tryz.zeroValue5
 t9:=Tryz.underlying9
 a9:=Tryz.isAgg9
 z9:=Tryz.sizeOf9
 v9:=Tryz.zeroValue9
 t20:=Tryz.underlying20
 a20:=Tryz.isAgg20
 z20:=Tryz.sizeOf20
 v20:=Tryz.zeroValue20
 t37:=Tryz.underlying35
 a37:=Tryz.isAgg35
 z37:=Tryz.sizeOf35
 v37:=Tryz.zeroValue35
 t46:=Tryz.underlying209
 a46:=Tryz.isAgg209
 z46:=Tryz.sizeOf209
 v46:=Tryz.zeroValue209
 t51:=Tryz.underlying265
 a51:=Tryz.isAgg265
 z51:=Tryz.sizeOf265
 v51:=Tryz.zeroValue265
 t53:=Tryz.underlying267
 a53:=Tryz.isAgg267
 z53:=Tryz.sizeOf267
 v53:=Tryz.zeroValue267
 t171:=Tryz.underlying284
 a171:=Tryz.isAgg284
 z171:=Tryz.sizeOf284
 v171:=Tryz.zeroValue284
 t173:=Tryz.underlying286
 a173:=Tryz.isAgg286
 z173:=Tryz.sizeOf286
 v173:=Tryz.zeroValue286
 t212:=Tryz.underlying302
 a212:=Tryz.isAgg302
 z212:=Tryz.sizeOf302
 v212:=Tryz.zeroValue302
 t213:=Tryz.underlying303
 a213:=Tryz.isAgg303
 z213:=Tryz.sizeOf303
 t232:=Tryz.underlying326
 a232:=Tryz.isAgg326
 z232:=Tryz.sizeOf326
 v232:=Tryz.zeroValue326
 t233:=Tryz.underlying327
 a233:=Tryz.isAgg327
 z233:=Tryz.sizeOf327
 v233:=Tryz.zeroValue327
 g17:=by kernel_rfl
 g18:=by kernel_rfl
 g19:=by kernel_rfl
 i0:=by kernel_rfl
 i2:=by kernel_rfl
 i3:=by kernel_rfl
 i4:=by kernel_rfl
 i5:=by kernel_rfl
 i9:=by kernel_rfl
 i20:=by kernel_rfl
 i37:=by kernel_rfl
 i46:=by kernel_rfl
 i51:=by kernel_rfl
 i53:=by kernel_rfl
 i171:=by kernel_rfl
 i173:=by kernel_rfl
 i212:=by kernel_rfl
 i232:=by kernel_rfl
 i233:=by kernel_rfl
 m17:=by kernel_rfl
 m18:=by kernel_rfl
 m19:=by kernel_rfl}
def Tryz.laysC172_ren:Go.Shelf.Ren:=⟨fun|172=>223|244=>257|245=>258|247=>273|279=>274|280=>275|281=>276|282=>277|287=>293|316=>294|171=>136|205=>295|321=>304|322=>305|243=>192|246=>229|283=>261|284=>262|285=>263|286=>264|129=>241|317=>278|318=>279|319=>280|320=>281|337=>296|338=>297|n=>n,fun|9=>9|3=>3|75=>108|76=>109|4=>4|5=>5|167=>295|37=>35|0=>0|85=>296|2=>2|168=>298|53=>267|175=>314|46=>209|210=>317|127=>181|145=>325|143=>323|21=>21|171=>284|173=>286|212=>302|51=>265|20=>20|213=>303|232=>326|233=>327|80=>112|n=>n,fun|15=>1|16=>2|17=>0|18=>3|19=>4|n=>n⟩
theorem Tryz.laysC172:Go.Proofs.LaysC.n172 aQ Tryz.laysC172_ren:={
 mixed:=by kernel_rfl
 f129:=Tryz.func241.trans (dZ some (by kernel_rfl))
 f171:=Tryz.func136.trans (dZ some (by kernel_rfl))
 f172:=Tryz.func223.trans (dZ some (by kernel_rfl))
 f205:=Tryz.func295.trans (dZ some (by kernel_rfl))
 f243:=Tryz.func192.trans (dZ some (by kernel_rfl))
 f244:=Tryz.func257.trans (dZ some (by kernel_rfl))
 f245:=Tryz.func258.trans (dZ some (by kernel_rfl))
 f246:=Tryz.func229.trans (dZ some (by kernel_rfl))
 f247:=Tryz.func273.trans (dZ some (by kernel_rfl))
 f279:=Tryz.func274.trans (dZ some (by kernel_rfl))
 f280:=Tryz.func275.trans (dZ some (by kernel_rfl))
 f281:=Tryz.func276.trans (dZ some (by kernel_rfl))
 f282:=Tryz.func277.trans (dZ some (by kernel_rfl))
 f283:=Tryz.func261.trans (dZ some (by kernel_rfl))
 f284:=Tryz.func262.trans (dZ some (by kernel_rfl))
 f285:=Tryz.func263.trans (dZ some (by kernel_rfl))
 f286:=Tryz.func264.trans (dZ some (by kernel_rfl))
 f287:=Tryz.func293.trans (dZ some (by kernel_rfl))
 f316:=Tryz.func294.trans (dZ some (by kernel_rfl))
 f317:=Tryz.func278.trans (dZ some (by kernel_rfl))
 f318:=Tryz.func279.trans (dZ some (by kernel_rfl))
 f319:=Tryz.func280.trans (dZ some (by kernel_rfl))
 f320:=Tryz.func281.trans (dZ some (by kernel_rfl))
 f321:=Tryz.func304.trans (dZ some (by kernel_rfl))
 f322:=Tryz.func305.trans (dZ some (by kernel_rfl))
 f337:=Tryz.func296.trans (dZ some (by kernel_rfl))
 f338:=Tryz.func297.trans (dZ some (by kernel_rfl))
 t0:=Tryz.underlying0
 a0:=Tryz.isAgg0
 z0:=Tryz.sizeOf0
 v0:=Tryz.zeroValue0
 t2:=Tryz.underlying2
 a2:=Tryz.isAgg2
 z2:=Tryz.sizeOf2
 v2:=Tryz.zeroValue2
 t3:=Tryz.underlying3
 a3:=Tryz.isAgg3
 z3:=Tryz.sizeOf3
 v3:=Tryz.zeroValue3
 t4:=Tryz.underlying4
 a4:=Tryz.isAgg4
 z4:=Tryz.sizeOf4
 v4:=Tryz.zeroValue4
 t5:=Tryz.underlying5
 a5:=Tryz.isAgg5
 z5:=Tryz.sizeOf5
 v5:=Tryz.zeroValue5
 t9:=Tryz.underlying9
 a9:=Tryz.isAgg9
 z9:=Tryz.sizeOf9
 v9:=Tryz.zeroValue9
 t20:=Tryz.underlying20
 a20:=Tryz.isAgg20
 z20:=Tryz.sizeOf20
 v20:=Tryz.zeroValue20
 t21:=Tryz.underlying21
 a21:=Tryz.isAgg21
 z21:=Tryz.sizeOf21
 v21:=Tryz.zeroValue21
 t37:=Tryz.underlying35
 a37:=Tryz.isAgg35
 z37:=Tryz.sizeOf35
 v37:=Tryz.zeroValue35
 t46:=Tryz.underlying209
 a46:=Tryz.isAgg209
 z46:=Tryz.sizeOf209
 v46:=Tryz.zeroValue209
 t51:=Tryz.underlying265
 a51:=Tryz.isAgg265
 z51:=Tryz.sizeOf265
 v51:=Tryz.zeroValue265
 t53:=Tryz.underlying267
 a53:=Tryz.isAgg267
 z53:=Tryz.sizeOf267
 v53:=Tryz.zeroValue267
 t75:=Tryz.underlying108
 a75:=Tryz.isAgg108
 z75:=Tryz.sizeOf108
 v75:=Tryz.zeroValue108
 t76:=Tryz.underlying109
 a76:=Tryz.isAgg109
 z76:=Tryz.sizeOf109
 v76:=Tryz.zeroValue109
 t85:=Tryz.underlying296
 a85:=Tryz.isAgg296
 z85:=Tryz.sizeOf296
 v85:=Tryz.zeroValue296
 t127:=Tryz.underlying181
 a127:=Tryz.isAgg181
 z127:=Tryz.sizeOf181
 v127:=Tryz.zeroValue181
 t143:=Tryz.underlying323
 a143:=Tryz.isAgg323
 z143:=Tryz.sizeOf323
 v143:=Tryz.zeroValue323
 t145:=Tryz.underlying325
 a145:=Tryz.isAgg325
 z145:=Tryz.sizeOf325
 v145:=Tryz.zeroValue325
 t167:=Tryz.underlying295
 a167:=Tryz.isAgg295
 z167:=Tryz.sizeOf295
 v167:=Tryz.zeroValue295
 t168:=Tryz.underlying298
 a168:=Tryz.isAgg298
 z168:=Tryz.sizeOf298
 v168:=Tryz.zeroValue298
 t171:=Tryz.underlying284
 a171:=Tryz.isAgg284
 z171:=Tryz.sizeOf284
 v171:=Tryz.zeroValue284
 t173:=Tryz.underlying286
 a173:=Tryz.isAgg286
 z173:=Tryz.sizeOf286
 v173:=Tryz.zeroValue286
 t175:=Tryz.underlying314
 a175:=Tryz.isAgg314
 z175:=Tryz.sizeOf314
 v175:=Tryz.zeroValue314
 t210:=Tryz.underlying317
 a210:=Tryz.isAgg317
 z210:=Tryz.sizeOf317
 v210:=Tryz.zeroValue317
 t212:=Tryz.underlying302
 a212:=Tryz.isAgg302
 z212:=Tryz.sizeOf302
 v212:=Tryz.zeroValue302
 t213:=Tryz.underlying303
 a213:=Tryz.isAgg303
 z213:=Tryz.sizeOf303
 t232:=Tryz.underlying326
 a232:=Tryz.isAgg326
 z232:=Tryz.sizeOf326
 v232:=Tryz.zeroValue326
 t233:=Tryz.underlying327
 a233:=Tryz.isAgg327
 z233:=Tryz.sizeOf327
 v233:=Tryz.zeroValue327
 g15:=by kernel_rfl
 g16:=by kernel_rfl
 g17:=by kernel_rfl
 g18:=by kernel_rfl
 g19:=by kernel_rfl
 t80:=Tryz.underlying112
 a80:=Tryz.isAgg112
 z80:=Tryz.sizeOf112
 v80:=Tryz.zeroValue112
 i0:=by kernel_rfl
 i2:=by kernel_rfl
 i3:=by kernel_rfl
 i4:=by kernel_rfl
 i5:=by kernel_rfl
 i9:=by kernel_rfl
 i20:=by kernel_rfl
 i21:=by kernel_rfl
 i37:=by kernel_rfl
 i46:=by kernel_rfl
 i51:=by kernel_rfl
 i53:=by kernel_rfl
 i75:=by kernel_rfl
 i76:=by kernel_rfl
 i80:=by kernel_rfl
 i85:=by kernel_rfl
 i127:=by kernel_rfl
 i143:=by kernel_rfl
 i145:=by kernel_rfl
 i167:=by kernel_rfl
 i168:=by kernel_rfl
 i171:=by kernel_rfl
 i173:=by kernel_rfl
 i175:=by kernel_rfl
 i210:=by kernel_rfl
 i212:=by kernel_rfl
 i232:=by kernel_rfl
 i233:=by kernel_rfl
 m15:=by kernel_rfl
 m16:=by kernel_rfl
 m17:=by kernel_rfl
 m18:=by kernel_rfl
 m19:=by kernel_rfl
 c0:=by kernel_rfl
 c2:=by kernel_rfl
 c3:=by kernel_rfl
 c4:=by kernel_rfl
 c5:=by kernel_rfl
 c9:=by kernel_rfl
 c20:=by kernel_rfl
 c21:=by kernel_rfl
 c37:=by kernel_rfl
 c46:=by kernel_rfl
 c51:=by kernel_rfl
 c53:=by kernel_rfl
 c75:=by kernel_rfl
 c76:=by kernel_rfl
 c80:=by kernel_rfl
 c85:=by kernel_rfl
 c127:=by kernel_rfl
 c143:=by kernel_rfl
 c145:=by kernel_rfl
 c167:=by kernel_rfl
 c168:=by kernel_rfl
 c171:=by kernel_rfl
 c173:=by kernel_rfl
 c175:=by kernel_rfl
 c210:=by kernel_rfl
 c212:=by kernel_rfl
 c213:=by kernel_rfl
 c232:=by kernel_rfl
 c233:=by kernel_rfl}
end
end Go.Proofs
namespace Go.Proofs.YtlnndmgfngfeiaaGreatDoor
section
open Go Go.Pv
def HX:C:=(af [cG 4 0,a8 5 (.mov (.c (.junk)))] (af [ab 6 0,cC 7 135 6] (af [ab 8 0,ab 9 0,gy 10 9,bm 11 1 1 10,a7 12 1 11,ab 13 1,cd (.apps 14 5 (.t 12) (.t 13)),gy 15 8,bm 16 1 1 15,bD 1 16 14] (af [ab 17 1,a8 18 (.slen (.t 17)),ab 4 18,a8 5 (.mov (.c (.junk)))] .ret))))
@[simp] def K4:List cu:=[.tmp 4,.tmp 5]
def Ny:C:=(af [a8 2 (.mov (.c (.str [])))] (af [ab 3 0,cC 4 136 3,ab 2 4] .ret))
@[simp] def agm:List cu:=[.tmp 2]
def HH:C:=(af [n4 2 1,bZ 3 false] (.seq (af [ab 9 0,a8 10 (.slen (.t 9)),bk 11 .gtr 10 100000] (bt 11 (af [n4 2 1,bZ 3 false] .ret) .skip)) (.seq (af [cG 4 0] (.block 0 (.loop (.seq (af [ab 12 4,ab 13 0,a8 14 (.slen (.t 13)),cA 15 .lss 12 14] (bt 15 .skip (.exit 0))) (.seq (.block 1 (af [ab 18 0,ab 19 4,a8 20 (.sidx (.t 18) (.t 19)),a8 21 (.bin .neq false (.t 20) (.c (.int .u8 10))),ab 22 21,b0 22 true 23 0,b0 22 true 24 4,aF 22 true (a8 25 (.sidx (.t 23) (.t 24))),aF 22 true (a8 26 (.bin .lss false (.t 25) (.c (.int .u8 32)))),b0 22 true 27 26,b0 27 false 28 0,b0 27 false 29 4,aF 27 false (a8 30 (.sidx (.t 28) (.t 29))),aF 27 false (a8 31 (.bin .gtr false (.t 30) (.c (.int .u8 126)))),aF 22 true (cH 32 27 31),ep 33 22 32] (bt 33 (af [n4 2 1,bZ 3 false] .ret) .skip))) (.region [ab 16 4,bk 17 .add 16 1,ab 4 17])))))) (af [fm 34 1 9 [],ab 5 34] (.seq (af [cG 6 0] (.block 2 (.loop (.seq (af [ab 35 6,ab 36 0,a8 37 (.slen (.t 36)),cA 38 .lss 35 37] (bt 38 .skip (.exit 2))) (.block 3 (af [ab 39 0,ab 40 6,a8 41 (.sidx (.t 39) (.t 40)),ab 7 41] (.block 4 (af [ab 88 7,a8 89 (.bin .eql false (.t 88) (.c (.int .u8 32))),ab 90 89,b0 90 false 91 7,aF 90 false (a8 92 (.bin .eql false (.t 91) (.c (.int .u8 10)))),cH 93 90 92,ab 87 93] (bt 87 (.region [ab 94 6,bk 95 .add 94 1,ab 6 95]) (af [ab 97 7,a8 98 (.bin .eql false (.t 97) (.c (.int .u8 59))),ab 96 98] (bt 96 (.block 7 (.loop (.seq (af [ab 99 6,ab 100 0,a8 101 (.slen (.t 100)),cA 102 .lss 99 101,ab 103 102,b0 103 true 104 0,b0 103 true 105 6,aF 103 true (a8 106 (.sidx (.t 104) (.t 105))),aF 103 true (a8 107 (.bin .neq false (.t 106) (.c (.int .u8 10)))),ep 108 103 107] (bt 108 .skip (.exit 7))) (.block 8 (.region [ab 109 6,bk 110 .add 109 1,ab 6 110]))))) (af [ab 112 7,a8 113 (.bin .eql false (.t 112) (.c (.int .u8 40))),ab 114 113,b0 114 false 115 7,aF 114 false (a8 116 (.bin .eql false (.t 115) (.c (.int .u8 41)))),cH 117 114 116,ab 111 117] (bt 111 (af [ab 118 5,ab 119 0,ab 120 6,ab 121 6,bk 122 .add 121 1,a8 123 (.ssl (.t 119) (some (.t 120)) (some (.t 122))),fm 124 1 9 [.t 123],j1 125 1 9 118 124,ab 5 125] (.region [ab 126 6,bk 127 .add 126 1,ab 6 127])) (af [ab 42 6,ab 8 42] (.seq (.block 5 (.loop (.seq (af (ab 43 8::ab 44 0::a8 45 (.slen (.t 44))::cA 46 .lss 43 45::ab 47 46::b0 47 true 48 0::b0 47 true 49 8::aF 47 true (a8 50 (.sidx (.t 48) (.t 49)))::aF 47 true (a8 51 (.bin .neq false (.t 50) (.c (.int .u8 32))))::ep 52 47 51::ab 53 52::b0 53 true 54 0::b0 53 true 55 8::aF 53 true (a8 56 (.sidx (.t 54) (.t 55)))::aF 53 true (a8 57 (.bin .neq false (.t 56) (.c (.int .u8 10))))::ep 58 53 57::ab 59 58::b0 59 true 60 0::b0 59 true 61 8::aF 59 true (a8 62 (.sidx (.t 60) (.t 61)))::aF 59 true (a8 63 (.bin .neq false (.t 62) (.c (.int .u8 40))))::ep 64 59 63::ab 65 64::b0 65 true 66 0::b0 65 true 67 8::aF 65 true (a8 68 (.sidx (.t 66) (.t 67)))::aF 65 true (a8 69 (.bin .neq false (.t 68) (.c (.int .u8 41))))::ep 70 65 69::ab 71 70::b0 71 true 72 0::b0 71 true 73 8::aF 71 true (a8 74 (.sidx (.t 72) (.t 73)))::aF 71 true (a8 75 (.bin .neq false (.t 74) (.c (.int .u8 59))))::ep 76 71 75::[]) (bt 76 .skip (.exit 5))) (.block 6 (.region [ab 77 8,bk 78 .add 77 1,ab 8 78]))))) (af [ab 79 5,ab 80 0,ab 81 6,ab 82 8,a8 83 (.ssl (.t 80) (some (.t 81)) (some (.t 82))),fm 84 1 9 [.t 83],j1 85 1 9 79 84,ab 5 85] (.region [ab 86 8,ab 6 86]))))))))))))))))) (.seq (af [ab 128 5,cJ 129 128,bk 130 .gtr 129 20000] (bt 130 (af [n4 2 1,bZ 3 false] .ret) .skip)) (af [ab 131 5,ab 2 131,bZ 3 true] .ret)))))))
@[simp] def Av:List cu:=[.tmp 2,.tmp 3]
def NA:C:=(af [fl 1 0,a8 2 (.mov (.c (.str [])))] (.seq (af [bO 4 4 1,cC 5 77 4,dq 6 5] (bt 6 (af [a8 2 (.mov (.c (.str [])))] .ret) .skip)) (af [a8 7 (.build [.nilp,.slice 1 .nil []] []),cd (.box 8 (some 861) (.t 7)),ab 3 8] (af [ab 9 3,bO 10 4 1,eN 11 153 9 10] (af [ab 12 3,⟨none,.opn (some 13) (.c (.func 66 [])) [.t 12]⟩,ab 2 13] .ret)))))
@[simp] def TJ:List cu:=[.tmp 2]
def NY:C:=(af [gI 2 dv] (af [ab 3 0,ll 4 dv [(0,1,(b6 1)),(1,1,(.t 3))],bD 4 2 4] .ret))
@[simp] def agB:List cu:=[.cell 2 true 4]
def NG:C:=(af [a8 4 (.mov (.c (.str [])))] (af [cd (.bslm 8 none 1 5 []),ab 5 8] (.seq (af [ab 9 0,cJ 10 9,cG 11 0] (jx 12 11 10 (.seq (.block 1 (af [ab 13 11,dm 14 1 9 11,a7 15 1 14,ab 6 13,ab 7 15] (.seq (af [ab 16 6,bk 17 .gtr 16 0] (bt 17 (.region [ab 18 5,ab 19 1,cd (.apps 20 5 (.t 18) (.t 19)),ab 5 20]) .skip)) (.region [ab 21 5,ab 22 7,cd (.apps 23 5 (.t 21) (.t 22)),ab 5 23])))) (.region [bk 24 .add 11 1,ab 11 24])))) (.seq (.pub 5 (.region [ab 25 5,a8 26 (.b2s (.t 25)),ab 4 26])) .ret))))
@[simp] def TL:List cu:=[.tmp 4]
def rO:C:=(af [fl 3 1] (af [bm 4 0 1 3,a7 5 1 4] (.block 0 (af [bk 7 .eql 5 0,ab 6 7] (bt 6 (.region [ab 8 0,⟨none,.call (some 9) (.c (.func 62 [])) [.t 8,(.c (.str [40,41]))]⟩]) (af [bk 11 .eql 5 1,ab 10 11] (bt 10 (.region [ab 12 0,bm 13 1 1 3,a7 14 1 13,cC 15 63 14,a8 16 (.bin .add false (.c (.str [63])) (.t 15)),eN 17 62 12 16]) (af [bk 19 .eql 5 2,ab 18 19] (bt 18 (.region [ab 20 0,bm 21 2 1 3,a7 22 1 21,eN 23 62 20 22]) (af [bk 25 .eql 5 3,ab 24 25] (bt 24 (.region [ab 26 0,bm 27 1 1 3,a7 28 1 27,cC 29 63 28,eN 30 62 26 29]) (af [bk 32 .eql 5 4,ab 31 32] (bt 31 (af [ab 33 0,⟨none,.call (some 34) (.c (.func 62 [])) [.t 33,(.c (.str [40]))]⟩] (af [ab 35 0,bm 36 3 1 3,a7 37 1 36,mO 38 4 37 0,bO 39 4 38,eN 40 153 35 39] (af [bm 41 3 1 3,a7 42 1 41,mO 43 4 42 1,bO 44 4 43,bD 4 3 44] (.seq (.block 1 (.loop (.seq (af [bm 45 0 1 3,a7 46 1 45,bk 47 .eql 46 4] (bt 47 .skip (.exit 1))) (.block 2 (af [ab 48 0,⟨none,.call (some 49) (.c (.func 62 [])) [.t 48,(.c (.str [32]))]⟩] (af [ab 50 0,bm 51 3 1 3,a7 52 1 51,mO 53 4 52 0,bO 54 4 53,eN 55 153 50 54] (.region [bm 56 3 1 3,a7 57 1 56,mO 58 4 57 1,bO 59 4 58,bD 4 3 59]))))))) (.seq (af [bm 60 0 1 3,a7 61 1 60,bk 62 .neq 61 0] (bt 62 (af [ab 63 0,⟨none,.call (some 64) (.c (.func 62 [])) [.t 63,(.c (.str [32,46,32]))]⟩] (.region [ab 65 0,bO 66 4 3,eN 67 153 65 66])) .skip)) (.region [ab 68 0,⟨none,.call (some 69) (.c (.func 62 [])) [.t 68,(.c (.str [41]))]⟩])))))) .skip)))))))))))))
@[simp] def nx:List cu:=[]
def Br:C:=(af [cG 2 0,bZ 3 false] (af [ab 7 0,cC 8 223 7,ab 6 8,dI 9 0 6,dI 10 1 6,ab 4 9,ab 5 10] (.seq (af [ab 11 5,a8 12 (.isn true (.t 11)),ab 13 12,b0 13 false 14 4,aF 13 false (cC 15 136 14),b0 13 false 16 0,aF 13 false (cA 17 .neq 15 16),cH 18 13 17] (bt 18 (af [cG 2 0,bZ 3 false] .ret) .skip)) (af [ab 19 4,ab 2 19,bZ 3 true] .ret))))
@[simp] def TN:List cu:=[.tmp 2,.tmp 3]
def NO:C:=(af [gI 2 dv] (af [ll 5 dv [],gI 3 dv,bD 4 3 5] (.seq (af [ab 6 0,cJ 7 6,bk 8 .sub 7 1,ab 4 8] (.block 0 (.loop (.seq (af [ab 9 4,bk 10 .geq 9 0] (bt 10 .skip (.exit 0))) (.seq (.block 1 (.drawn true 20 [ab 13 0,ab 14 4,dm 15 4 13 14,bO 16 4 15,bO 17 4 3,eN 18 206 16 17,bD 4 3 18])) (.region [ab 11 4,bk 12 .sub 11 1,ab 4 12])))))) (af [bO 19 4 3,bD 4 2 19] .ret))))
@[simp] def TS:List cu:=[.cell 2 true 4]
def NU:C:=(af [gI 2 dv] (af [ab 3 0,ll 4 dv [(0,1,(b6 2)),(2,1,(.t 3))],bD 4 2 4] .ret))
@[simp] def agv:List cu:=[.cell 2 true 4]
def NQ:C:=(af [gI 2 dv] (af [ab 3 0,ll 4 dv [(0,1,(b6 3)),(1,1,(.t 3))],bD 4 2 4] .ret))
@[simp] def agt:List cu:=[.cell 2 true 4]
def rz:List (Nat×dt):=[
 (3,⟨1,8,.int .i64,.int .i64 0⟩),
 (5,⟨1,1,.int .u8,.int .u8 0⟩),
 (9,⟨1,16,.str,.str []⟩),
 (35,⟨1,24,.slice 5,.slice 1 .nil []⟩),
 (38,⟨1,24,.slice 40,.slice 4 .nil []⟩),
 (40,⟨4,56,.struct [(0,3),(1,3),(2,9),(3,38)],.agg [.int .i64 0,.int .i64 0,.str [],.slice 4 .nil []]⟩),
 (70,⟨1,24,.slice 9,.slice 1 .nil []⟩),
 (104,⟨1,8,.other,.nilp⟩),
 (106,⟨2,32,.struct [(0,104),(1,35)],.agg [.nilp,.slice 1 .nil []]⟩),
 (108,⟨1,16,.iface,.junk⟩)]
theorem jZ:e7 aQ rz=true:=by kernel_rfl
theorem Tr:cI rz HX K4 2 Tryz.f62=true:=by kernel_rfl
theorem PN:aQ.funcs[(62:Nat)]? =some Tryz.f62:=Tryz.func62
theorem ae1:cI rz Ny agm 1 Tryz.f63=true:=by kernel_rfl
theorem Zm:aQ.funcs[(63:Nat)]? =some Tryz.f63:=Tryz.func63
theorem Td:cI rz HH Av 1 Tryz.f82=true:=by kernel_rfl
theorem PA:aQ.funcs[(82:Nat)]? =some Tryz.f82:=Tryz.func82
theorem ae3:cI rz NA TJ 1 Tryz.f85=true:=by kernel_rfl
theorem Zo:aQ.funcs[(85:Nat)]? =some Tryz.f85:=Tryz.func85
theorem afq:cI rz NY agB 1 Tryz.f86=true:=by kernel_rfl
theorem ZL:aQ.funcs[(86:Nat)]? =some Tryz.f86:=Tryz.func86
theorem ae8:cI rz NG TL 2 Tryz.f87=true:=by kernel_rfl
theorem Zt:aQ.funcs[(87:Nat)]? =some Tryz.f87:=Tryz.func87
theorem tS:cI rz rO nx 2 Tryz.f153=true:=by kernel_rfl
theorem tu:aQ.funcs[(153:Nat)]? =some Tryz.f153:=Tryz.func153
theorem Gc:cI rz Br TN 1 Tryz.f179=true:=by kernel_rfl
theorem Ey:aQ.funcs[(179:Nat)]? =some Tryz.f179:=Tryz.func179
theorem afg:cI rz NO TS 1 Tryz.f205=true:=by kernel_rfl
theorem ZB:aQ.funcs[(205:Nat)]? =some Tryz.f205:=Tryz.func205
theorem afm:cI rz NU agv 1 Tryz.f207=true:=by kernel_rfl
theorem ZH:aQ.funcs[(207:Nat)]? =some Tryz.f207:=Tryz.func207
theorem afi:cI rz NQ agt 1 Tryz.f208=true:=by kernel_rfl
theorem ZD:aQ.funcs[(208:Nat)]? =some Tryz.f208:=Tryz.func208
def br:al:= .ptr (.obj 861) 0
def bN:dF:=⟨[(.obj 861,[.nilp,.slice 1 .nil []])],[]⟩
def s4:dF:=⟨[(.obj 861,[br,.slice 1 .nil []])],[]⟩
def be(l:List ah):dF:=⟨[(.obj 861,[br,.row 1 (.obj 862) l.length])],[(.obj 862,⟨l.length,5,1,some (fW l)⟩)]⟩
theorem kS(S:aO->Prop)(l:List ah):aj S (fW l):=by
 induction l with
 |nil=>simp[fW,aj]
 |cons x r bp=>simp only[fW,ek,aj,ak]at bp⊢;exact⟨trivial,bp⟩
theorem DT:gJ bN:=by unfold bN;exact gJ.of ⟨by intro m;simp[Pv.look],by intro m;simp[Pv.look]⟩ (by simp[aj,ak]) Ψ
theorem Wg:gJ s4:=by unfold s4;exact gJ.of ⟨by intro m;simp[Pv.look],by intro m;simp[Pv.look]⟩ (by simp[aj,ak,br,ag,Pv.look]) Ψ
theorem j3(l:List ah):gJ (be l):=by unfold be;refine gJ.of ⟨by intro m;simp[Pv.look],by intro m;simp[Pv.look]⟩ (by simp[aj,ak,br,ag,Pv.look]) ?_;intro x ad xs au;simp at ad;subst ad;simp at au;subst au;exact kS _ l
theorem Wh(l cF:List ah):Same (be l) (be cF):=⟨fun k=>by simp only[be,Pv.look];split<;>rfl,fun k=>by simp only[be,Pv.look];split<;>rfl⟩
theorem vz:(aQ.info? 106).map (·.size)=some 2:=by kernel_rfl
theorem aef:liesAt aQ aQ.depth 106 (2/aQ.cellsOf 106) 0 106 1=true:=by kernel_rfl
set_option maxRecDepth 100000 in
theorem XS(b:Nat)(w:World)(bK:w.cell? ⟨b,0,none⟩=some (.pointer (some ⟨b,0,none⟩))):
  Calls aQ 135 #[.pointer (some ⟨b,0,none⟩)] w fun e w'=>e= .returned (.tuple #[])/\w'=w:=by
 obtain⟨j,aD,_⟩:=hc.1 vz;go_enter Tryz.func135,Tryz.ntmps135;go_wp2;rw[Lib.run_neq_ptr_same w _ Tryz.underlying104 aD];go_wp2;go_end0;exact⟨rfl,rfl⟩
set_option maxRecDepth 100000 in
theorem XR(b:Nat)(w:World)(bK:w.cell? ⟨b,0,none⟩=some (.pointer none))(gA:w.shape? b=some (106,2))(ach:w.frozen? ⟨b,0,none⟩=false):
  Calls aQ 135 #[.pointer (some ⟨b,0,none⟩)] w fun e w'=>e= .returned (.tuple #[])/\w'=w.setCell ⟨b,0,none⟩ (.pointer (some ⟨b,0,none⟩)):=by
 obtain⟨j,aD,acw⟩:=hc.1 vz;go_enter Tryz.func135,Tryz.ntmps135;go_wp2;rw[Lib.run_to_unsafe w ⟨b,0,none⟩ Tryz.underlying104 Tryz.underlying227 aD (by rw[acw];decide) gA (Nat.zero_lt_succ 1)];simp only[Result.andThen];rw[Oper.upon_value];go_wp2;rw[run_callFunc_extern Tryz.func191 (by kernel_rfl) (by kernel_rfl) (by kernel_rfl) (e:=amN) (by kernel_rfl)];rw[Lib.run_noEscape];simp only[Result.andThen];rw[Oper.upon_value];go_wp2;rw[Lib.run_from_unsafe w ⟨b,0,none⟩ Tryz.underlying227 Tryz.underlying104 aD gA aef];simp only[Result.andThen];rw[Oper.upon_value];go_wp2;go_end0;exact⟨rfl,rfl⟩
theorem V1{vs:Array Value}(h:vs.size=1):vs= #[vs.getD 0 undef]:=by apply Array.ext (by simpa using h);intro i I J;simp at J;subst J;simp[Array.getD,h]
theorem aaI:bJ aQ 135 [br] bN fun r aq=>r= .tuple []/\aq=s4:=by
 refine bJ.sem DT.obj fun w ν vs gl gh hr=>?_;refine .inl ⟨⟨Tryz.f135,Tryz.func135,by kernel_rfl,by kernel_rfl⟩,?_⟩;obtain⟨bl,us,el,aB,aU,b1,dN,hJ⟩:=hr.good.box (.obj 861) _ (show Pv.look (.obj 861) bN.b=some [.nilp,.slice 1 .nil []]from rfl);have EY:=el.2 rfl;rw[qn (by rfl)]at dN;rw[pw (by rfl)]at hJ;simp only[cK,aT]at hJ;obtain⟨ik,AQ,I,⟨rfl,_⟩,hF,pH,rfl,⟨⟨_,aJ,_⟩,_⟩,rfl⟩:=hJ;obtain rfl:=aJ trivial;have ki:us= #[.pointer none,.slice none 0 0]:=by rw[<-Array.toList_inj];simpa using I
 subst ki;have l7:=hr.slot 0;simp only[kA,Pv.get,if_true,br,aT]at l7;obtain⟨b,ao,aK⟩:=l7;rw[aB]at ao;cases ao;have uY:=V1 (by simpa using gh);rw[aK]at uY;clear aK;subst uY;have gA:w.shape? bl=some (106,2):=by have:(106:Nat)=DF:=rfl;rw[this];simp[World.shape?,dN,EY]
 refine(XR bl w (by simp[World.cell?,dN]) gA (by simp[World.frozen?,dN])).mono ?_;rintro e w' ⟨rfl,rfl⟩;have ni:=(hr.setBox (w':=w.setCell ⟨bl,0,none⟩ (.pointer (some ⟨bl,0,none⟩))) (cs':=[br,.slice 1 .nil []]) (show Pv.look (.obj 861) bN.b=some [.nilp,.slice 1 .nil []]from rfl) aB (us:= #[.pointer (some ⟨bl,0,none⟩),.slice none 0 0]) (el:=el) rfl rfl rfl (fun j aD=>RowKit.Below.heap_setCell _ _ _ _ (fun e=>aD (by simp[e]))) (by simp[World.setCell])
  (by rw[qn (by rfl)];simp[World.setCell,Array.getElem?_modify,dN]) (by rw[pw (by rfl)];simp only[cK];exact⟨_,_,rfl,⟨by simp only[br,aT];exact⟨bl,aB,rfl⟩,rfl⟩,_,_,rfl,⟨by simp[aT,maxLen,bs];exact⟨none,0,⟨rfl,rfl⟩,Ω⟩,rfl⟩,rfl⟩)).1
 refine⟨_,_,_,_,.tuple [],s4,rfl,ni,by simp[aT,cw],by simp[bN,s4,gE,ag,Pv.look],by simp[bN,gE],?_,?_,Wg.obj,by simp[ak,aj],rfl,rfl⟩
 ·refine cg ?_;simp[bN,s4,dd,Pv.look,ag,aj,ak,br]
 ·refine ch ?_;simp[s4]
theorem aaJ(l:List ah):bJ aQ 135 [br] (be l) fun r aq=>r= .tuple []/\aq=be l:=by
 refine bJ.sem (j3 l).obj fun w ν vs gl gh hr=>?_;refine .inl ⟨⟨Tryz.f135,Tryz.func135,by kernel_rfl,by kernel_rfl⟩,?_⟩;obtain⟨bl,us,el,aB,aU,b1,dN,hJ⟩:=hr.good.box (.obj 861) _ (show Pv.look (.obj 861) (be l).b=some [br,.row 1 (.obj 862) l.length]from rfl);rw[qn (by rfl)]at dN;rw[pw (by rfl)]at hJ;simp only[cK,aT,br]at hJ;obtain⟨ik,AQ,I,⟨⟨ck,jn,rfl⟩,_⟩,hF,pH,rfl,_,rfl⟩:=hJ;rw[aB]at jn;cases jn;have l7:=hr.slot 0;simp only[kA,Pv.get,if_true,br,aT]at l7;obtain⟨b,ao,aK⟩:=l7;rw[aB]at ao;cases ao;have uY:=V1 (by simpa using gh);rw[aK]at uY;clear aK;subst uY;have bK:us[0]? =some (.pointer (some ⟨bl,0,none⟩)):=by rw[<-Array.getElem?_toList,I];rfl
 refine(XS bl w (by simp[World.cell?,dN,bK])).mono ?_;rintro e w' ⟨rfl,rfl⟩;refine⟨_,_,_,_,.tuple [],be l,rfl,hr,by simp[aT,cw],by simp[be,gE,ag,Pv.look],by simp[be,gE,ag,Pv.look],?_,?_,(j3 l).obj,by simp[ak,aj],rfl,rfl⟩
 ·refine cg ?_;simp[be,Pv.look,ag,aj,ak,br]
 ·intro k o aa;exact⟨aa,.inr (by simp[aa]),(j3 l).ke k o aa⟩
theorem aeU(l:List ah)(aG:l≠[]){ob:List aO}{st:a6}{d:a1 Nat}{K:a6->Prop}(ao:Pv.look (.obj 861) st.b=some [br,.row 1 (.obj 862) l.length])(he:Pv.look (.obj 862) st.e=some ⟨l.length,5,1,some (fW l)⟩)
  (dk:K ⟨fk d (.str l) st.t,st.b,aX [(aO.obj 862,(⟨l.length,5,1,some (fW l)⟩:dU))] st.e,st.n,st.o⟩):A0 aQ ob 66 [br] st d K:=by
 intro C a w ν vs uK hr jD aP;refine .inl ⟨⟨Tryz.f66,Tryz.func66,by kernel_rfl,by kernel_rfl⟩,?_⟩;obtain⟨bl,us,el,aB,aU,b1,dN,hJ⟩:=hr.good.box (.obj 861) _ ao;have EY:=el.2 rfl;rw[qn (by rfl)]at dN;rw[pw (by rfl)]at hJ;simp only[cK,aT,br]at hJ;obtain⟨ik,AQ,I,⟨⟨ck,jn,rfl⟩,_⟩,hF,pH,rfl,⟨⟨⟨g,cap,rfl⟩,gg,n',u,mb,kz,oP⟩,_⟩,rfl⟩:=hJ;rw[aB]at jn;cases jn;obtain⟨v,cs,cz,db,eo,dC⟩:=hr.good.own (.obj 862) _ he;rw[cz]at mb;simp only[dH,gz]at mb;obtain⟨rfl,rfl⟩:=mb;obtain rfl:=oP rfl;obtain⟨dc,lL,sB⟩:=dC _ rfl;obtain rfl:=UC lL;simp only at db;rcases db.2 with⟨h,_⟩|⟨eP,xv,cur,au,_,aR,jo,hj,kN,aky⟩
 ·cases h
 cases au;have ki:us= #[.pointer (some ⟨bl,0,none⟩),.slice (some ⟨g,0,none⟩) l.length cap]:=by rw[<-Array.toList_inj];simpa using I
 subst ki;simp only[br,cw,aT]at jD;obtain⟨qB,ws,bM,⟨cr,nJ,rfl⟩,rfl⟩:=jD;rw[aB]at nJ;cases nJ;have uY:vs= #[.pointer (some ⟨bl,0,none⟩)]:=by rw[<-Array.toList_inj];simpa using bM
 rw[uY];have k8:(Tryz.lays169_ren.t 72:Nat)=DF:=by kernel_rfl
 have Rv:(Tryz.lays169_ren.t 5:Nat)=5:=by kernel_rfl
 have x6:l.length≠0:=by simpa using aG
 refine(Go.Proofs.Any.Builder_String_ex Tryz.lays169 Tryz.builderE bl l w aG _ g cap cur (by rw[k8,<-EY];exact dN) (by rw[Rv];exact db) (by rw[Rv];exact aR) jo hj kN).mono ?_;rintro e w' ⟨rfl,rfl⟩;obtain⟨DR,z2,z3,z4,z5⟩:=aaw w.drew ⟨g,0,none⟩ l.length;have jS:=hr.dropRow (w':=w.drew.freeze ⟨g,0,none⟩ l.length) he rfl cz rfl DR z2 z3 z5 z4;exact⟨_,_,ν,rfl,dk,jS.put aP (by simp only[aT];exact⟨trivial,gg⟩)⟩
end
end Go.Proofs.YtlnndmgfngfeiaaGreatDoor
namespace Go.Pv
section
open Go Go.Lib
theorem Tz:∀(a b:List ah) (acc:Nat),parseUint10 acc (a++b)=match parseUint10 acc a with| .ok v=>parseUint10 v b|x=>x
 |[],b,acc=>rfl
 |c::r,b,acc=>by
  simp only[ds,parseUint10];split
  ·split
   ·rfl
   ·split
    ·rfl
    ·exact Tz r b _
  ·rfl
theorem tl{u:Nat}(h:u<10):decDigits u=[pS (48+u)]:=by rw[decDigits,dif_pos h]
theorem vU{u:Nat}(h:10<=u):decDigits u=decDigits (u/10)++[pS (48+u%10)]:=by rw[decDigits,dif_neg Ω]
theorem Bz{d:Nat}(h:d<10):(pS (48+d)).toNat=48+d:=by rw[UInt8.toNat_ofNat'];omega
theorem af7(u:Nat)(h:u<18446744073709551616):parseUint10 0 (decDigits u)= .ok u:=by
 induction u using Nat.strongRecOn with
 |_ u bp=>
  have step:∀v d,d<10->v*10+d<18446744073709551616->parseUint10 v [pS (48+d)]= .ok (v*10+d):=by intro v d aP aK;simp only[parseUint10,Bz aP];rw[bP Ω,bo Ω,bo Ω];congr 1;omega
  by_cases hu:u<10
  ·rw[tl hu,step 0 u hu Ω];congr 1;omega
  ·rw[vU Ω,Tz,bp (u/10) Ω Ω];simp only;rw[step _ _ (Nat.mod_lt _ Ω) Ω];congr 1;omega
theorem oq(u:Nat):decDigits u≠[]:=by
 by_cases hu:u<10
 ·rw[tl hu];simp
 ·rw[vU Ω];simp
theorem By(u:Nat):∀c∈decDigits u,48<=c.toNat/\c.toNat<=57:=by
 induction u using Nat.strongRecOn with
 |_ u bp=>
  by_cases hu:u<10
  ·rw[tl hu];intro c aH;rw[mi.1 aH,Bz hu];omega
  ·rw[vU Ω];intro c aH;rcases fM.1 aH with h|h
   ·exact bp _ Ω c h
   ·rw[mi.1 h,Bz (Nat.mod_lt _ Ω)];omega
theorem Ty{u:Nat}(h:u<18446744073709551616):parseMag (decDigits u)= .ok u:=by unfold parseMag;rw[bo (oq u)];exact af7 u h
theorem HA{n:Int}(h:aZ n):atoiAll (itoa n)= .ok n:=by
 unfold aZ at h;unfold itoa;by_cases aJ:n<0
 ·rw[bP aJ];simp only[atoiAll];rw[bP Ψ,Ty Ω];simp only;rw[bo Ψ,bo (by simp;omega),bP Ψ];congr 1;omega
 ·rw[bo aJ];obtain⟨c,r,aH⟩:∃c r,decDigits n.toNat=c::r:=by
   cases aP:decDigits n.toNat with
   |nil=>exact absurd aP (oq _)
   |cons c r=>exact⟨c,r,rfl⟩
  have hm:=By n.toNat c (by rw[aH];simp);have bn:=Ty (u:=n.toNat) Ω;rw[aH]at bn⊢;simp only[atoiAll];rw[bo Ω,bn];simp only;rw[bo Ω,bo Ω,bo Ω];congr 1;omega
theorem WJ{s:List ah}{n:Int}(h:atoiAll s= .ok n):aZ n:=by
 unfold atoiAll at h;unfold aZ;split at h
 ·cases h
 ·rename_i c r;simp only at h;split at h
  ·cases h
  ·cases h
  ·split at h
   ·cases h
   ·split at h
    ·cases h
    ·injection h with h;split at h<;>omega
def gw(s:List ah):a1 Int:=match atoiAll s with
 | .ok n=>if itoa n=s then some n else none
 |_=>none
theorem wP{s:List ah}{n:Int}:gw s=some n↔aZ n/\itoa n=s:=by
 unfold gw;constructor
 ·intro h;rcases bM:atoiAll s with m|_|_
  ·rw[bM]at h;simp only at h;split at h
   ·rename_i e;cases h;exact⟨WJ bM,e⟩
   ·cases h
  ·rw[bM]at h;cases h
  ·rw[bM]at h;cases h
 ·rintro⟨I,rfl⟩;rw[HA I];simp
theorem adO{m n:Int}(hm:aZ m)(aJ:aZ n)(h:itoa m=itoa n):m=n:=by have I:=HA hm;rw[h,HA aJ]at I;injection I with I;exact I.symm
theorem sA{s:List ah}(h:∀n,aZ n->itoa n≠s):gw s=none:=by
 cases bn:gw s with
 |none=>rfl
 |some n=>exact absurd (wP.1 bn).2 (h n (wP.1 bn).1)
theorem yh(n:Int):∀c∈itoa n,c.toNat=45\/48<=c.toNat/\c.toNat<=57:=by
 intro c aH;unfold itoa at aH;split at aH
 ·rcases gb.1 aH with rfl|aH
  ·exact .inl rfl
  ·exact .inr (By _ c aH)
 ·exact .inr (By _ c aH)
theorem pq(n:Int):itoa n≠[]:=by
 unfold itoa;split
 ·simp
 ·exact oq _
theorem Ef:∀(k u:Nat),u<10 ^ k->(decDigits u).length<=max k 1
 |0,u,h=>by rw[tl (by simpa using Nat.lt_of_lt_of_le h Ψ)];simp
 |k+1,u,h=>by
  by_cases hu:u<10
  ·rw[tl hu];simp
  ·rw[vU Ω];have:=Ef k (u/10) (by rw[Nat.pow_succ]at h;omega);simp;have:k≠0:=fun e=>by subst e;simp at h;omega
   omega
theorem yg{n:Int}(h:aZ n):(itoa n).length<=20:=by
 unfold aZ at h;unfold itoa;split
 ·have:=Ef 19 n.natAbs Ω;simp;omega
 ·have:=Ef 19 n.toNat Ω;omega
end
end Go.Pv
namespace Go.Proofs.YtlnndmgfngfeiaaGreatDoor
section
open Go Go.Pv
theorem ct.sem{f:FuncId}{fn:Func}(aY:aQ.funcs[f]? =some fn)(ao:fn.body.isSome=true)(aJ:(fn.name== "runtime.NumGoroutine")=false){args:List al}{r:al}(hr:ak (fun _=>dD) r)
  (h:∀(w:World) (ν:aW) (vs:Array Value),oc w ν->(∀b o,ν.A b o->b<w.heap.size)->cw w ν args vs.toList->Calls aQ f vs w fun e w'=> ∃v,e= .returned v/\(∀ν',(∀b o,ν.A b o->ν'.A b o)->aT w' ν' r v)/\w.grownBy w' none):ct aQ f args r:=by
 refine bJ.sem wK fun w ν vs gl gh p7=>?_;have jD:cw w ν args vs.toList:=by
  have cp:args.length=vs.toList.length:=by simpa using gh.symm
  have:∀(l:List al) (us:List Value),l.length=us.length->(∀i p,l[i]? =some p->aT w ν p (us.getD i undef))->cw w ν l us:=by
   intro l;induction l with
   |nil=>intro us h _;cases us<;>simp at h⊢;simp[cw]
   |cons p l bp=>
    intro us h aE;cases us with
    |nil=>simp at h
    |cons u us=>simp only[cw];exact⟨u,us,rfl,by simpa using aE 0 p rfl,bp us (by simpa using h) fun i q bA=>by simpa using aE (i+1) q (by simpa using bA)⟩
  refine this _ _ cp fun i p bn=>?_;have au:=p7.slot i;have aE:=(eV.1 bn).1;rw[EM,bP Ω]at au;have:args.getD i .junk=p:=by simp[List.getD,bn]
  simp only[Nat.sub_zero,this]at au;simpa[Array.getD_eq_getD_getElem?]using au
 refine .inl ⟨⟨fn,aY,ao,aJ⟩,(h w ν vs gl p7.good.alt jD).mono ?_⟩;rintro e w' ⟨v,rfl,aK,aR⟩;exact⟨v,_,_,ν,r,⟨[],[]⟩,rfl,p7.grown aR,aK ν fun _ _ h=>h,trivial,trivial,fun k cs aa=>by simp[Pv.look]at aa,fun k cs aa=>by simp[Pv.look]at aa,wK,u7 (fun _ h=>h.elim) _ hr,rfl,rfl⟩
theorem RM{n:Int}(h:aZ n):(Lib.itoa n).length<=bs:=by unfold aZ at h;have:=Lib.itoa_length_le n Ω Ω;unfold bs;omega
theorem abl(w:World)(k:Nat)(os:Array Obj):w.grownBy (Sort.grow (w.drewN k) os) none:=⟨rfl,rfl,rfl,Ψ,fun j aD _=>Sort.heap_grow_old _ _ aD⟩
theorem IL{w w':World}(h:RowKit.Below w.heap.size w w'):w.grownBy w' none:=⟨h.os,h.tape,h.output,h.size,fun k aa _=>h.block k aa⟩
theorem Qo(i:Nat)(aE:i<20):(0,i,20,fun v=>v=mP .u64 ((10 ^ i:Nat):Int))∈wa:=by unfold wa;exact rF _ (n8.2 ⟨i,List.mem_range.2 aE,rfl⟩)
theorem ahG{w:World}{ν:aW}(h:oc w ν):Lib.TabIs aQ w "internal/strconv.uint64pow10" .u64 Lib.pow10Tab:=by
 have aR:aQ.globalNamed "internal/strconv.uint64pow10" =some 0:=by kernel_rfl
 obtain⟨_,_,el,gA⟩:=h _ (Qo 0 Ω);unfold Lib.TabIs;simp only[World.var?,aR,Option.bind_some];unfold Pv.shape at gA;simp only at gA;split at gA
 ·rename_i cur eO fz hw;rw[hw];simp only[dH,gz]at gA;simp only[dH];apply Array.ext
  ·simp[gA.1,Lib.pow10Tab]
  ·intro i I J;obtain⟨_,⟨v,aK,bn⟩,_⟩:=h _ (Qo i Ω);simp only at aK bn;subst bn;have aH:cur[i]? =some (mP .u64 ((10 ^ i:Nat):Int)):=by simpa[World.cell?,hw]using aK
   rw[Array.getElem?_eq_getElem I]at aH;rw[hd aH];simp[Lib.pow10Tab]
 ·cases gA
theorem VG(n:Int)(h:aZ n):ct aQ 136 [.int .i64 n] (.str (Lib.itoa n)):=by
 refine ct.sem Tryz.func136 (by kernel_rfl) (by kernel_rfl) (by simp[ak]) fun w ν vs gl bq jD=>?_;simp only[cw,aT]at jD;obtain⟨v,us,bM,rfl,rfl⟩:=jD;have gh:vs= #[.int .i64 n]:=by rw[<-Array.toList_inj];simpa using bM
 subst gh;unfold aZ at h;refine(Any.strconv_Itoa Tryz.laysM171 n Ω Ω w (ahG gl)).mono ?_;rintro e w' ⟨rfl,k,os,rfl⟩;exact⟨_,rfl,fun ν' _=>by simp only[aT];exact⟨trivial,RM (by unfold aZ;omega)⟩,abl w k os⟩
def xk(s:List ah):al:=match Lib.atoiAll s with
 | .ok v=>.tuple [.int .i64 v,.cst .nilIface]
 | .range=>.tuple [.int .i64 (Lib.atoiSat s),.iface (Tryz.laysC172_ren.t 168) .junk]
 |_=>.tuple [.int .i64 0,.iface (Tryz.laysC172_ren.t 168) .junk]
theorem ahW(s:List ah)(aG:s.length<=bs):ct aQ 223 [.str s] (xk s):=by
 have aa:ak (fun _=>dD) (xk s):=by unfold xk;split<;>simp[ak,aj]
 refine ct.sem Tryz.func223 (by kernel_rfl) (by kernel_rfl) aa fun w ν vs gl bq jD=>?_;simp only[cw,aT]at jD;obtain⟨v,us,bM,⟨rfl,_⟩,rfl⟩:=jD;have gh:vs= #[.string ⟨s.toArray⟩]:=by rw[<-Array.toList_inj];simpa using bM
 subst gh;have cp:(⟨s.toArray⟩:kF).size=s.length:=by simp[MH]
 unfold bs at aG;obtain⟨_,⟨aB,I7,amC,alT,rfl⟩,_⟩:=gl (1,0,1,fun v=> ∃t p,v= .iface t p) (by unfold wa;simp);obtain⟨_,⟨aU,I8,amD,alU,rfl⟩,_⟩:=gl (2,0,1,fun v=> ∃t p,v= .iface t p) (by unfold wa;simp);rcases h:Lib.atoiAll s with v|_|_
 ·refine(Any.strconv_Atoi_ok Tryz.laysC172 ⟨s.toArray⟩ Ω v (by simpa using h) w).mono ?_;rintro e w' ⟨rfl,hw⟩;refine⟨_,rfl,fun ν' _=>?_,?_⟩
  ·unfold xk;rw[h];simp only[aT,cw];exact⟨_,rfl,_,_,rfl,rfl,_,_,rfl,rfl,rfl⟩
  ·rcases hw with rfl|⟨t,rfl⟩
   ·exact⟨rfl,rfl,rfl,c7 _,fun _ _ _=>rfl⟩
   ·exact IL (Lib.bytesWorld_below _ _ _)
 ·refine(Any.strconv_Atoi_syntax Tryz.laysC172 ⟨s.toArray⟩ Ω (by simpa using h) _ w I7 (.inr ⟨_,_,rfl⟩)).mono ?_;rintro e w' ⟨N,rfl,_,_,ao⟩;exact⟨_,rfl,fun ν' _=>by unfold xk;rw[h];simp only[aT,cw];exact⟨_,rfl,_,_,rfl,rfl,_,_,rfl,⟨_,rfl,trivial⟩,rfl⟩,IL ao⟩
 ·refine(Any.strconv_Atoi_range Tryz.laysC172 ⟨s.toArray⟩ Ω (by simpa using h) _ w I8 (.inr ⟨_,_,rfl⟩)).mono ?_;rintro e w' ⟨N,rfl,_,_,ao⟩;exact⟨_,rfl,fun ν' _=>by unfold xk;rw[h];simp only[aT,cw];exact⟨_,rfl,_,_,rfl,rfl,_,_,rfl,⟨_,rfl,trivial⟩,rfl⟩,IL ao⟩
def NI:C:=(af [fl 1 0,bZ 2 false] (af [bO 3 4 1,eM 4 150 [.t 3,(b6 5000)],bk 5 .gtr 4 0,ab 2 5] .ret))
@[simp] def TO:List cu:=[.tmp 2]
def D5:C:=(af [fl 2 0] (.seq (af [bm 4 0 1 2,a7 5 1 4,bk 6 .eql 5 1] (bt 6 (.region [ab 7 1,bm 8 1 1 2,a7 9 1 8,We 10 7 [.t 9]]) .skip)) (af [bm 11 0 1 2,a7 12 1 11,bk 13 .eql 12 4] (bt 13 (af [bm 14 3 1 2,a7 15 1 14,mO 16 4 15 0,bO 17 4 16,ab 18 1,eN 19 79 17 18] (.region [bm 20 3 1 2,a7 21 1 20,mO 22 4 21 1,bO 23 4 22,ab 24 1,eN 25 79 23 24])) .skip))))
@[simp] def Gr:List cu:=[]
def Oo:C:=(af [fl 2 0,fl 3 1,gI 4 dv] (af [bO 5 4 2,bO 6 4 3,fm 7 4 40 [.t 5,.t 6],ll 8 dv [(0,1,(b6 4)),(3,1,(.t 7))],bD 4 4 8] .ret))
@[simp] def T6:List cu:=[.cell 4 true 4]
def Ot:C:=(af [gI 2 dv] (af [ab 3 0,ll 4 dv [(0,1,(b6 1)),(1,1,(.t 3))],bD 4 2 4] .ret))
@[simp] def T8:List cu:=[.cell 2 true 4]
def NP:C:=(af [fl 2 0,cG 4 0] (.seq (af [ab 7 1,bk 8 .lss 7 1] (bt 8 (af [cG 4 (-1)] .ret) .skip)) (.seq (af [bm 9 0 1 2,a7 10 1 9,bk 11 .neq 10 4] (bt 11 (.seq (af [bm 12 3 1 2,a7 13 1 12,cJ 14 13,bk 15 .neq 14 0] (bt 15 (af [cG 4 (-1)] .ret) .skip)) (.seq (af [bm 16 0 1 2,a7 17 1 16] (.block 0 (af [bk 19 .eql 17 0,ab 18 19] (bt 18 (af [bm 20 1 1 2,a7 21 1 20,bk 22 .neq 21 0,ab 23 22,aF 23 false (bm 24 2 1 2),aF 23 false (a7 25 1 24),lR 23 false 26 (.bin .neq false (.t 25) (.c (.str []))),cH 27 23 26] (bt 27 (af [cG 4 (-1)] .ret) .skip)) (af [bk 29 .eql 17 1,ab 28 29] (bt 28 (af [bm 30 1 1 2,a7 31 1 30,bk 32 .lss 31 0,ab 33 32,aF 33 false (bm 34 1 1 2),aF 33 false (a7 35 1 34),aF 33 false (bk 36 .gtr 35 100000),cH 37 33 36,ab 38 37,aF 38 false (bm 39 2 1 2),aF 38 false (a7 40 1 39),lR 38 false 41 (.bin .neq false (.t 40) (.c (.str []))),cH 42 38 41] (bt 42 (af [cG 4 (-1)] .ret) .skip)) (af [bk 44 .eql 17 2,ab 43 44] (bt 43 (af [bm 45 1 1 2,a7 46 1 45,bk 47 .neq 46 0,ab 48 47,aF 48 false (bm 49 2 1 2),aF 48 false (a7 50 1 49),aF 48 false (cC 51 170 50),aF 48 false (dq 52 51),cH 53 48 52] (bt 53 (af [cG 4 (-1)] .ret) .skip)) (af [bk 55 .eql 17 3,ab 54 55] (bt 54 (af [bm 56 1 1 2,a7 57 1 56,bk 58 .lss 57 (-1000000000),ab 59 58,aF 59 false (bm 60 1 1 2),aF 59 false (a7 61 1 60),aF 59 false (bk 62 .gtr 61 1000000000),cH 63 59 62,ab 64 63,aF 64 false (bm 65 2 1 2),aF 64 false (a7 66 1 65),lR 64 false 67 (.bin .neq false (.t 66) (.c (.str []))),cH 68 64 67] (bt 68 (af [cG 4 (-1)] .ret) .skip)) (af [cG 4 (-1)] .ret))))))))))) (af [cG 4 1] .ret))) .skip)) (.seq (af [bm 69 1 1 2,a7 70 1 69,bk 71 .neq 70 0,ab 72 71,aF 72 false (bm 73 2 1 2),aF 72 false (a7 74 1 73),lR 72 false 75 (.bin .neq false (.t 74) (.c (.str []))),cH 76 72 75,ab 77 76,aF 77 false (bm 78 3 1 2),aF 77 false (a7 79 1 78),aF 77 false (cJ 80 79),aF 77 false (bk 81 .neq 80 2),cH 82 77 81] (bt 82 (af [cG 4 (-1)] .ret) .skip)) (af [bm 83 3 1 2,a7 84 1 83,mO 85 4 84 0,bO 86 4 85,ab 87 1,bk 88 .sub 87 1,eN 89 150 86 88,ab 5 89] (.seq (af [ab 90 5,bk 91 .lss 90 0] (bt 91 (af [cG 4 (-1)] .ret) .skip)) (af [bm 92 3 1 2,a7 93 1 92,mO 94 4 93 1,bO 95 4 94,ab 96 1,bk 97 .sub 96 1,ab 98 5,cA 99 .sub 97 98,eN 100 150 95 99,ab 6 100] (.seq (af [ab 101 6,bk 102 .lss 101 0] (bt 102 (af [cG 4 (-1)] .ret) .skip)) (af [ab 103 5,a8 104 (.bin .add false (b6 1) (.t 103)),ab 105 6,cA 106 .add 104 105,ab 4 106] .ret)))))))))
@[simp] def Gs:List cu:=[.tmp 4]
def NT:C:=(af [n4 2 1] (af [cd (.bslm 5 (some 306) 1 3 []),ab 3 5] (.seq (af [ab 6 0,cd (.range 7 none (.t 6))] (.block 0 (.loop (af [⟨none,.next 8 (.t 7)⟩,dI 9 0 8] (.seq (bt 9 .skip (.exit 0)) (.block 1 (af [a8 10 (.ment (.t 7)),dI 11 0 10,ab 4 11] (.region [ab 12 3,ab 13 4,fm 14 1 3 [.t 13],cd (.appm 15 none 1 3 (.t 12) (.t 14)),ab 3 15])))))))) (af [ab 16 3,cC 17 213 16] (.seq (.pub 3 (.region [ab 18 3,ab 2 18])) .ret)))))
@[simp] def TU:List cu:=[.tmp 2]
def NF:C:=(af [bZ 2 false] (.seq (af [ab 4 0,a8 5 (.slen (.t 4)),bk 6 .lss 5 1,ab 7 6,b0 7 false 8 0,aF 7 false (a8 9 (.slen (.t 8))),aF 7 false (bk 10 .gtr 9 12),cH 11 7 10,ab 12 11,b0 12 false 13 0,aF 12 false (a8 14 (.sidx (.t 13) (b6 0))),aF 12 false (a8 15 (.bin .lss false (.t 14) (.c (.int .u8 97)))),cH 16 12 15,ab 17 16,b0 17 false 18 0,aF 17 false (a8 19 (.sidx (.t 18) (b6 0))),aF 17 false (a8 20 (.bin .gtr false (.t 19) (.c (.int .u8 122)))),cH 21 17 20] (bt 21 (af [bZ 2 false] .ret) .skip)) (.seq (af [cG 3 1] (.block 0 (.loop (.seq (af [ab 22 3,ab 23 0,a8 24 (.slen (.t 23)),cA 25 .lss 22 24] (bt 25 .skip (.exit 0))) (.seq (.block 1 (af [ab 28 0,ab 29 3,a8 30 (.sidx (.t 28) (.t 29)),a8 31 (.bin .geq false (.t 30) (.c (.int .u8 97))),ab 32 31,b0 32 true 33 0,b0 32 true 34 3,aF 32 true (a8 35 (.sidx (.t 33) (.t 34))),aF 32 true (a8 36 (.bin .leq false (.t 35) (.c (.int .u8 122)))),ep 37 32 36,ab 38 37,b0 38 false 39 0,b0 38 false 40 3,aF 38 false (a8 41 (.sidx (.t 39) (.t 40))),aF 38 false (a8 42 (.bin .geq false (.t 41) (.c (.int .u8 48)))),b0 38 false 43 42,b0 43 true 44 0,b0 43 true 45 3,aF 43 true (a8 46 (.sidx (.t 44) (.t 45))),aF 43 true (a8 47 (.bin .leq false (.t 46) (.c (.int .u8 57)))),aF 38 false (ep 48 43 47),cH 49 38 48,ab 50 49,b0 50 false 51 0,b0 50 false 52 3,aF 50 false (a8 53 (.sidx (.t 51) (.t 52))),aF 50 false (a8 54 (.bin .eql false (.t 53) (.c (.int .u8 45)))),cH 55 50 54,dq 56 55] (bt 56 (af [bZ 2 false] .ret) .skip))) (.region [ab 26 3,bk 27 .add 26 1,ab 3 27])))))) (af [bZ 2 true] .ret))))
@[simp] def Gq:List cu:=[.tmp 2]
def NV:C:=(af [bZ 2 false] (.seq (af [ab 5 0,cJ 6 5,cG 7 0] (jx 8 7 6 (.seq (.block 1 (af [dm 9 4 5 7,bO 10 4 9,gI 4 dv,bD 4 4 10] (af [bO 11 4 4,cC 12 77 11,dq 13 12] (bt 13 (af [bZ 2 false] .ret) .skip)))) (.region [bk 14 .add 7 1,ab 7 14])))) (af [bZ 2 true] .ret)))
@[simp] def agw:List cu:=[.tmp 2]
def NR:C:=(af [fl 2 0,fl 3 1,gI 4 dv] (af [bO 5 4 2,bO 6 4 3,fm 7 4 40 [.t 5,.t 6],ll 8 dv [(0,1,(b6 4)),(3,1,(.t 7))],bD 4 4 8] .ret))
@[simp] def TT:List cu:=[.cell 4 true 4]
def bu:List (Nat×dt):=[
 (3,⟨1,8,.int .i64,.int .i64 0⟩),
 (9,⟨1,16,.str,.str []⟩),
 (36,⟨1,24,.slice 120,.slice 5 .nil []⟩),
 (38,⟨1,24,.slice 40,.slice 4 .nil []⟩),
 (40,⟨4,56,.struct [(0,3),(1,3),(2,9),(3,38)],.agg [.int .i64 0,.int .i64 0,.str [],.slice 4 .nil []]⟩),
 (120,⟨5,64,.struct [(0,3),(1,40)],.agg [.int .i64 0,.int .i64 0,.int .i64 0,.str [],.slice 4 .nil []]⟩),
 (136,⟨1,24,.slice 3,.slice 1 .nil []⟩),
 (189,⟨1,8,.other,.junk⟩),
 (199,⟨1,8,.map 3 4,.junk⟩),
 (209,⟨1,8,.int .u64,.int .u64 0⟩)]
theorem mixed:aQ.follows .mixedOrders=true:=by kernel_rfl
theorem bW{bu:List (Nat×dt)}(aI:e7 aQ bu=true){f:FuncId}{fn:Func}(aY:aQ.funcs[f]? =some fn){c:C}{e6:List cu}{n:Nat}(dS:cI bu c e6 n fn=true){args:List al}{r:al}(he:lY args->cL aQ [] c (b8 e6 r) ⟨kA 0 args,[],[],0,[]⟩)(aG:args.length<=n:=by simp)(hr:ak (fun _=>dD) r:=by simp[ak]):ct aQ f args r:=ct.mk mixed aI aY dS aG hr he
theorem sQ:e7 aQ bu=true:=by kernel_rfl
theorem afa:cI bu NI TO 1 Tryz.f77=true:=by kernel_rfl
theorem Zv:aQ.funcs[(77:Nat)]? =some Tryz.f77:=Tryz.func77
theorem KL:cI bu D5 Gr 2 Tryz.f79=true:=by kernel_rfl
theorem Ix:aQ.funcs[(79:Nat)]? =some Tryz.f79:=Tryz.func79
theorem afN:cI bu Oo T6 2 Tryz.f141=true:=by kernel_rfl
theorem Z8:aQ.funcs[(141:Nat)]? =some Tryz.f141:=Tryz.func141
theorem afP:cI bu Ot T8 1 Tryz.f142=true:=by kernel_rfl
theorem aaa:aQ.funcs[(142:Nat)]? =some Tryz.f142:=Tryz.func142
theorem afh:cI bu NP Gs 2 Tryz.f150=true:=by kernel_rfl
theorem ZC:aQ.funcs[(150:Nat)]? =some Tryz.f150:=Tryz.func150
theorem afl:cI bu NT TU 1 Tryz.f160=true:=by kernel_rfl
theorem ZG:aQ.funcs[(160:Nat)]? =some Tryz.f160:=Tryz.func160
theorem ae7:cI bu NF Gq 1 Tryz.f170=true:=by kernel_rfl
theorem Zs:aQ.funcs[(170:Nat)]? =some Tryz.f170:=Tryz.func170
theorem afn:cI bu NV agw 1 Tryz.f183=true:=by kernel_rfl
theorem ZI:aQ.funcs[(183:Nat)]? =some Tryz.f183:=Tryz.func183
theorem afj:cI bu NR TT 2 Tryz.f206=true:=by kernel_rfl
theorem ZE:aQ.funcs[(206:Nat)]? =some Tryz.f206:=Tryz.func206
end
end Go.Proofs.YtlnndmgfngfeiaaGreatDoor
namespace Go.Pv
section
open Go Go.RowKit
theorem bc.new{P:b3}{n:Nat}{args:List al}{st:a6}{d:a1 Nat}{K:a6->Prop}{s:dF}{Q:al->dF->Prop}(aY:bJ P n args s Q)(au:gJ s)(ao:∀k cs,look k s.b=some cs->look k st.b=some cs)(he:∀k o,look k s.e=some o->look k st.e=some o)
  (aa:aj (ag s) args) (h:∀r aq,Q r aq->(∀m,ag aq (.obj m)->ag s (.obj m)/\Same s aq\/ .obj m∉st.o)/\K ⟨fk d r st.t,aX s.b st.b++aq.b,aX s.e st.e++aq.e,st.n,st.o++gj aq⟩):bc P n args st d K:=by
 refine .inl ⟨s,Q,fun k cs aH=>⟨ao k cs aH,.inl (by simp[aH]),au.kb k cs aH⟩,fun k o az=>⟨he k o az,.inr (by simp[az]),au.ke k o az⟩,au.obj,aa,aY,fun r aq bA=>?_⟩;obtain⟨I,J⟩:=h r aq bA;refine⟨⟨fun m hm=>?_,fun m hm=>?_⟩,J⟩
 ·rcases I m (.inl hm)with⟨_,aA⟩|aA
  ·exact .inl (by rw[aA.b];exact hm)
  ·exact .inr aA
 ·rcases I m (.inr hm)with⟨_,aA⟩|aA
  ·exact .inl (by rw[aA.e];exact hm)
  ·exact .inr aA
theorem bL.new{e6:List cu}{s:dF}{Q:al->dF->Prop}{e:Exit}{st:a6}(aq:dF)(k0:e= .ret\/e= .normal)(au:gJ aq)(eQ:gE aq s.b/\gE aq s.e)(ao:∀k cs,look k aq.b=some cs->look k st.b=some cs)(cQ:∀k o,look k aq.e=some o->look k st.e=some o)
  (h:bV st e6 fun r=>ak (ag aq) r/\Q r aq):bL e6 s Q e st:=by
 unfold bV at h;split at h
 ·rename_i c b2 hr;refine⟨k0,?_⟩;rw[hr];exact⟨h.1,aq,eQ.1,eQ.2,fun k cs da=>⟨ao k cs da,.inl (by simp[da]),au.kb k cs da⟩,fun k o az=>⟨cQ k o az,.inr (by simp[az]),au.ke k o az⟩,au.obj,h.2.1,h.2.2⟩
 ·exact h.elim
@[simp]theorem aj2{P:b3}{ob:List aO}{c d:C}{Q:Exit->a6->Prop}{st:a6}{s:Nat}:cL P ob (.seq (.pub s c) d) Q st=vG P ob (.seq c d) Q (vk st s):=by simp only[cL];cases vk st s<;>rfl
@[simp]theorem aj1{P:b3}{ob:List aO}{c d:C}{Q:Exit->a6->Prop}{st:a6}{s:Nat}:cL P ob (.seq (.pubB s c) d) Q st=vG P ob (.seq c d) Q (wQ st s):=by simp only[cL];cases wQ st s<;>rfl
end
section
open Go Go.RowKit
def CL(t:List (Nat×al))(b7:List Nat):List (Nat×al):=b7.map fun k=>(k,get k t)
@[simp]theorem ala(t:List (Nat×al)):CL t []=[]:=rfl
@[simp]theorem ak9(t:List (Nat×al))(k:Nat)(b7:List Nat):CL t (k::b7)=(k,get k t)::CL t b7:=rfl
def pt(st:a6)(b7:List Nat)(cs:List (Nat×al)):a6:=⟨CL st.t b7++cs,st.b,st.e,st.n,st.o⟩
theorem aew(t:List (Nat×al))(b:List (aO×List al))(e:List (aO×dU))(n:Nat)(o:List aO)(b7:List Nat)(cs:List (Nat×al)):pt ⟨t,b,e,n,o⟩ b7 cs=⟨CL t b7++cs,b,e,n,o⟩:=rfl
def yX{α:Type}(S:Nat->α->a6)(n:Nat)(fV:Nat->α->Prop)(k:Nat)(st:a6):Prop:= ∃i a,i<=n/\k=n-i/\fV i a/\st=S i a
section
variable {P:b3} {ob:List aO} {st:a6} {Q:Exit->a6->Prop} {c:C} {α:Type}
theorem gP(S:Nat->α->a6)(n:Nat)(fV:Nat->α->Prop)(a0:α)(hw:mm ob st (S 0 a0))(bK:fV 0 a0)(jq:∀a,fV n a->(∀i,kn (get i (S n a).t))->cL P ob c (bU ob (yX S n fV) 0 Q) (S n a))
  (sk:∀i a,i<n->fV i a->(∀j,kn (get j (S i a).t))->cL P ob c (bU ob (yX S n fV) (n-i) Q) (S i a)):cL P ob (.loop c) Q st:=by
 refine xB (yX S n fV) n _ hw ⟨0,a0,Ω,Ω,bK,rfl⟩ ?_;rintro k s ⟨i,a,aE,rfl,aD,rfl⟩ ao _;rcases lU i n with h|h
 ·exact sk i a h aD ao
 ·obtain rfl:i=n:=Ω
  rw[Nat.sub_self];exact jq a aD ao
theorem bU.rng{S:Nat->α->a6}{n:Nat}{fV:Nat->α->Prop}{i:Nat}(c1:α)(aE:i<n)(aD:fV (i+1) c1)(hw:mm ob st (S (i+1) c1)):bU ob (yX S n fV) (n-i) Q .normal st:=⟨n-(i+1),_,Ω,hw,i+1,c1,Ω,rfl,aD,rfl⟩
def DU{α:Type}(S:α->a6)(μ:α->Nat)(fV:α->Prop)(k:Nat)(st:a6):Prop:= ∃a,k=μ a/\fV a/\st=S a
theorem gf(S:α->a6)(μ:α->Nat)(fV:α->Prop)(a0:α)(hw:mm ob st (S a0))(bK:fV a0)
  (sk:∀a,fV a->(∀j,kn (get j (S a).t))->cL P ob c (bU ob (DU S μ fV) (μ a) Q) (S a)):cL P ob (.loop c) Q st:=by
 refine xB (DU S μ fV) (μ a0) _ hw ⟨a0,rfl,bK,rfl⟩ ?_;rintro k s ⟨a,rfl,aD,rfl⟩ ao _;exact sk a aD ao
theorem bU.whl{S:α->a6}{μ:α->Nat}{fV:α->Prop}{k:Nat}(c1:α)(hm:μ c1<k)(aD:fV c1)(hw:mm ob st (S c1)):bU ob (DU S μ fV) k Q .normal st:=⟨μ c1,_,hm,hw,c1,rfl,aD,rfl⟩
end
theorem wS{p:Prop}(h:p:=by(try simp[*]);(repeat' first|with_reducible refine av ?_|with_reducible refine ba (by assumption) ?_|with_reducible refine bb (by assumption) ?_|simp[*]);(all_goals first|exact bU.rng () (by assumption) (by first|assumption|trivial) cX|exact bU.rng _ (by assumption) (by assumption) cX)):p:=h
end
section
open Go Go.RowKit
def vh(s:dF)(n:Nat)(k:aO):Prop:=ag s k\/ ∃m,m<n/\k= .loc m
section
variable {α:Type}
end
end
section
open Go Go.RowKit
section
variable {P:b3} {ob:List aO} {st:a6} {Q:Exit->a6->Prop} {c:C} {α:Type}
theorem BE(b7:List Nat)(cs:Nat->α->List (Nat×al))(n:Nat)(fV:Nat->α->Prop)(a0:α)(hw:mm ob st (pt st b7 (cs 0 a0)))(bK:fV 0 a0)(jq:∀a,fV n a->(∀i,kn (get i (pt st b7 (cs n a)).t))->cL P ob c (bU ob (yX (fun i a=>pt st b7 (cs i a)) n fV) 0 Q) (pt st b7 (cs n a)))
  (sk:∀i a,i<n->fV i a->(∀j,kn (get j (pt st b7 (cs i a)).t))->cL P ob c (bU ob (yX (fun i a=>pt st b7 (cs i a)) n fV) (n-i) Q) (pt st b7 (cs i a))):cL P ob (.loop c) Q st:=
 gP (fun i a=>pt st b7 (cs i a)) n fV a0 hw bK jq sk
theorem Pp(b7:List Nat)(cs:α->List (Nat×al))(μ:α->Nat)(fV:α->Prop)(a0:α)(hw:mm ob st (pt st b7 (cs a0)))(bK:fV a0)
  (sk:∀a,fV a->(∀j,kn (get j (pt st b7 (cs a)).t))->cL P ob c (bU ob (DU (fun a=>pt st b7 (cs a)) μ fV) (μ a) Q) (pt st b7 (cs a))):cL P ob (.loop c) Q st:=
 gf (fun a=>pt st b7 (cs a)) μ fV a0 hw bK sk
end
attribute [simp] aew
end
end Go.Pv
