/- From a contract of a law of bytes to its row. -/
import Derived.Test.YtohaalphocaebaaGreatDoorProg
import Derived.ProofKit
import Derived.Carry
import Derived.WalkKit
import Derived.Test.YtohaalphocaebaaGreatDoorE5
set_option linter.all false
set_option maxHeartbeats 4000000
set_option maxRecDepth 4000
open Bool renaming and_eq_true->cv,eq_iff_iff->qP,not_eq_true'->oJ
open Go renaming Program->cM
open Go.IntKind renaming bits->oK,signed->sn
open Go.Proofs.Tryz renaming prog->aA
open Go.Result renaming andThen_ok->gf
open Go.Sem renaming run_bind->fZ,run_pure->gI
open Go.Value renaming cells->p5
open List renaming all_eq_true->fi,cons_append->bQ,drop_eq_getElem_cons->lA,getElem?_eq_getElem->cm,getElem?_eq_some_iff->fG,length_append->pn,length_cons->mM,map_cons->hc,map_nil->nS,mem_append->h3,mem_cons->eU,mem_cons_of_mem->mh,mem_filter->hD,mem_map->hU,mem_of_getElem?->ek,mem_singleton->iG,nil_append->bU,pairwise_cons->nm,take_length->lB,take_of_length_le->hV
open List.Pairwise renaming filter->Ku
open List.cons renaming injEq->yn
open Nat renaming le_refl->eo,le_trans->hn,mul_le_mul_right->rr
open Option renaming bind_eq_some_iff->hr,bind_some->hE,getD_none->jy,getD_some->ib,isSome_iff_exists->fH,isSome_none->je,isSome_some->lZ,map_eq_some_iff->gB,map_some->nT
open Option.some renaming inj->eV,injEq->dD
open _root_ renaming DecidableEq->nk,False->eI,beq_iff_eq->dO,congrArg->eW,decide_eq_false->jf,decide_eq_false_iff_not->gJ,decide_eq_true->hd,decide_eq_true_eq->eA
namespace Go.Proofs.YtohaalphocaebaaGreatDoor
section
open Go Go.Pv
def pj:T->T
 | .sym s=>if s.head? =some 119 then .nil else .sym s
 | .pair a b=>.pair (pj a) (pj b)
 |t=>t
theorem F4:∀{t:T},pj t=t↔j0 t=true
 | .sym s=>by simp only[pj,j0];split<;>simp_all
 | .pair a b=>by simp only[pj,j0,T.pair.injEq,cv,F4 (t:=a),F4 (t:=b)]
 | .var _=>by simp[pj,j0]
 | .nil=>by simp[pj,j0]
 | .num _=>by simp[pj,j0]
theorem Kq{θ:Int->T}:∀t:T,pj (t.ap θ)=(pj t).ap fun v=>pj (θ v)
 | .sym s=>by simp only[T.ap,pj];split<;>rfl
 | .pair a b=>by simp only[T.ap,pj,Kq a,Kq b]
 | .var _=>rfl
 | .nil=>rfl
 | .num _=>rfl
theorem Yc{E:List (T×T)}{x:List ah}(c3:∀e∈E,j0 e.1=true/\j0 e.2=true)(h:mgu [] E=some x){c:ah}(aq:c∈x):j0 c.t=true:=by
 have ab:=(pU qH qn h).1;have I:=(lO qH qn h (aV x)).1 (u2 ab);have U:df x fun v=>pj (aV x v):=(lO qH qn h _).2 ⟨aaK _,fun e he=>by have ar:=I.2 e he;have aE:=eW pj ar;rw[Kq,Kq,F4.2 (c3 e he).1,F4.2 (c3 e he).2]at aE;exact aE⟩
 have ao:=U c aq;have ar:aV x c.v=c.t:=by unfold aV;rw[oP ab.asc aq];rfl
 simp only[ar]at ao;rw[<-F4,ao];have aE:(c.t.ap fun v=>pj (aV x v))=c.t.ap T.var:=mP fun u hu=>by have:=ab.free c aq u hu;unfold aV;rw[this];rfl
 rw[aE,Rx]
theorem j2.b_w{V:List Int}{L:Nat}{E:List (T×T)}{s:bd}(h:j2 V L E s){c:ah}(aq:c∈s.b):j0 c.t=true:=Yc (fun e he=>(h.e e he).w) h.b aq
theorem j2.d_w{V:List Int}{L:Nat}{E:List (T×T)}{s:bd}(h:j2 V L E s){d:List ah}(aD:d∈s.d){c:ah}(aq:c∈d):j0 c.t=true:=by
 obtain⟨e,x,he,ab,rfl⟩:=h.d d aD;refine Yc (fun a bk=>?_) ab (hD.1 aq).1;rcases h3.1 bk with bk|bk
 ·exact(h.e a bk).w
 ·rw[iG.1 bk];exact he.w
theorem aaE{t:T}{m:Nat}(h:fb t<=m):t.size<=2*m-1:=by have:=EL t;have:=XS t;omega
theorem ady{n:Nat}{s:bd}(h:gz s)(au:s.n=n){d:List ah}(aD:d∈s.d){c:ah}(aq:c∈d):c.v∈qx n/\∀u,c.t.occ u=true->u∈qx n:=by obtain⟨bF,a2⟩:=BE (h.d d aD).ok (h.db d aD) c aq;exact⟨BV.2 (by rw[<-au];exact bF),fun u hu=>BV.2 (by rw[<-au];exact a2 u hu)⟩
def PS(r:List ah):aj:= .slice 5 .no (r.map ah.e)
@[simp]theorem avh(r:List ah):e7 (PS r)=true:=rfl
@[simp]theorem avg(r:List ah):cells (PS r)=[PS r]:=rfl
open Classical in
theorem abS(l:List dS):bR aA 32 [.slice 5 .no (l.map dS.e)] (.bool (decide (wV l))):=by have k:=abJ l;refine br fO Tryz.func32 am8 fun aR=>?_;unfold Tn;exact cu
open Classical in
theorem ark{v:List ah}(az:k2 v)(oo:fT v)(bk:gD v):bR aA 32 [.slice 5 .no (v.map ah.e)] (.bool true):=by have hg:=abS (v.map ah.b);rw[hd (Ai.2 ⟨v,rfl,az,bk,oo⟩),uQ]at hg;exact hg
open Classical in
theorem abR{v:List ah}(az:k2 v)(oo:fT v)(bk:gD v){t:T}(aC:t.fit=true):bR aA 131 [t.e,.slice 5 .no (v.map ah.e)] (.tuple [(if(t.ap (aV v)).size<=5000 then t.ap (aV v)else .nil).e,.bool (decide ((t.ap (aV v)).size<=5000))]):=by
 have dz:=FY t.tm;rw[mq,bZ.fits_T,aC]at dz;have hg:=ark az oo bk;have aS:=Ah v (by have:=oo.1;omega) t;have bh:=QD (t.ap (aV v));generalize t.ap (aV v)=y at aS bh⊢;by_cases g:y.size<=5000
 ·rw[if_pos g];rw[hd g]at aS⊢;clear g oo az bk;refine br fO Tryz.func131 YU fun aR=>?_;unfold Ll;exact cu
 ·rw[if_neg g];rw[jf g]at aS⊢;clear g oo az bk;refine br fO Tryz.func131 YU fun aR=>?_;unfold Ll;exact cu
theorem agN{n:Int}(h:0<=n/\n<=100000):(T.var n).fit=true:=by simp[T.fit,T.ok,T.size,h]
open Classical in
theorem arb{v:List ah}(az:k2 v)(oo:fT v)(bk:gD v){d:List ah}(aD:ei d):bR aA 81 [.slice 5 .no (d.map ah.e),.slice 5 .no (v.map ah.e)] (.bool (pB v d)):=by
 have c5:=QM aD;have xh:=aD.len;generalize bI:pB v d=R;refine br fO Tryz.func81 amZ fun aR=>?_;unfold Te;clear aR;simp;(with_reducible repeat' first|refine ak ?_|refine aF c5 ?_|refine aG c5 ?_|simp);refine ep [1,14,15] (fun i (_:Unit)=>[(16,.int .i64 i)]) d.length (lj (fun b=> !uA v b) d) () b0 (fun k b ae=>Ω) (fun _ ag _=>?_) (fun i _ hi ag _=>?_)
 ·have:R=false:=by rw[<-bI,pB,List.any_eq_false];intro b ad;have:=ag.fin b ad;simpa using this
  subst this;clear ag bI c5;exact cu
 ·obtain⟨b,ad,cK⟩:=en hi;have hX:=ek ad;have aS:=abR az oo bk (agN (aD.ok b hX).1);have bh:=abR az oo bk (aD.fit b hX);have ar:((T.var b.v).ap (aV v)).size<=5000:=z6 oo b.v;rw[if_pos ar,hd ar,show(T.var b.v).ap (aV v)=aV v b.v from rfl]at aS;have bX:=Kj (aV v b.v) (b.t.ap (aV v));have cA:uA v b=(decide ((b.t.ap (aV v)).size<=5000)&& !decide (aV v b.v=b.t.ap (aV v))):=rfl;have oq:uA v b=true->R=true:=fun h=>by rw[<-bI,pB,List.any_eq_true];exact⟨b,hX,h⟩
  have cW:=fun h:uA v b=false=>ag.step ad (by rw[h];rfl);have gy:=kT b.v;clear ag bI c5 ad ar hX aD az oo bk;generalize uA v b=H at cA oq cW;by_cases a8:(b.t.ap (aV v)).size<=5000
  ·rw[if_pos a8,hd a8]at bh;rw[hd a8,Bool.true_and]at cA;generalize b.t.ap (aV v)=y at bh bX cA;generalize aV v b.v=x at aS bX cA;generalize decide (x=y)=q at bX cA;cases q
   ·have:=oq cA;subst this;exact cu
   ·have au:=cW cA;exact hj
  ·rw[if_neg a8,jf a8]at bh;rw[jf a8,Bool.false_and]at cA;have au:=cW cA;clear bX cA;generalize aV v b.v=x at aS;exact hj
theorem ahO(t:T):t.gnd=true↔iQ t []=[]:=by
 have I:∀t:T,t.gnd=true↔∀w,t.occ w=false:=by
  intro t;induction t with
  |var n=>simp[T.gnd,T.occ]
  |pair a b dQ dR=>simp only[T.gnd,T.occ,cv,Bool.or_eq_false_iff,dQ,dR];exact⟨fun h w=>⟨h.1 w,h.2 w⟩,fun h=>⟨fun w=>(h w).1,fun w=>(h w).2⟩⟩
  |_=>simp[T.gnd,T.occ]
 rw[I,List.eq_nil_iff_forall_not_mem];simp[EP]
theorem arc{t:T}(aC:t.fit=true):bR aA 33 [t.e] (.bool t.gnd):=by
 have dz:=FY t.tm;rw[mq,bZ.fits_T,aC]at dz;have dY:t.size<=5000:=by simp only[T.fit,cv,eA]at aC;exact aC.2
 have kH:=CT t [];have hg:=FW t [] d7 (by simp[tP]);have A8:eE []=[]:=rfl;rw[A8]at hg;have aT:=ahO t;generalize iQ t []=bc at hg kH aT;cases bc with
 |nil=>rw[aT.2 rfl];rw[A8]at hg;refine br fO Tryz.func33 YV fun aR=>?_;unfold Lm;exact cu
 |cons w bc=>
  rw[show t.gnd=false from by rw[<-Bool.not_eq_true,aT];simp];have aw:¬((bc.length:Int)+1=0):=Ω
  have oY:bc.length<=5000:=by simp at kH;omega
  clear aT kH dY aC;refine br fO Tryz.func33 YV fun aR=>?_;unfold Lm;simp;(with_reducible repeat' first|refine ak ?_|refine aF dz ?_|refine aG dz ?_|refine aF hg ?_|refine aG hg ?_|simp[fh,aw]);all_goals simp[bz,aY,a6,aX]
  all_goals omega
theorem ara{t:T}(aC:t.fit=true)(s:List UInt8):bR aA 82 [t.e,.str s] (.bool (t.has s)):=by have dz:=FY t.tm;rw[mq,bZ.fits_T,aC]at dz;have k:=Kl s t;refine br fO Tryz.func82 amY fun aR=>?_;unfold Td;exact cu
open Classical in
theorem aq3{s:bd}(af:gz s){v:List ah}(az:kk s.n v):bR aA 34 [s.e,.slice 5 .no (v.map ah.e)] (.bool (decide (oE s v))):=by
 generalize bI:decide (oE s v)=R;have kH:v.length<=1000000:=by have:=az.fits.1;omega
 have q2:=k2.fit az.ok az.fits;obtain⟨n,x2,wK,x4,sm⟩:=s;have cW:¬oE ⟨n,x2,wK,x4,sm⟩ v->R=false:=fun h=>by rw[<-bI,gJ];exact h
 have oq:oE ⟨n,x2,wK,x4,sm⟩ v->R=true:=fun h=>by rw[<-bI,eA];exact h
 clear bI;have lL:=af.b;have fA:=lL.len;have cN:=af.bb;have jU:=af.d;have xp:=af.k;have uw:=af.kb;have oe:=af.mb;have zc:=af.m;have iz:=o5 xp;simp only at lL fA cN jU xp uw oe zc iz az;clear af;simp only[bd.e];refine br fO Tryz.func34 anH fun aR=>?_;unfold TU;have xh:wK.length<=68719476736:=by simp[gO,gj,gE,lim]at aR;omega
 have l6:sm.length<=68719476736:=by simp[gO,gj,gE,lim]at aR;omega
 clear aR;simp;(with_reducible repeat' first|refine ak ?_|simp);refine ep [1,2,22,23] (fun i (_:Unit)=>[(24,.int .i64 i)]) x2.length (lj (r3 v) x2) () b0 (fun k b ae=>Ω) (fun _ ag _=>?_) (fun i _ hi ag _=>?_);rotate_left
 ·obtain⟨b,ad,cK⟩:=en hi;have hX:=ek ad;obtain⟨c,aq,aT,o0⟩:=az.get (lL.ok b (ek ad)).1.1 (cN b (ek ad)).1;have aS:=sk v b.v kH;rw[aT]at aS;simp only[ib,lZ]at aS;have bh:=Ah v kH b.t;have bX:=Kj c.t (b.t.ap (aV v));have cA:r3 v b=(decide ((b.t.ap (aV v)).size<=5000)&&decide (c.t=b.t.ap (aV v))):=by rw[r3,o0];congr 1;exact decide_eq_decide.2 eq_comm
  have eg:r3 v b=false->R=false:=fun h=>cW fun b4=>by have:=fi.1 b4.b b hX;rw[h]at this;cases this
  have dF:=fun h:r3 v b=true=>ag.step ad h;clear ag ad hX cW oq az q2 aT aq o0;generalize r3 v b=H at cA eg dF;by_cases a8:(b.t.ap (aV v)).size<=5000
  ·rw[hd a8]at bh;rw[hd a8,Bool.true_and]at cA;generalize b.t.ap (aV v)=y at bh bX cA;generalize decide (c.t=y)=q at bX cA;cases q
   ·rw[eg cA];exact cu
   ·have au:=dF cA;exact hj
  ·rw[jf a8]at bh;rw[jf a8,Bool.false_and]at cA;rw[eg cA];generalize b.t.ap (aV v)=y at bh;clear bX;exact cu
 have jn:x2.all (r3 v)=true:=fi.2 ag.fin;clear ag;simp;(with_reducible repeat' first|refine ak ?_|simp);refine ep [1,2,52,53] (fun i (_:Unit)=>[(54,.int .i64 i)]) wK.length (lj (pB v) wK) () b0 (fun k b ae=>Ω) (fun _ ag _=>?_) (fun i _ hi ag _=>?_);rotate_left
 ·obtain⟨b,ad,cK⟩:=en hi;have hX:=ek ad;have aS:bR aA 81 [cF b,.slice 5 .no (v.map ah.e)] (.bool (pB v b)):=arb az.ok az.fits az.asc (jU b hX);have eg:pB v b=false->R=false:=fun h=>cW fun b4=>by have:=fi.1 b4.d b hX;rw[h]at this;cases this
  have dF:=fun h:pB v b=true=>ag.step ad h;clear ag ad hX cW oq az q2;generalize pB v b=q at aS eg dF;cases q
  ·rw[eg rfl];exact cu
  ·have au:=dF rfl;exact hj
 have sK:wK.all (pB v)=true:=fi.2 ag.fin;clear ag;simp;(with_reducible repeat' first|refine ak ?_|simp);refine ep [1,2,64,65] (fun i (_:Unit)=>[(66,.int .i64 i)]) x4.length (lj (fun k=>decide ((aV v k.v).kind=k.k)) x4) () b0 (fun k b ae=>Ω) (fun _ ag _=>?_) (fun i _ hi ag _=>?_);rotate_left
 ·obtain⟨b,ad,cK⟩:=en hi;have hX:=ek ad;obtain⟨c,aq,aT,o0⟩:=az.get (xp.at' b (ek ad)).1.1 (uw b (ek ad));have aS:=sk v b.v kH;rw[aT]at aS;simp only[ib,lZ]at aS;by_cases g:c.t.kind=b.k
  ·have au:=ag.step ad (by rw[o0];exact hd g);clear ag ad hX cW oq az q2 aT aq o0;exact hj
  ·rw[cW fun b4=>by have:=fi.1 b4.k b hX;rw[o0]at this;exact g (of_decide_eq_true this)]
   clear ag ad hX cW oq az q2 aT aq o0;simp[hi,cK];((with_reducible repeat' first|refine ak ?_|refine aF aS ?_|refine aG aS ?_|simp[cK,hi,g]|((first|apply bN|apply bP|apply bO)<;>intro h<;>try simp at h))<;>(try exact cf));all_goals simp[bz,aY,a6,aX]
 have de:x4.all (fun k=>decide ((aV v k.v).kind=k.k))=true:=fi.2 ag.fin;clear ag;simp;(with_reducible repeat' first|refine ak ?_|simp);refine ep [1,84,85] (fun i (_:Unit)=>[(86,.int .i64 i)]) sm.length (lj (fun m=> !(aV v m.v).has m.s) sm) () b0 (fun k b ae=>Ω) (fun _ ag _=>?_) (fun i _ hi ag _=>?_);rotate_left
 ·obtain⟨b,ad,cK⟩:=en hi;have hX:=ek ad;obtain⟨c,aq,aT,o0⟩:=az.get (zc.at' b (ek ad)).1.1 (oe b (ek ad));have aS:=sk v b.v kH;rw[aT]at aS;simp only[ib,lZ]at aS;have bh:=ara (q2 c (ek aq)) b.s;cases g:c.t.has b.s
  ·rw[g]at bh;have au:=ag.step ad (by rw[o0,g];rfl);clear ag ad hX cW oq az q2 aT aq o0;exact hj
  ·rw[g]at bh;rw[cW fun b4=>by have:=fi.1 b4.m b hX;rw[o0,g]at this;cases this]
   clear ag ad hX cW oq az q2 aT aq o0;exact cu
 rw[oq ⟨jn,sK,de,fi.2 ag.fin⟩];clear ag;exact cu
def P8(r:k5)(l:List dS):Prop:= ∃s:bd,r=s.r/\gi s/\Ev s l
theorem aaI{s:bd}(h:gi s)(l:List dS):P8 s.r l↔Ev s l:=by
 constructor
 ·rintro⟨ai,e,_,U⟩;rw[bd.r_inj e];exact U
 ·intro U;exact⟨s,rfl,h,U⟩
open Classical in
theorem ard(r:k5)(ga:ju r.m->jN r.m)(l:List dS):bR aA 9 [r.e,.slice 5 .no (l.map dS.e)] (.bool (decide (P8 r l))):=by
 have c5:=arj r ga;by_cases g:oF r;rotate_left
 ·rw[jf g]at c5;rw[jf fun⟨s,I,U,_⟩=>g ⟨s,I,U⟩];obtain⟨n,b,d,k,m⟩:=r;simp only[k5.e]at c5⊢;refine br fO Tryz.func9 I5 fun aR=>?_;unfold Dh;exact cu
 rw[hd g]at c5;obtain⟨s,rfl,af⟩:=g;have e:decide (P8 s.r l)=decide (Ev s l):=decide_eq_decide.2 (aaI af l);rw[e];rw[u3]at c5⊢;have hg:=abS l;generalize bI:decide (Ev s l)=R;by_cases g1:wV l;rotate_left
 ·rw[jf g1]at hg;have:R=false:=by rw[<-bI,gJ];rintro⟨v,rfl,h,_⟩;exact g1 (Ai.2 ⟨v,rfl,h.ok,h.asc,h.fits⟩)
  subst this;clear bI g1 af;obtain⟨n,b,d,k,m⟩:=s;simp only[bd.e]at c5 hg⊢;refine br fO Tryz.func9 I5 fun aR=>?_;unfold Dh;exact cu
 rw[hd g1]at hg;obtain⟨v,rfl,Ib,Nr,oo⟩:=Ai.1 g1;clear g1;rw[uQ]at hg⊢;by_cases g2:(v.length:Int)=s.n;rotate_left
 ·have:R=false:=by rw[<-bI,gJ];rintro⟨w,e,h,_⟩;rw[rD e]at g2;exact g2 h.len
  subst this;have Ho:s.n≠(v.length:Int):=fun h=>g2 h.symm;clear bI af Ib Nr oo;obtain⟨n,b,d,k,m⟩:=s;simp only[bd.e]at c5 hg g2 Ho⊢;refine br fO Tryz.func9 I5 fun aR=>?_;unfold Dh;simp;((with_reducible repeat' first|refine ak ?_|refine aF c5 ?_|refine aG c5 ?_|refine aF hg ?_|refine aG hg ?_|simp[g2,Ho]|((first|apply bN|apply bP|apply bO)<;>intro h<;>try simp at h))<;>(try exact cf));all_goals simp[bz,aY,a6,aX]
 have cW:¬(kk s.n v/\oE s v)->R=false:=fun h=>by rw[<-bI,gJ];rintro⟨w,e,I,U⟩;rw[rD e]at h;exact h ⟨I,U⟩
 have oq:kk s.n v->decide (oE s v)=R:=fun I=>by rw[<-bI];exact decide_eq_decide.2 ⟨fun U=>⟨v,rfl,I,U⟩,fun⟨w,e,_,U⟩=>by rw[rD e];exact U⟩
 clear bI;have kH:v.length<=1000000:=by have:=oo.1;omega
 have q2:=k2.fit Ib oo;have EC:=fun az:kk s.n v=>aq3 af.1 az;obtain⟨n,x2,wK,x4,sm⟩:=s;simp only[bd.e]at g2 cW oq EC c5⊢;subst g2;clear af;refine br fO Tryz.func9 I5 fun aR=>?_;unfold Dh;clear aR;simp;(with_reducible repeat' first|refine ak ?_|refine aF c5 ?_|refine aG c5 ?_|refine aF hg ?_|refine aG hg ?_|simp);refine ep [1,2,22,23] (fun i (_:Unit)=>[(24,.int .i64 i)]) v.length (Iu v) () b0 (fun k b ae=>Ω) (fun _ ag _=>?_) (fun i _ hi ag _=>?_);rotate_left
 ·obtain⟨b,ad,cK⟩:=en hi;have aS:=arc (q2 b (ek ad));clear EC oq c5 hg Ib Nr oo q2;by_cases g:b.v=(i:Int)/\b.t.gnd=true
  ·have au:=ag.step ad g;obtain⟨g1,g2⟩:=g;rw[g2]at aS;clear ag ad cW;exact hj
  ·rw[cW fun h=>g ⟨h.1.at' _ _ ad,h.1.gnd _ (ek ad)⟩];clear ag ad cW;by_cases g1:b.v=(i:Int)
   ·have g2:b.t.gnd=false:=by
     cases e:b.t.gnd with
     |false=>rfl
     |true=>exact absurd ⟨g1,e⟩ g
    rw[g2]at aS;exact cu
   ·simp[hi,cK];((with_reducible repeat' first|refine ak ?_|simp[cK,hi,g1]|((first|apply bN|apply bP|apply bO)<;>intro h<;>try simp at h))<;>(try exact cf));all_goals simp[bz,aY,a6,aX]
 have az:kk v.length v:=⟨Ib,Nr,oo,rfl,fun i b ad=>(ag i b (fG.1 ad).1 ad).1,fun b ad=>by obtain⟨i,hi⟩:=List.mem_iff_getElem?.1 ad;exact(ag i b (fG.1 hi).1 hi).2⟩
 have EC:=EC az;rw[oq az]at EC;clear ag hg c5 oq cW az;exact cu
theorem akt{s:bd}{v:List ah}(h:kk s.n v):Ev s (v.map ah.b)↔oE s v:=by
 constructor
 ·rintro⟨w,e,_,U⟩;rw[rD e];exact U
 ·intro U;exact⟨v,rfl,h,U⟩
open Classical in
theorem arf{s:bd}(h:gi s)(hm:jN s.m){n:Nat}(au:s.n=n){v:List ah}(az:kk n v):bR aA 9 [s.e,.slice 5 .no (v.map ah.e)] (.bool (decide (oE s v))):=by rw[<-au]at az;have:=ard s.r (fun _=>hm) (v.map ah.b);rw[decide_eq_decide.2 ((aaI h _).trans (akt az)),u3]at this;rwa[uQ]at this
structure ie where
 s:List (List UInt8)
 i:List Int
def k6{α:Type}[nk α](x:α)(l:List α):List α:=if x∈l then l else l++[x]
theorem BU{α:Type}[nk α]{x y:α}{l:List α}:y∈k6 x l↔y∈l\/y=x:=by
 unfold k6;split
 ·rename_i h;exact⟨.inl,fun b4=>b4.elim id fun e=>e▸h⟩
 ·simp
theorem KN{α:Type}[nk α]{x:α}{l:List α}(h:l.Nodup):(k6 x l).Nodup:=by
 unfold k6;split
 ·exact h
 ·rename_i ab;rw[List.nodup_append];exact⟨h,Ψ,fun a bk b ad e=>ab (by rw[iG.1 ad]at e;rw[<-e];exact bk)⟩
theorem KM{α:Type}[nk α](x:α)(l:List α):(k6 x l).length<=l.length+1:=by
 unfold k6;split
 ·omega
 ·simp
def gS:T->ie->ie
 | .sym g,w=>⟨k6 g w.s,w.i⟩
 | .num k,w=>⟨w.s,k6 k w.i⟩
 | .pair a b,w=>gS b (gS a w)
 |_,w=>w
def kS(l:List ah)(w:ie):ie:=l.foldl (fun w b=>gS b.t w) w
def sg(l:List (List ah))(w:ie):ie:=l.foldl (fun w d=>kS d w) w
def si(l:List bn)(w:ie):ie:=l.foldl (fun w m=>⟨k6 m.s w.s,w.i⟩) w
def p0(s:bd):ie:=si s.m (sg s.d (kS s.b ⟨[],[]⟩))
structure mJ (w w':ie) (k:Nat):Prop where
 s:∀x∈w.s,x∈w'.s
 i:∀x∈w.i,x∈w'.i
 ns:w.s.Nodup->w'.s.Nodup
 ni:w.i.Nodup->w'.i.Nodup
 ls:w'.s.length<=w.s.length+k
 li:w'.i.length<=w.i.length+k
theorem mJ.refl(w:ie):mJ w w 0:=⟨fun _ h=>h,fun _ h=>h,id,id,Ω,Ω⟩
theorem mJ.trans{a b c:ie}{j k:Nat}(h:mJ a b j)(b4:mJ b c k):mJ a c (j+k):=⟨fun x ab=>b4.s x (h.s x ab),fun x ab=>b4.i x (h.i x ab),fun au=>b4.ns (h.ns au),fun au=>b4.ni (h.ni au),by have:=h.ls;have:=b4.ls;omega,by have:=h.li;have:=b4.li;omega⟩
theorem mJ.le{a b:ie}{j k:Nat}(h:mJ a b j)(ae:j<=k):mJ a b k:=⟨h.s,h.i,h.ns,h.ni,by have:=h.ls;omega,by have:=h.li;omega⟩
theorem Qv:∀(t:T) (w:ie),mJ w (gS t w) t.size
 | .sym g,w=>⟨fun _ h=>BU.2 (.inl h),fun _ h=>h,KN,id,KM _ _,by simp[gS]⟩
 | .num k,w=>⟨fun _ h=>h,fun _ h=>BU.2 (.inl h),id,KN,by simp[gS],KM _ _⟩
 | .pair a b,w=>((Qv a w).trans (Qv b _)).le (by simp only[T.size];omega)
 | .var _,w=>(mJ.refl w).le Ω
 | .nil,w=>(mJ.refl w).le Ω
theorem Ke:∀(l:List ah) (w:ie),(∀b∈l,b.t.size<=5000)->mJ w (kS l w) (l.length*5000)
 |[],w,_=>(mJ.refl w).le Ω
 |b::l,w,h=>by refine(((Qv b.t w).le (h b Ψ)).trans (Ke l (gS b.t w) fun c aq=>h c g9)).le ?_;rw[mM];omega
theorem Qu:∀(l:List (List ah)) (w:ie),(∀d∈l,d.length<=400/\∀b∈d,b.t.size<=5000)->mJ w (sg l w) (l.length*2000000)
 |[],w,_=>(mJ.refl w).le Ω
 |d::l,w,h=>by refine(((Ke d w (h d Ψ).2).le (k:=2000000) (by have:=(h d Ψ).1;omega)).trans (Qu l (kS d w) fun c aq=>h c g9)).le ?_;rw[mM];omega
theorem abb:∀(l:List bn) (w:ie),mJ w (si l w) l.length
 |[],w=>(mJ.refl w).le Ω
 |m::l,w=>((show mJ w ⟨k6 m.s w.s,w.i⟩ 1 from⟨fun _ h=>BU.2 (.inl h),fun _ h=>h,KN,id,KM _ _,Ψ⟩).trans (abb l _)).le (by rw[mM];omega)
structure Af (w:ie) (t:T):Prop where
 s:∀g,t= .sym g->g∈w.s
 i:∀k,t= .num k->k∈w.i
theorem Af.mono{w w':ie}{k:Nat}{t:T}(h:Af w t)(aN:mJ w w' k):Af w' t:=⟨fun g e=>aN.s _ (h.s g e),fun k e=>aN.i _ (h.i k e)⟩
theorem aqj(t:T)(w:ie):Af (gS t w) t:=by
 cases t with
 |sym g=>exact⟨fun fj e=>by cases e;exact BU.2 (.inr rfl),fun _ e=>by cases e⟩
 |num k=>exact⟨fun _ e=>(by cases e),fun bJ e=>by cases e;exact BU.2 (.inr rfl)⟩
 |_=>exact⟨fun _ e=>(by cases e),fun _ e=>(by cases e)⟩
theorem aa7:∀(l:List ah) (w:ie),(∀b∈l,b.t.size<=5000)->∀b∈l,Af (kS l w) b.t
 |c::l,w,h,b,ad=>by
  have b4:∀c∈l,c.t.size<=5000:=fun z a8=>h z (by simp[a8]);rcases eU.1 ad with rfl|ad
  ·exact(aqj b.t w).mono (Ke l (gS b.t w) b4)
  ·exact aa7 l (gS c.t w) b4 b ad
theorem aa9:∀(l:List (List ah)) (w:ie),(∀d∈l,d.length<=400/\∀b∈d,b.t.size<=5000)->∀d∈l,∀b∈d,Af (sg l w) b.t
 |e::l,w,h,d,aD,b,ad=>by
  have b4:∀d∈l,d.length<=400/\∀b∈d,b.t.size<=5000:=fun z a8=>h z (by simp[a8]);rcases eU.1 aD with rfl|aD
  ·exact(aa7 d w (h d Ψ).2 b ad).mono (Qu l (kS d w) b4)
  ·exact aa9 l (kS e w) b4 d aD b ad
def tk(l:List (List UInt8)):Prop:= ∀g∈l,g.head?≠some 119
theorem YB{g:List UInt8}{l:List (List UInt8)}(h:tk l)(aT:g.head?≠some 119):tk (k6 g l):=fun x ab=>by
 rcases BU.1 ab with ab|rfl
 ·exact h x ab
 ·exact aT
theorem Qw:∀(t:T) (w:ie),j0 t=true->tk w.s->tk (gS t w).s
 | .sym g,w,h,hw=>YB hw (by simpa[j0]using h)
 | .num k,w,h,hw=>hw
 | .pair a b,w,h,hw=>by simp only[j0,cv]at h;exact Qw b _ h.2 (Qw a w h.1 hw)
 | .var _,w,h,hw=>hw
 | .nil,w,h,hw=>hw
theorem Qt:∀(l:List ah) (w:ie),(∀b∈l,j0 b.t=true)->tk w.s->tk (kS l w).s
 |[],w,_,hw=>hw
 |b::l,w,h,hw=>Qt l (gS b.t w) (fun c aq=>h c g9) (Qw b.t w (h b Ψ) hw)
theorem aba:∀(l:List (List ah)) (w:ie),(∀d∈l,∀b∈d,j0 b.t=true)->tk w.s->tk (sg l w).s
 |[],w,_,hw=>hw
 |d::l,w,h,hw=>aba l (kS d w) (fun c aq=>h c g9) (Qt d w (h d Ψ) hw)
theorem abd:∀(l:List bn) (w:ie),(∀m∈l,m.s.head?≠some 119)->tk w.s->tk (si l w).s
 |[],w,_,hw=>hw
 |m::l,w,h,hw=>abd l ⟨k6 m.s w.s,w.i⟩ (fun c aq=>h c g9) (YB hw (h m Ψ))
def p2(k:Nat):List UInt8:=[119,UInt8.ofNat (48+k)]
theorem ab3{i j:Nat}(hi:i<10)(ag:j<10)(h:p2 i=p2 j):i=j:=by simp only[p2,yn,and_true,true_and]at h;have:=eW UInt8.toNat h;rw[UInt8.toNat_ofNat',UInt8.toNat_ofNat',Nat.mod_eq_of_lt Ω,Nat.mod_eq_of_lt Ω]at this;omega
def vA(l:List Int):Nat->Nat->Nat
 |0,n=>n
 |f+1,n=>if(n:Int)∈l then vA l f (n+1)else n
theorem Vd(l:List Int):∀(f n:Nat),n<=vA l f n/\vA l f n<=n+f/\(∀m,n<=m->m<vA l f n->(m:Int)∈l)/\(vA l f n=n+f\/(vA l f n:Int)∉l)
 |0,n=>⟨eo _,eo _,fun m I U=>(by simp only[vA]at U;omega),.inl rfl⟩
 |f+1,n=>by
  simp only[vA];split
  ·rename_i h;obtain⟨I,U,ao,a7⟩:=Vd l f (n+1);refine⟨Ω,Ω,fun m hm sU=>?_,a7.imp (fun e=>Ω) id⟩;by_cases e:m=n
   ·subst e;exact h
   ·exact ao m Ω sU
  ·rename_i h;exact⟨eo _,Ω,fun m I U=>Ω,.inr h⟩
theorem alJ{a:List Int}(bk:a.Nodup):∀{l:List Int},(∀x∈a,x∈l)->a.length<=l.length:=by
 induction a with
 |nil=>intro l _;simp
 |cons x a bK=>
  intro l h;obtain⟨ab,bk⟩:=List.nodup_cons.1 bk;have aw:=List.length_erase_of_mem (h x Ψ);have:=bK bk (l:=l.erase x) fun y aB=>by
   have cG:y≠x:=fun e=>by subst e;exact ab aB
   rw[List.mem_erase_of_ne cG];exact h y (by simp[aB])
  have bG:0<l.length:=List.length_pos_of_mem (h x Ψ);rw[mM];omega
def ox(l:List Int):Nat:=vA l (l.length+1) 0
theorem I0(l:List Int):(∀m,m<ox l->(m:Int)∈l)/\(ox l:Int)∉l/\ox l<=l.length:=by
 obtain⟨_,U,ao,a7⟩:=Vd l (l.length+1) 0;have hle:ox l<=l.length:=by
  have:=alJ (ND (ox l)) (l:=l) fun x ab=>by obtain⟨bB,I⟩:=BV.1 ab;have:=ao x.toNat Ω (show x.toNat<ox l by omega);rwa[Int.toNat_of_nonneg bB]at this
  rwa[Ip]at this
 refine⟨fun m hm=>ao m Ω hm,?_,hle⟩;rcases a7 with a7|a7
 ·have:ox l=0+(l.length+1):=a7;omega
 ·exact a7
structure C4 where
 i:List Int
 j:Nat
 f:List ah
def FO(s:bd)(w:C4)(v:Int):C4:=
 if(cO s.b v).isSome then w
 else if jb s.k v=some 2 then⟨w.i,w.j+1,w.f++[⟨v,.sym (p2 w.j)⟩]⟩
 else⟨w.i++[(ox w.i:Int)],w.j,w.f++[⟨v,.num (ox w.i)⟩]⟩
def iP(s:bd):Nat->C4
 |0=>⟨(p0 s).i,0,[]⟩
 |k+1=>FO s (iP s k) k
structure ao9 (s:bd) (k:Nat) (w:C4):Prop where
 i:∀x∈(p0 s).i,x∈w.i
 li:w.i.length<=(p0 s).i.length+k
 j:w.j<=k
 v:∀b∈w.f,(0<=b.v/\b.v<k)/\cO s.b b.v=none
 asc:gD w.f
 al:∀u:Int,0<=u->u<k->cO s.b u=none->∃t,(⟨u,t⟩:ah)∈w.f
 at':∀b∈w.f,if jb s.k b.v=some 2 then∃i,i<w.j/\b.t= .sym (p2 i)else∃m:Nat,b.t= .num m/\(m:Int)∈w.i/\(m:Int)∉(p0 s).i/\m<=(p0 s).i.length+k
 ne:w.f.Pairwise fun b c=>b.t≠c.t
theorem zY(s:bd):∀k,k<=9->ao9 s k (iP s k)
 |0,_=>⟨fun _ h=>h,by simp[iP],by simp[iP],by simp[iP],by simp[iP,gD],fun u bB I=>Ω,by simp[iP],by simp[iP]⟩
 |k+1,ae=>by
  have h:=zY s k Ω;simp only[iP];generalize iP s k=w at h⊢;unfold FO;have E6:∀{w':C4},(∀b∈w.f,b∈w.f)->w.j<=w'.j->(∀x∈w.i,x∈w'.i)->∀b∈w.f,if jb s.k b.v=some 2 then∃i,i<w'.j/\b.t= .sym (p2 i)else∃m:Nat,b.t= .num m/\(m:Int)∈w'.i/\(m:Int)∉(p0 s).i/\m<=(p0 s).i.length+(k+1:Nat):=fun _ ag hi b ad=>by
   have:=h.at' b ad;split at this
   ·rename_i e;rw[if_pos e];obtain⟨i,I,U⟩:=this;exact⟨i,Ω,U⟩
   ·rename_i e;rw[if_neg e];obtain⟨m,I,U,ao,a7⟩:=this;exact⟨m,I,hi _ U,ao,Ω⟩
  have Ry:∀t,gD (w.f++[⟨k,t⟩]):=fun t=>by unfold gD;rw[List.pairwise_append];refine⟨h.asc,Ψ,fun b ad c aq=>?_⟩;rw[iG.1 aq];have:=(h.v b ad).1;simp only;omega
  have abg:∀t,cO s.b k=none->∀b∈w.f++[⟨k,t⟩],(0<=b.v/\b.v<((k+1:Nat):Int))/\cO s.b b.v=none:=fun t aO b ad=>by
   rcases h3.1 ad with ad|ad
   ·have:=h.v b ad;exact⟨Ω,this.2⟩
   ·rw[iG.1 ad];exact⟨by simp only;omega,aO⟩
  have Rs:∀t,∀u:Int,0<=u->u<((k+1:Nat):Int)->cO s.b u=none->∃dH,(⟨u,dH⟩:ah)∈w.f++[⟨k,t⟩]:=fun t u bB I aO=>by
   by_cases e:u=k
   ·subst e;exact⟨t,Ψ⟩
   ·obtain⟨dH,U⟩:=h.al u bB Ω aO;exact⟨dH,List.mem_append_left _ U⟩
  have Yu:∀t,(∀b∈w.f,b.t≠t)->(w.f++[(⟨k,t⟩:ah)]).Pairwise fun b c=>b.t≠c.t:=fun t aC=>by rw[List.pairwise_append];refine⟨h.ne,Ψ,fun b ad c aq=>?_⟩;rw[iG.1 aq];exact aC b ad
  split
  ·rename_i ad;refine⟨h.i,by have:=h.li;omega,by have:=h.j;omega,fun b ad=>?_,h.asc,fun u bB I aO=>?_,E6 (fun _ h=>h) (eo _) (fun _ h=>h),h.ne⟩
   ·have:=h.v b ad;exact⟨Ω,this.2⟩
   ·by_cases e:u=k
    ·rw[<-e,aO]at ad;cases ad
    ·exact h.al u bB Ω aO
  ·rename_i ad;have aO:cO s.b k=none:=by simpa using ad
   split
   ·rename_i nB;refine⟨h.i,by have:=h.li;simp only;omega,by have:=h.j;simp only;omega,abg _ aO,Ry _,Rs _,fun b ad=>?_,Yu _ fun b ad e=>?_⟩
    ·rcases h3.1 ad with ad|ad
     ·exact E6 (w':=⟨w.i,w.j+1,_⟩) (fun _ h=>h) Ψ (fun _ h=>h) b ad
     ·rw[iG.1 ad];simp only;rw[if_pos nB];exact⟨w.j,Ω,rfl⟩
    ·have:=h.at' b ad;have ag:=h.j;split at this
     ·obtain⟨i,I,U⟩:=this;rw[U]at e;have:=ab3 (i:=i) (j:=w.j) Ω Ω (T.sym.inj e);omega
     ·obtain⟨m,I,_⟩:=this;rw[I]at e;cases e
   ·rename_i nB;obtain⟨aW,bj,bM⟩:=I0 w.i;refine⟨fun x ab=>List.mem_append_left _ (h.i x ab),by have:=h.li;simp only[pn,List.length_singleton];omega,by have:=h.j;simp only;omega,abg _ aO,Ry _,Rs _,fun b ad=>?_,Yu _ fun b ad e=>?_⟩
    ·rcases h3.1 ad with ad|ad
     ·exact E6 (w':=⟨w.i++[(ox w.i:Int)],w.j,_⟩) (fun _ h=>h) Ψ (fun _ h=>List.mem_append_left _ h) b ad
     ·rw[iG.1 ad];simp only;rw[if_neg nB];exact⟨ox w.i,rfl,Ψ,fun ab=>bj (h.i _ ab),by have:=h.li;omega⟩
    ·have:=h.at' b ad;split at this
     ·obtain⟨i,I,U⟩:=this;rw[U]at e;cases e
     ·obtain⟨m,I,U,_⟩:=this;rw[I]at e;rw[T.num.inj e]at U;exact bj U
def Sg:C:=(aa [c0 1 0,eO 2 5,bp 3 false] (.seq (aa [aZ 27 5 1,cD 28 22 27,ct 29 28,J 30 29,av 30 false (aJ 31 0 1 1),av 30 false (ay 32 1 31),av 30 false (aU 33 .gtr 32 400),c8 34 30 33] (a1 34 (aa [eO 2 5,bp 3 false] .ret) .skip)) (aa [cS (.mkmap 35 (some 751)),cS (.alloc 4 (some 752) (.junk)),bu 1 4 35] (aa [cS (.mkmap 36 (some 753)),cS (.alloc 5 (some 754) (.junk)),bu 1 5 36] (aa [cS (.alloc 6 (some 755) (.junk))] (aa [bT 37 (.mkf 23 [.t 4,.t 5,.t 6]),bu 1 6 37] (.seq (aa [aJ 38 1 1 1,ay 39 1 38,cH 40 39,cb 41 0] (fm 42 41 40 (.seq (.block 1 (aa [cE 43 5 39 41,aZ 44 5 43,cP 8 iC,bu 5 8 44] (.region [ay 45 1 6,hN 46 1 4 8,aZ 47 4 46,gA 48 45 [.t 47]]))) (.region [aU 49 .add 41 1,J 41 49])))) (.seq (aa [aJ 50 2 1 1,ay 51 1 50,cH 52 51,cb 53 0] (.block 2 (.loop (aa [bC 54 .lss 53 52] (.seq (a1 54 .skip (.exit 2)) (.seq (.block 3 (aa [cE 55 1 51 53,ay 56 1 55,J 10 56] (aa [J 57 10,cH 58 57,cb 59 0] (.block 4 (.loop (aa [bC 60 .lss 59 58] (.seq (a1 60 .skip (.exit 4)) (.seq (.block 5 (aa [cE 61 5 57 59,aZ 62 5 61,cP 12 iC,bu 5 12 62] (.region [ay 63 1 6,hN 64 1 4 12,aZ 65 4 64,gA 66 63 [.t 65]]))) (.region [aU 67 .add 59 1,J 59 67]))))))))) (.region [aU 68 .add 53 1,J 53 68]))))))) (.seq (aa [aJ 69 4 1 1,ay 70 1 69,cH 71 70,cb 72 0] (.block 6 (.loop (aa [bC 73 .lss 72 71] (.seq (a1 73 .skip (.exit 6)) (.seq (.block 7 (aa [cE 74 2 70 72,aZ 75 2 74,cS (.alloc 14 none (.agg [.int .i64 0,.str []])),bu 2 14 75] (.region [ay 76 1 4,aJ 77 1 1 14,ay 78 1 77,cS (.mput .s (.t 76) (.t 78) (.c (.bool true)))]))) (.region [aU 79 .add 72 1,J 72 79]))))))) (aa [cS (.mkmap 80 none),J 15 80] (.seq (aa [aJ 81 3 1 1,ay 82 1 81,cH 83 82,cb 84 0] (.block 8 (.loop (aa [bC 85 .lss 84 83] (.seq (a1 85 .skip (.exit 8)) (.seq (.block 9 (aa [cE 86 2 82 84,aZ 87 2 86,cS (.alloc 17 none (.agg [.int .i64 0,.int .i64 0])),bu 2 17 87] (.region [J 88 15,aJ 89 0 1 17,ay 90 1 89,aJ 91 1 1 17,ay 92 1 91,cS (.mput .i (.t 88) (.t 90) (.t 92))]))) (.region [aU 93 .add 84 1,J 84 93]))))))) (aa [ea 94 5 54 [],J 18 94] (.seq (aa [cb 19 0] (.block 10 (.loop (.seq (aa [J 95 19,aJ 96 0 1 1,ay 97 1 96,bC 98 .lss 95 97] (a1 98 .skip (.exit 10))) (.seq (.block 11 (.seq (aa [aJ 101 1 1 1,ay 102 1 101,J 103 19,ch 104 24 102 103,aU 105 .geq 104 0] (a1 105 (.exit 11) .skip)) (aa [cb 20 0] (.seq (aa [J 106 15,J 107 19,bT 108 (.mget .i (.int .i64 0) false (.t 106) (.t 107)),aU 109 .eql 108 2] (a1 109 (.seq (.block 12 (.loop (.seq (.seq (.drawn true 178 [ay 110 1 4,J 111 20,cD 112 25 111,bT 113 (.bin .add false (.c (.str [119])) (.t 112)),bT 114 (.mgetB .s (.bool false) false (.t 110) (.t 113))]) (a1 114 .skip (.exit 12))) (.block 13 (.region [J 115 20,aU 116 .add 115 1,J 20 116]))))) (.seq (.drawn true 178 [ay 117 1 4,J 118 20,cD 119 25 118,bT 120 (.bin .add false (.c (.str [119])) (.t 119)),cS (.mput .s (.t 117) (.t 120) (.c (.bool true)))]) (aa [J 121 18,J 122 19,J 123 20,cD 124 25 123,bT 125 (.bin .add false (.c (.str [119])) (.t 124)),cD 126 26 125,gr 127 iC [(0,1,(.t 122)),(1,4,(.t 126))],ea 128 5 54 [.t 127],gT 129 5 54 121 128,J 18 129] (.exit 11)))) .skip)) (.seq (.block 14 (.loop (.seq (aa [ay 130 1 5,J 131 20,bT 132 (.mget .i (.bool false) false (.t 130) (.t 131))] (a1 132 .skip (.exit 14))) (.block 15 (.region [J 133 20,aU 134 .add 133 1,J 20 134]))))) (aa [ay 135 1 5,J 136 20,cS (.mput .i (.t 135) (.t 136) (.c (.bool true)))] (.region [J 137 18,J 138 19,J 139 20,cD 140 27 139,gr 141 iC [(0,1,(.t 138)),(1,4,(.t 140))],ea 142 5 54 [.t 141],gT 143 5 54 137 142,J 18 143]))))))) (.region [J 99 19,aU 100 .add 99 1,J 19 100])))))) (aa [ea 144 5 54 [],J 21 144] (.seq (aa [cb 22 0] (.block 16 (.loop (.seq (aa [J 145 22,aJ 146 0 1 1,ay 147 1 146,bC 148 .lss 145 147] (a1 148 .skip (.exit 16))) (.seq (.block 17 (aa [J 151 22,cD 152 28 151,cP 23 dk,bu 4 23 152] (.seq (aa [aJ 153 1 1 1,ay 154 1 153,J 155 22,ch 156 24 154 155,J 24 156] (aa [J 157 24,aU 158 .geq 157 0] (a1 158 (.region [aJ 159 1 1 1,ay 160 1 159,J 161 24,cE 162 5 160 161,hN 163 1 4 162,aZ 164 4 163,bu 4 23 164]) .skip))) (aa [J 166 18,aZ 167 4 23,ch 168 29 166 167,J 165 168,cg 169 0 165,cg 170 1 165,cP 25 dk,bu 4 25 169,J 26 170] (.region [J 171 21,J 172 22,aZ 173 4 25,gr 174 iC [(0,1,(.t 172)),(1,4,(.t 173))],ea 175 5 54 [.t 174],gT 176 5 54 171 175,J 21 176]))))) (.region [J 149 22,aU 150 .add 149 1,J 22 150])))))) (aa [J 177 21,J 2 177,bp 3 true] .ret))))))))))))))))
def AF:C:=(aa [c0 4 0] (aa [aJ 5 0 1 4,ay 6 1 5] (.block 0 (aa [aU 8 .eql 6 2,J 7 8] (a1 7 (.region [ay 9 1 1,aJ 10 2 1 4,ay 11 1 10,cS (.mput .s (.t 9) (.t 11) (.c (.bool true)))]) (aa [aU 13 .eql 6 3,J 12 13] (a1 12 (.region [ay 14 1 2,aJ 15 1 1 4,ay 16 1 15,cS (.mput .i (.t 14) (.t 16) (.c (.bool true)))]) (aa [aU 18 .eql 6 4,J 17 18] (a1 17 (.seq (.drawn false 31 [bT 19 (.loadB false 1 (.t 3)),aJ 20 3 1 4,ay 21 1 20,j5 22 4 21 0,aZ 23 4 22,gA 24 19 [.t 23]]) (.drawn false 31 [bT 25 (.loadB false 1 (.t 3)),aJ 26 3 1 4,ay 27 1 26,j5 28 4 27 1,aZ 29 4 28,gA 30 25 [.t 29]])) .skip)))))))))
def RZ:C:=(aa [bT 2 (.mov (.c (.str [])))] (aa [J 3 0,cD 4 59 3,J 2 4] .ret))
def SK:C:=(aa [cP 2 dk] (aa [J 3 0,gr 4 dk [(0,1,(ef 2)),(2,1,(.t 3))],bu 4 2 4] .ret))
def SA:C:=(aa [cP 2 dk] (aa [J 3 0,gr 4 dk [(0,1,(ef 3)),(1,1,(.t 3))],bu 4 2 4] .ret))
def TW:C:=(aa [bT 2 (.mov (.c (.str [])))] (aa [J 3 0,cD 4 111 3,J 2 4] .ret))
def SN:C:=(aa [bT 2 (.mov (.c (.str [])))] (aa [J 3 0,c4 4 153 [.t 3,(ef 10)],J 2 4] .ret))
def SM:C:=(aa [bT 4 (.mov (.c (.str [])))] (.seq (aa [J 10 1,aU 11 .eql 10 10] (a1 11 (.seq (aa [J 12 0,bT 13 (.bin .leq false (ef 0) (.t 12)),J 14 13,b6 14 true 15 0,av 14 true (aU 16 .lss 15 100),dB 17 14 16] (a1 17 (aa [J 18 0,cD 19 174 18,J 4 19] .ret) .skip)) (.seq .no (aa [J 20 0,bT 21 (.conv .u64 (.t 20)),J 6 21] (.seq (aa [J 22 0,aU 23 .lss 22 0] (a1 23 (.region [J 24 6,bT 25 (.neg (.t 24)),J 6 25]) .skip)) (aa [J 26 6,cD 27 175 26,J 7 27] (.seq .no (.seq (aa [J 33 0,aU 34 .lss 33 0] (a1 34 (.seq .no (.seq .no .ret)) .skip)) (.seq .no .ret)))))))) .skip)) (aa [J 45 0,bT 46 (.conv .u64 (.t 45)),J 47 1,J 48 0,aU 49 .lss 48 0,c4 50 177 [(.c (.slice 1 .nil [])),.t 46,.t 47,.t 49,(.c (.bool false))],J 44 50,cg 51 0 44,cg 52 1 44,J 8 51,J 9 52] (aa [J 53 9,J 4 53] .ret))))
def SO:C:=(aa [bT 2 (.mov (.c (.str [])))] (.seq (aa [J 3 0,aU 4 .lss 3 10] (a1 4 (aa [J 5 0,J 6 0,aU 7 .add 6 1,bT 8 (.ssl (.c (.str [48,49,50,51,52,53,54,55,56,57,97,98,99,100,101,102,103,104,105,106,107,108,109,110,111,112,113,114,115,116,117,118,119,120,121,122])) (some (.t 5)) (some (.t 7))),J 2 8] .ret) .skip)) (aa [J 9 0,aU 10 .mul 9 2,J 11 0,aU 12 .mul 11 2,aU 13 .add 12 2,bT 14 (.ssl (.c (.str [48,48,48,49,48,50,48,51,48,52,48,53,48,54,48,55,48,56,48,57,49,48,49,49,49,50,49,51,49,52,49,53,49,54,49,55,49,56,49,57,50,48,50,49,50,50,50,51,50,52,50,53,50,54,50,55,50,56,50,57,51,48,51,49,51,50,51,51,51,52,51,53,51,54,51,55,51,56,51,57,52,48,52,49,52,50,52,51,52,52,52,53,52,54,52,55,52,56,52,57,53,48,53,49,53,50,53,51,53,52,53,53,53,54,53,55,53,56,53,57,54,48,54,49,54,50,54,51,54,52,54,53,54,54,54,55,54,56,54,57,55,48,55,49,55,50,55,51,55,52,55,53,55,54,55,55,55,56,55,57,56,48,56,49,56,50,56,51,56,52,56,53,56,54,56,55,56,56,56,57,57,48,57,49,57,50,57,51,57,52,57,53,57,54,57,55,57,56,57,57])) (some (.t 10)) (some (.t 13))),J 2 14] .ret)))
def u6:List (Nat×dG):=[
 (2,⟨1,8,.int .i64,.int .i64 0⟩),
 (3,⟨1,8,.int .i64,.int .i64 0⟩),
 (4,⟨1,1,.bool,.bool false⟩),
 (9,⟨1,16,.str,.str []⟩),
 (23,⟨1,24,.slice 54,.slice 5 .nil []⟩),
 (24,⟨1,24,.slice 23,.slice 1 .nil []⟩),
 (25,⟨1,24,.slice 59,.slice 2 .nil []⟩),
 (26,⟨1,24,.slice 56,.slice 2 .nil []⟩),
 (28,⟨5,104,.struct [(0,3),(1,23),(2,24),(3,25),(4,26)],.agg [.int .i64 0,.slice 5 .nil [],.slice 1 .nil [],.slice 2 .nil [],.slice 2 .nil []]⟩),
 (34,⟨1,24,.slice 36,.slice 4 .nil []⟩),
 (36,⟨4,56,.struct [(0,3),(1,3),(2,9),(3,34)],.agg [.int .i64 0,.int .i64 0,.str [],.slice 4 .nil []]⟩),
 (50,⟨1,8,.map 9 4,.junk⟩),
 (51,⟨1,8,.map 3 4,.junk⟩),
 (52,⟨1,8,.other,.junk⟩),
 (54,⟨5,64,.struct [(0,3),(1,36)],.agg [.int .i64 0,.int .i64 0,.int .i64 0,.str [],.slice 4 .nil []]⟩),
 (56,⟨2,24,.struct [(0,3),(1,9)],.agg [.int .i64 0,.str []]⟩),
 (57,⟨1,8,.map 3 3,.junk⟩),
 (59,⟨2,16,.struct [(0,3),(1,3)],.agg [.int .i64 0,.int .i64 0]⟩),
 (170,⟨1,8,.int .u64,.int .u64 0⟩)]
theorem rk:fX aA u6=true:=by kernel_rfl
theorem al5:b7 u6 Sg [.tmp 2,.tmp 3] 1 Tryz.f7=true:=by kernel_rfl
theorem EZ:b7 u6 AF [] 4 Tryz.f23=true:=by kernel_rfl
theorem alQ:b7 u6 RZ [.tmp 2] 1 Tryz.f25=true:=by kernel_rfl
theorem amy:b7 u6 SK [.cell 2 true 4] 1 Tryz.f26=true:=by kernel_rfl
theorem amo:b7 u6 SA [.cell 2 true 4] 1 Tryz.f27=true:=by kernel_rfl
theorem anJ:b7 u6 TW [.tmp 2] 1 Tryz.f59=true:=by kernel_rfl
theorem amB:b7 u6 SN [.tmp 2] 1 Tryz.f111=true:=by kernel_rfl
theorem amA:b7 u6 SM [.tmp 4] 2 Tryz.f153=true:=by kernel_rfl
theorem amC:b7 u6 SO [.tmp 2] 1 Tryz.f174=true:=by kernel_rfl
def tx(l:List (List UInt8)):List aj:=l.flatMap fun s=>[.str s,.bool true]
def tz(l:List (List UInt8)):List aj:= .hdm l.length (List.range l.length)::tx l
@[simp]theorem avj:tz []=kv []:=rfl
theorem X7(s:List UInt8):∀l,uR .s (.str s) (tx l)=some (if s∈l then some (.bool true)else none)
 |[]=>rfl
 |x::r=>by
  have e:tx (x::r)= .str x:: .bool true::tx r:=rfl;rw[e];simp only[uR,rW];by_cases h:s=x
  ·subst h;simp
  ·have:(s==x)=false:=by simp[h]
   simp[h,this,X7 s r]
theorem Yt(s:List UInt8):∀l,ti .s (.str s) (.bool true) (tx l)=some (if s∈l then some (tx l)else none)
 |[]=>rfl
 |x::r=>by
  have e:tx (x::r)= .str x:: .bool true::tx r:=rfl;rw[e];simp only[ti,rW];by_cases h:s=x
  ·subst h;simp
  ·have:(s==x)=false:=by simp[h]
   simp only[this,Yt s r];by_cases U:s∈r<;>simp[h,U,e]
@[simp]theorem auU(s:List UInt8)(l:List (List UInt8)):ov .s (.str s) (.bool true) (tz l)=some (tz (k6 s l)):=by
 simp only[tz,ov,Xr,Bool.true_eq_false,reduceCtorEq,if_false,Yt,k6];by_cases h:s∈l
 ·simp[h]
 ·simp[h,tx,List.range_succ]
theorem alm(f:aM->Option (List aj))(m:aM)(l:List (List UInt8))(s:List UInt8)(hm:f m=some (tz l)):nN f .s (.bool false) false (.gmap m) (.str s)=some (True,.bool (decide (s∈l))):=by simp only[Ot,hm,tz,Xr,Bool.true_eq_false,reduceCtorEq,if_false,X7];by_cases h:s∈l<;>simp[h]
@[simp]theorem auN(l:List (List UInt8))(s:List UInt8):zz .s (.bool false) false (some (tz l)) (.str s)=some (True,.bool (decide (s∈l))):=alm _ _ l s rfl
@[simp]theorem at7(S:aM->Prop)(l:List (List UInt8)):aP S (tz l)=True:=by
 refine eq_true ?_;have:∀l:List (List UInt8),aP S (tx l):=fun l=>by
  induction l with
  |nil=>simp[tx,aP]
  |cons x r bK=>exact⟨by simp[aK],by simp[aK],bK⟩
 exact⟨by simp[aK],this l⟩
@[simp]theorem ava(l:List (List UInt8)):iq (tz l)=false:=rfl
theorem Rv(k:Int):∀l:List Int,tV k (l.map fun x=>(x,aj.bool true))=if k∈l then some (.bool true)else none
 |[]=>rfl
 |i::r=>by
  by_cases h:k=i
  ·simp[tV,h]
  ·simp[tV,h,Rv k r]
theorem alh(f:aM->Option (List aj))(m:aM)(l:List Int)(k:Int)(hm:f m=some (ml l)):nN f .i (.bool false) false (.gmap m) (.int .i64 k)=some (True,.bool (decide (k∈l))):=by rw[X9 f m _ _ _ _ hm,Rv];by_cases h:k∈l<;>simp[h]
@[simp]theorem auJ(l:List Int)(k:Int):zz .i (.bool false) false (some (ml l)) (.int .i64 k)=some (True,.bool (decide (k∈l))):=alh _ _ l k rfl
@[simp]theorem atV(S:aM->Prop)(l:List Int):aP S (ml l)=True:=eq_true (nb S l)
theorem yx(k:Int)(l:List Int):Gs k l=k6 k l:=rfl
def eK(w:ie):cU:=⟨[(.obj 751,tz w.s),(.obj 752,[.gmap (.obj 751)]),(.obj 753,ml w.i),(.obj 754,[.gmap (.obj 753)]),(.obj 755,[.func 23 [.ptr (.obj 752) 0,.ptr (.obj 754) 0,.ptr (.obj 755) 0]])],[]⟩
theorem j7(w:ie):dP (eK w):=by unfold eK;refine dP.of ⟨by intro m;simp[Pv.look],by intro m;simp[Pv.look]⟩ d9 Ψ
theorem Vk(t:T):∀w:ie,bL aA 23 [t.e,.ptr (.obj 752) 0,.ptr (.obj 754) 0,.ptr (.obj 755) 0] (eK w) fun r ai=>r= .tuple []/\ai=eK (gS t w):=by
 induction t with
 |pair a b dQ dR=>intro w;have af:=j7 w;unfold eK at af⊢;refine bL.mk mixed rk Tryz.func23 EZ Ψ af.obj fun aR cN=>?_;unfold AF;simp;((with_reducible repeat' first|refine ak ?_|simp|((first|apply bN|apply bP|apply bO)<;>intro h<;>try simp at h))<;>(try exact cf));(refine hs.ob (dQ w) ge ge (Same.keys (by simp[eK]) (by simp[eK])) (by simp only[eK,bQ,bU];exact aL) (by simp only[eK,bQ,bU];exact aL) (by simp[inObs,Pv.look,eK]) ?_;simp[cc,eK]);((with_reducible repeat' first|refine ak ?_|simp|((first|apply bN|apply bP|apply bO)<;>intro h<;>try simp at h))<;>(try exact cf));(refine hs.ob (dR (gS a w)) ge ge (Same.keys (by simp[eK]) (by simp[eK])) (by simp only[eK,bQ,bU];exact aL) (by simp only[eK,bQ,bU];exact aL) (by simp[inObs,Pv.look,eK]) ?_;simp[cc,eK]);(with_reducible repeat' first|refine ak ?_|simp);(refine cR.at (eK (gS b (gS a w))) Ψ ge (Same.keys (by simp[eK,gS]) (by simp[eK,gS])) (by simp only[eK,gS,bQ,bU];exact aL) (by simp only[eK,gS,bQ,bU];exact aL) ?_;simp[cV,aY,a6,aX,inObs,Pv.look,eK,gS])
 |nil=>intro w;have af:=j7 w;unfold eK at af⊢;refine bL.mk mixed rk Tryz.func23 EZ Ψ af.obj fun aR cN=>?_;unfold AF;simp;((with_reducible repeat' first|refine ak ?_|simp|((first|apply bN|apply bP|apply bO)<;>intro h<;>try simp at h))<;>(try exact cf));(refine cR.at (eK w) Ψ ge (Same.keys (by simp[eK,gS]) (by simp[eK,gS])) (by simp only[eK,gS,bQ,bU];exact aL) (by simp only[eK,gS,bQ,bU];exact aL) ?_;simp[cV,aY,a6,aX,inObs,Pv.look,eK,gS])
 |var n=>intro w;have af:=j7 w;unfold eK at af⊢;refine bL.mk mixed rk Tryz.func23 EZ Ψ af.obj fun aR cN=>?_;unfold AF;simp;((with_reducible repeat' first|refine ak ?_|simp|((first|apply bN|apply bP|apply bO)<;>intro h<;>try simp at h))<;>(try exact cf));(refine cR.at (eK w) Ψ ge (Same.keys (by simp[eK,gS]) (by simp[eK,gS])) (by simp only[eK,gS,bQ,bU];exact aL) (by simp only[eK,gS,bQ,bU];exact aL) ?_;simp[cV,aY,a6,aX,inObs,Pv.look,eK,gS])
 |sym g=>intro w;have af:=j7 w;unfold eK at af⊢;refine bL.mk mixed rk Tryz.func23 EZ Ψ af.obj fun aR cN=>?_;unfold AF;simp;((with_reducible repeat' first|refine ak ?_|simp|((first|apply bN|apply bP|apply bO)<;>intro h<;>try simp at h))<;>(try exact cf));(refine cR.at (eK ⟨k6 g w.s,w.i⟩) Ψ ge (Same.keys (by simp[eK,gS]) (by simp[eK,gS])) (by simp only[eK,gS,bQ,bU];exact aL) (by simp only[eK,gS,bQ,bU];exact aL) ?_;simp[cV,aY,a6,aX,inObs,Pv.look,eK,gS])
 |num n=>intro w;have af:=j7 w;unfold eK at af⊢;refine bL.mk mixed rk Tryz.func23 EZ Ψ af.obj fun aR cN=>?_;unfold AF;simp;((with_reducible repeat' first|refine ak ?_|simp[yx]|((first|apply bN|apply bP|apply bO)<;>intro h<;>try simp at h))<;>(try exact cf));(refine cR.at (eK ⟨w.s,k6 n w.i⟩) Ψ ge (Same.keys (by simp[eK,gS,yx]) (by simp[eK,gS,yx])) (by simp only[eK,gS,yx,bQ,bU];exact aL) (by simp only[eK,gS,yx,bQ,bU];exact aL) ?_;simp[cV,aY,a6,aX,inObs,Pv.look,eK,gS,yx])
theorem abc:∀(l:List bn) (w:ie),(si l w).i=w.i
 |[],_=>rfl
 |m::l,w=>abc l ⟨k6 m.s w.s,w.i⟩
structure small (N:Nat) (s:bd):Prop where
 ok:gi s
 n:s.n=N
 n9:N<=9
 bw:∀b∈s.b,j0 b.t=true
 dw:∀d∈s.d,∀b∈d,j0 b.t=true
 t:lv [[97],[98]] s.m
theorem small.b5{n:Nat}{s:bd}(h:small n s):∀b∈s.b,b.t.size<=5000:=h.ok.1.b.fits.2
theorem small.d5{n:Nat}{s:bd}(h:small n s):∀d∈s.d,d.length<=400/\∀b∈d,b.t.size<=5000:=fun d aD=>⟨(h.ok.1.d d aD).fits.1,(h.ok.1.d d aD).fits.2⟩
theorem small.mw{n:Nat}{s:bd}(h:small n s):∀m∈s.m,m.s.head?≠some 119:=fun m hm=>by have:=h.t m hm;simp only[eU,List.mem_nil_iff,or_false]at this;rcases this with e|e<;>rw[e]<;>decide
theorem small.li{n:Nat}{s:bd}(h:small n s):(p0 s).i.length<=62000000:=by have I:=(Ke s.b ⟨[],[]⟩ h.b5).li;have U:=(Qu s.d (kS s.b ⟨[],[]⟩) h.d5).li;have ao:=h.ok.self.c;have a7:=h.ok.1.b.fits.1;rw[p0,abc];simp only[List.length_nil]at I;omega
theorem small.nw{n:Nat}{s:bd}(h:small n s):tk (p0 s).s:=abd _ _ h.mw (aba _ _ h.dw (Qt _ _ h.bw fun _ h=>by simp at h))
theorem small.dI{n:Nat}{s:bd}(h:small n s):∀d∈s.d,∀b∈d,Af (p0 s) b.t:=fun d aD b ad=>(aa9 s.d _ h.d5 d aD b ad).mono (abb s.m _)
theorem an2{l:List ah}(h:l.Pairwise fun b c=>b.t≠c.t):∀{b c:ah},b∈l->c∈l->b.t=c.t->b=c:=by
 induction h with
 |nil=>intro b c ad;simp at ad
 |cons I _ bK=>
  intro b c ad aq e;rcases eU.1 ad with ad|ad<;>rcases eU.1 aq with aq|aq
  ·rw[ad,aq]
  ·rw[ad]at e;exact absurd e (I _ aq)
  ·rw[aq]at e;exact absurd e.symm (I _ ad)
  ·exact bK ad aq e
theorem ab5{i:Nat}(h:i<10):iB (p2 i)=true:=by rcases(by omega:i=0\/i=1\/i=2\/i=3\/i=4\/i=5\/i=6\/i=7\/i=8\/i=9)with rfl|rfl|rfl|rfl|rfl|rfl|rfl|rfl|rfl|rfl<;>decide
def lW(s:bd):List ah:=(List.range s.n.toNat).map fun(v:Nat)=>⟨(v:Int),(aV s.b v).ap (aV (iP s s.n.toNat).f)⟩
theorem akI{l:List bV}(h:ho l){x:bV}(ab:x∈l):jb l x.v=some x.k:=by
 unfold jb;have U:=h.asc;clear h;induction l with
 |nil=>simp at ab
 |cons y r bK=>
  rw[nm]at U;rw[List.find?_cons];rcases eU.1 ab with rfl|ab
  ·simp
  ·have:=U.1 x ab;rw[show(y.v==x.v)=false by simp;omega];exact bK ab U.2
theorem F5{n:Nat}{s:bd}(h:small n s):kk n (lW s)/\oE s (lW s):=by
 have au:=h.n;have vP:s.n.toNat=n:=Ω
 have HU:=h.n9;have h5:=zY s n HU;have ai4:=h.li;unfold lW;rw[vP];generalize iP s n=w at h5⊢;obtain⟨aW,bj,bM⟩:=I0 w.i;have Em:=h5.li;let f:Int->T:=fun u=>(cO w.f u).getD (.num (ox w.i))
 have fin:∀{u t},(⟨u,t⟩:ah)∈w.f->f u=t:=fun{u t} aC=>by have:=oP h5.asc aC;show(cO w.f u).getD _=t;rw[this];rfl
 have Hh:∀u,(∃i,i<10/\f u= .sym (p2 i))\/ ∃m:Nat,f u= .num m/\(m:Int)∉(p0 s).i/\m<=63000000:=fun u=>by
  cases e:cO w.f u with
  |none=>
   have:f u= .num (ox w.i):=by show(cO w.f u).getD _=_;rw[e];rfl
   exact .inr ⟨ox w.i,this,fun ab=>bj (h5.i _ ab),Ω⟩
  |some t=>
   have hm:=iX e;have I:=h5.at' _ hm;rw[fin hm];simp only at I;split at I
   ·obtain⟨i,U,ao⟩:=I;exact .inl ⟨i,by have:=h5.j;omega,ao⟩
   ·obtain⟨m,U,_,ao,a7⟩:=I;exact .inr ⟨m,U,ao,Ω⟩
 have Hi:∀u:Int,0<=u->u<n->cO s.b u=none->(⟨u,f u⟩:ah)∈w.f:=fun u bB I U=>by obtain⟨t,aC⟩:=h5.al u bB I U;rw[fin aC];exact aC
 have c9:=h.ok.self;have xo:=Fl h.ok.1.b.sol Ψ c9.k;have yT:ab1 s f:=by
  refine⟨fun v=>?_,fun v=>?_,fun u v bB I U ao hu az e=>?_,fun d aD c aq v e=>?_,fun k ae=>?_,fun m hm=>?_⟩
  ·rcases Hh v with⟨i,_,e⟩|⟨m,e,_⟩
   ·exact .inr ⟨_,e⟩
   ·exact .inl ⟨_,e⟩
  ·rcases Hh v with⟨i,hi,e⟩|⟨m,e,_,hm⟩
   ·rw[e];exact ab5 hi
   ·rw[e];simp only[T.ok,eA];omega
  ·have:=an2 h5.ne (Hi u bB Ω hu) (Hi v U Ω az) e;exact eW ah.v this
  ·have hw:=h.dw d aD c aq;have Mx:=h.dI d aD c aq;rcases Hh v with⟨i,hi,fJ⟩|⟨m,fJ,hm,_⟩
   ·rw[e,fJ]at hw;simp[j0,p2]at hw
   ·exact hm (Mx.i m (by rw[e,fJ]))
  ·have az:=h.ok.1.kb k ae;have jo:=h.ok.1.k.at' k ae;have I:=h5.at' _ (Hi k.v jo.1.1 Ω (xo k ae));simp only[akI h.ok.1.k ae]at I;split at I
   ·rename_i e;obtain⟨i,_,U⟩:=I;rw[U,eV e];rfl
   ·rename_i e;obtain⟨m,U,_⟩:=I;rw[U];rcases jo.2 with aE|aE
    ·exact absurd (by rw[aE]) e
    ·rw[aE];rfl
  ·rcases Hh m.v with⟨i,hi,e⟩|⟨_,e,_⟩
   ·rw[e];have cG:=h.mw m hm;simp only[T.has,beq_eq_false_iff_ne,ne_eq];intro aE;rw[<-aE]at cG;simp[p2]at cG
   ·rw[e];rfl
 have aN:=arx h.ok yT Ω (w:=(List.range n).map fun(v:Nat)=>⟨(v:Int),(aV s.b v).ap (aV w.f)⟩) (by simp[au]) fun i b ad=>by
  rw[List.getElem?_map,gB]at ad;obtain⟨j,ag,rfl⟩:=ad;obtain⟨dX,oX⟩:=fG.1 ag;rw[List.getElem_range]at oX;subst oX;rw[List.length_range]at dX;refine⟨rfl,mP fun u hu=>?_⟩;have uE:(0<=u/\u<n)/\cO s.b u=none:=by
   unfold aV at hu;cases e:cO s.b i with
   |none=>rw[e]at hu;simp only[jy,T.occ,dO]at hu;subst hu;exact⟨Ω,e⟩
   |some t=>rw[e]at hu;simp only[ib]at hu;have hm:=iX e;have I:=(BE h.ok.1.b.ok h.ok.1.bb _ hm).2 u hu;exact⟨Ω,h.ok.1.b.sol.free _ hm u hu⟩
  have hm:=Hi u uE.1.1 uE.1.2 uE.2;show aV w.f u=f u;unfold aV;rw[oP h5.asc hm];rfl
 rw[au]at aN;exact aN
theorem j2.small{n L:Nat}{s:bd}{E:List (T×T)}(h:gi s)(au:s.n=n)(ih:n<=9)(aC:lv [[97],[98]] s.m)(bG:j2 (qx n) L E s):small n s:=⟨h,au,ih,fun _ ad=>bG.b_w ad,fun _ aD _ ad=>bG.d_w aD ad,aC⟩
theorem lH.small{n k:Nat}{s:bd}(h:lH n k s)(ih:n<=9):small n s:=by obtain⟨E,c3⟩:=h.p;exact c3.small h.s.ok h.s.n ih h.s.t
theorem aa8{l:List ah}{i:Nat}{x:ah}(h:l[i]? =some x)(w:ie):kS (l.take (i+1)) w=gS x.t (kS (l.take i) w):=by rw[lT h,kS,List.foldl_append];rfl
theorem aqh{l:List (List ah)}{i:Nat}{x:List ah}(h:l[i]? =some x)(w:ie):sg (l.take (i+1)) w=kS x (sg (l.take i) w):=by rw[lT h,sg,List.foldl_append];rfl
theorem aqi{l:List bn}{i:Nat}{x:bn}(h:l[i]? =some x)(w:ie):si (l.take (i+1)) w=⟨k6 x.s (si (l.take i) w).s,(si (l.take i) w).i⟩:=by rw[lT h,si,List.foldl_append];rfl
def wM(s:bd)(j:Nat):List (List UInt8):=(p0 s).s++(List.range j).map p2
theorem ab4{N:Nat}{s:bd}(h:small N s){a j:Nat}(bk:a<10)(ag:j<=9):p2 a∈wM s j↔a<j:=by
 unfold wM;rw[h3,hU];constructor
 ·rintro(I|⟨b,ad,e⟩)
  ·exact absurd rfl (h.nw _ I)
  ·rw[List.mem_range]at ad;have:=ab3 Ω bk e;omega
 ·intro I;exact .inr ⟨a,List.mem_range.2 I,rfl⟩
theorem ap3{N:Nat}{s:bd}(h:small N s){j:Nat}(ag:j<=9):k6 (p2 j) (wM s j)=wM s (j+1):=by unfold k6;rw[if_neg (fun hm=>by have:=(ab4 h Ω ag).1 hm;omega)];simp[wM,List.range_succ]
theorem acQ(l:List Int):k6 (ox l:Int) l=l++[(ox l:Int)]:=by unfold k6;rw[if_neg (I0 l).2.1]
theorem acT{k:List bV}(bk:k.Pairwise fun x y=>x.v<y.v)(v:Int):(k.any fun x=>x.v==v&&x.k==2)=(jb k v==some 2):=by
 rw[qP,List.any_eq_true,dO];constructor
 ·rintro⟨x,ab,h⟩;simp only[cv,dO]at h;have:=zr bk ab;rw[h.1,h.2]at this;exact this
 ·intro h;exact⟨_,zp h,Ψ⟩
def BF(k:List bV)(i:Nat)(l:List (Int×Int)):Prop:= ∀v,(hO l v==2)=(k.take i).any fun x=>x.v==v&&x.k==2
theorem BF.put{k:List bV}(bk:k.Pairwise fun x y=>x.v<y.v){i:Nat}{l:List (Int×Int)}(h:BF k i l){x:bV}(ab:k[i]? =some x):BF k (i+1) (e8 x.v x.k l):=fun v=>by
 rw[lT ab,List.any_append,<-h v];unfold hO;rw[nQ];by_cases e:v=x.v
 ·subst e;have cW:((k.take i).any fun y=>y.v==x.v&&y.k==2)=false:=by rw[List.any_eq_false];intro y aB;have U:=bk;rw[<-List.take_append_drop i k,List.pairwise_append]at U;obtain⟨hi,c1⟩:=fG.1 ab;have:=U.2.2 y aB x (by rw[lA hi,c1];simp);simp;omega
  have ao:=h x.v;rw[cW]at ao;unfold hO at ao;rw[ao];simp
 ·rw[if_neg e];have:(x.v==v)=false:=by simp;exact fun h=>e h.symm
  simp[this]
theorem BF.fin{k:List bV}(ae:ho k){l:List (Int×Int)}(h:BF k k.length l)(v:Int):(hO l v==2)=(jb k v==some 2):=by rw[h v,lB,acT ae.asc]
theorem agS{l:List ah}(af:gD l)(v:Int){t:T}(h:cO l v=some t):0<=kB l v/\∃b,l[(kB l v).toNat]? =some b/\b.t=t:=by
 have bB:¬kB l v<0:=fun au=>by rw[(A0 af v).1 au]at h;cases h
 refine⟨Ω,?_⟩;rw[<-Jc af v]at h;unfold r6 at h;rw[if_neg bB,gB]at h;exact h
theorem apa{N:Nat}{s:bd}(iK:N<=9)(v:Int):(aV (iP s N).f v).size=1:=by
 unfold aV;cases e:cO (iP s N).f v with
 |none=>rfl
 |some t=>
  have I:=(zY s N iK).at' _ (iX e);simp only at I;split at I
  ·obtain⟨i,_,U⟩:=I;rw[U];rfl
  ·obtain⟨m,U,_⟩:=I;rw[U];rfl
theorem apc{N:Nat}{s:bd}(h:small N s):w7 (iP s N).f:=fun b ad=>by
 have h5:=zY s N h.n9;have I:=h5.at' b ad;have aw:=h.li;have iK:=h.n9;have ag:=h5.j;split at I
 ·obtain⟨i,hi,U⟩:=I;rw[U];have:=ab5 (i:=i) Ω;simp[T.fit,T.ok,T.size,this]
 ·obtain⟨m,U,_,_,ao⟩:=I;rw[U];simp[T.fit,T.ok,T.size];omega
theorem aaw{N:Nat}(s:bd)(iK:N<=9):(iP s N).f.length<=N:=by
 induction N with
 |zero=>simp[iP]
 |succ k bK=>
  have:=bK Ω;simp only[iP,FO];split
  ·omega
  ·split<;>simp<;>omega
theorem arw{N:Nat}{s:bd}(h:small N s)(v:Int):((aV s.b v).ap (aV (iP s N).f)).size<=5000:=by
 rw[Gv (apa h.n9)];unfold aV;cases e:cO s.b v with
 |none=>simp[T.size]
 |some t=>exact h.b5 _ (iX e)
theorem arv{N:Nat}{s:bd}(au:s.n=N){i:Nat}(hi:i<N):(lW s)[i]? =some ⟨(i:Int),(aV s.b i).ap (aV (iP s N).f)⟩:=by
 have:s.n.toNat=N:=Ω
 unfold lW;rw[this,List.getElem?_map,List.getElem?_range hi];rfl
open Classical in
theorem aqz{s:bd}(h:gi s)(hm:jN s.m):bR aA 22 [s.e] (.bool true):=by have:=Kf s.r fun _=>hm;rwa[hd ⟨s,rfl,h⟩,u3]at this
theorem arl(n:Nat)(h:n<10):bR aA 174 [.int .i64 n] (.str [UInt8.ofNat (48+n)]):=by
 rcases(by omega:n=0\/n=1\/n=2\/n=3\/n=4\/n=5\/n=6\/n=7\/n=8\/n=9)with rfl|rfl|rfl|rfl|rfl|rfl|rfl|rfl|rfl|rfl;all_goals
  refine br rk Tryz.func174 amC fun aR=>?_;unfold SO
  exact cu
theorem aqo(n:Nat)(h:n<10):bR aA 153 [.int .i64 n,.int .i64 10] (.str [UInt8.ofNat (48+n)]):=by
 have c5:=arl n h;have I:(0:Int)<=n:=Ω
 have U:(n:Int)<100:=Ω
 refine br rk Tryz.func153 amA fun aR=>?_;unfold SM;exact cu
theorem aqr(n:Nat)(h:n<10):bR aA 25 [.int .i64 n] (.str [UInt8.ofNat (48+n)]):=by
 have Ix:=aqo n h;have jJ:bR aA 111 [.int .i64 n] (.str [UInt8.ofNat (48+n)]):=by refine br rk Tryz.func111 amB fun aR=>?_;unfold SN;exact cu
 have il:bR aA 59 [.int .i64 n] (.str [UInt8.ofNat (48+n)]):=by refine br rk Tryz.func59 anJ fun aR=>?_;unfold TW;exact cu
 refine br rk Tryz.func25 alQ fun aR=>?_;unfold RZ;exact cu
theorem arn(g:List UInt8):bR aA 26 [.str g] (T.sym g).e:=by refine br rk Tryz.func26 amy fun aR=>?_;unfold SK;exact cu
theorem aq6(k:Int):bR aA 27 [.int .i64 k] (T.num k).e:=by refine br rk Tryz.func27 amo fun aR=>?_;unfold SA;exact cu
theorem pT(S:aM->Prop)(l:List ah)(d:ah):aP S (l.map ah.e++[d.e])=True:=by
 have:∀l:List ah,aP S (l.map ah.e):=fun l=>by
  induction l with
  |nil=>simp[aP]
  |cons x r bK=>simp only[hc,aP];exact⟨Ψ,bK⟩
 have:=this (l++[d]);rw[List.map_append]at this;exact eq_true this
theorem N9:lN []=kv []:=rfl
def hW(s:bd):List aj:=[.int .i64 s.n,.slice 5 .no (s.b.map ah.e),.slice 1 .no (s.d.map cF),.slice 2 .no (s.k.map bV.e),.slice 2 .no (s.m.map bn.e)]
def eL(t:List (Nat×aj))(c:List aj)(w:ie)(l:List (aM×List aj))(e:List (aM×fU))(n:Nat):bt:=⟨[(1,.ptr (.loc 0) 0),(4,.ptr (.obj 752) 0),(5,.ptr (.obj 754) 0)]++t,[(.loc 0,c),(.obj 751,tz w.s),(.obj 752,[.gmap (.obj 751)]),(.obj 753,ml w.i),(.obj 754,[.gmap (.obj 753)]),(.obj 755,[.func 23 [.ptr (.obj 752) 0,.ptr (.obj 754) 0,.ptr (.obj 755) 0]])]++l,e,n,[.obj 755,.obj 754,.obj 753,.obj 752,.obj 751]⟩
theorem aqD{N:Nat}{s:bd}(h:small N s)(hm:jN s.m):bR aA 7 [s.e] (.tuple [.slice 5 .no ((lW s).map ah.e),.bool true]):=by
 have c5:=aqz h.ok hm;have au:=h.n;have HU:=h.n9;have aik:¬s.n>400:=Ω
 have ai4:=h.li;have lL:=h.ok.1.b;have fA:=lL.len;have uI:=fun v=>tI s.b v Ω;simp only[bd.e]at c5⊢;refine br rk Tryz.func7 al5 fun aR=>?_;unfold Sg;have xh:s.d.length<=68719476736/\s.k.length<=68719476736/\s.m.length<=68719476736:=by simp[gO,gj,gE,lim]at aR;omega
 clear aR;obtain⟨xh,iz,l6⟩:=xh;simp;(with_reducible repeat' first|refine ak ?_|refine aF c5 ?_|refine aG c5 ?_|simp[aik]);refine hH (fun i (_:Unit)=>eL [(6,.ptr (.obj 755) 0),(39,.slice 5 .no (s.b.map ah.e)),(40,.int .i64 s.b.length),(41,.int .i64 i)] (hW s) (kS (s.b.take i) ⟨[],[]⟩) [] [] 1) s.b.length (fun _ _=>True) () (by simp[eL,hW,kS];exact b0) trivial (fun _ _ _=>?_) (fun i _ hi _ _=>?_);rotate_left
 ·obtain⟨x,ab,c1⟩:=en hi;have hu:=aa8 ab ⟨[],[]⟩;have aT:=Vk x.t (kS (s.b.take i) ⟨[],[]⟩);rw[<-hu]at aT;generalize kS (s.b.take i) ⟨[],[]⟩=w at aT⊢;generalize qu:kS (s.b.take (i+1)) ⟨[],[]⟩=w' at aT;simp only[eL,hW];simp[hi,c1];(with_reducible repeat' first|refine ak ?_|simp[hi,c1]);(refine cY.ob (aT) ge (by simp only[eK,bQ,bU];exact aL) (by simp only[eK,bQ,bU];exact aL) (by simp[inObs,Pv.look,eK]) ?_;rintro r ai ⟨rfl,rfl⟩;refine⟨(Same.keys (by simp[eK]) (by simp[eK])),?_⟩;simp[cc,eK]);(with_reducible repeat' first|refine ak ?_|simp);exact bS.rng () hi trivial ⟨by simp[fresh,aP,aK,cq,inObs,Pv.look,qu],et (by simp[fresh,aP,aK,cq,inObs,Pv.look,qu]),eu (by simp[fresh,aP,aK,ee,inObs,Pv.look,qu]),Ψ⟩
 rw[lB];generalize zi:kS s.b ⟨[],[]⟩=fP;simp only[eL,hW];simp;(with_reducible repeat' first|refine ak ?_|simp);refine hH (fun i (_:Unit)=>eL [(6,.ptr (.obj 755) 0),(51,.slice 1 .no (s.d.map cF)),(52,.int .i64 s.d.length),(53,.int .i64 i)] (hW s) (sg (s.d.take i) fP) [] [] 1) s.d.length (fun _ _=>True) () (by simp[eL,hW,sg];exact b0) trivial (fun _ _ _=>?_) (fun i _ hi _ _=>?_);rotate_left
 ·obtain⟨x,ab,c1⟩:=en hi;have hu:=aqh ab fP;have pP:=(h.d5 x (ek ab)).1;generalize atx:sg (s.d.take i) fP=wd at hu⊢;simp only[eL,hW];simp[hi,c1,cF];(with_reducible repeat' first|refine ak ?_|simp[hi,c1,cF]);refine hH (fun j (_:Unit)=>eL [(6,.ptr (.obj 755) 0),(51,.slice 1 .no (s.d.map cF)),(52,.int .i64 s.d.length),(53,.int .i64 i),(57,.slice 5 .no (x.map ah.e)),(58,.int .i64 x.length),(59,.int .i64 j)] (hW s) (kS (x.take j) wd) [] [] 1) x.length (fun _ _=>True) () (by simp[eL,hW,kS];exact b0) trivial (fun _ _ _=>?_) (fun j _ ag _ _=>?_)
  ·rw[lB,<-hu];generalize Bz:sg (s.d.take (i+1)) fP=we;simp only[eL,hW];simp;(with_reducible repeat' first|refine ak ?_|simp);exact bS.rng () hi trivial ⟨by simp[fresh,aP,aK,cq,inObs,Pv.look,Bz],et (by simp[fresh,aP,aK,cq,inObs,Pv.look,Bz]),eu (by simp[fresh,aP,aK,ee,inObs,Pv.look,Bz]),Ψ⟩
  ·obtain⟨y,aB,eR⟩:=en ag;have uE:=aa8 aB wd;have aT:=Vk y.t (kS (x.take j) wd);rw[<-uE]at aT;generalize kS (x.take j) wd=w at aT⊢;generalize qu:kS (x.take (j+1)) wd=w' at aT;clear hu uE;simp only[eL,hW];simp[ag,eR];(with_reducible repeat' first|refine ak ?_|simp[ag,eR]);(refine cY.ob (aT) ge (by simp only[eK,bQ,bU];exact aL) (by simp only[eK,bQ,bU];exact aL) (by simp[inObs,Pv.look,eK]) ?_;rintro r ai ⟨rfl,rfl⟩;refine⟨(Same.keys (by simp[eK]) (by simp[eK])),?_⟩;simp[cc,eK]);(with_reducible repeat' first|refine ak ?_|simp);exact bS.rng () ag trivial ⟨by simp[fresh,aP,aK,cq,inObs,Pv.look,qu],et (by simp[fresh,aP,aK,cq,inObs,Pv.look,qu]),eu (by simp[fresh,aP,aK,ee,inObs,Pv.look,qu]),Ψ⟩
 rw[lB];generalize nF:sg s.d fP=dV;simp only[eL,hW];simp;(with_reducible repeat' first|refine ak ?_|simp);refine hH (fun i (_:Unit)=>eL [(70,.slice 2 .no (s.m.map bn.e)),(71,.int .i64 s.m.length),(72,.int .i64 i)] (hW s) (si (s.m.take i) dV) [] [] 1) s.m.length (fun _ _=>True) () (by simp[eL,hW,si];exact b0) trivial (fun _ _ _=>?_) (fun i _ hi _ _=>?_);rotate_left
 ·obtain⟨x,ab,c1⟩:=en hi;have hu:=aqi ab dV;generalize si (s.m.take i) dV=w at hu⊢;simp only[eL,hW];simp[hi,c1];(with_reducible repeat' first|refine ak ?_|simp[hi,c1]);exact bS.rng () hi trivial ⟨by simp[fresh,aP,aK,cq,inObs,Pv.look,hu],et (by simp[fresh,aP,aK,cq,inObs,Pv.look,hu]),eu (by simp[fresh,aP,aK,ee,inObs,Pv.look,hu]),Ψ⟩
 rw[lB];have WN:si s.m dV=p0 s:=by rw[<-nF,<-zi];rfl
 rw[WN];clear zi nF WN;simp only[eL,hW];simp;(with_reducible repeat' first|refine ak ?_|simp);refine hH (fun i (l:List (Int×Int))=>eL [(15,.gmap (.loc 1)),(82,.slice 2 .no (s.k.map bV.e)),(83,.int .i64 s.k.length),(84,.int .i64 i)] (hW s) (p0 s) [(.loc 1,lN l)] [] 2) s.k.length (BF s.k) [] (by simp[eL,hW];exact⟨by simp[fresh,aP,aK,cq,inObs,Pv.look,N9],et (by simp[fresh,aP,aK,cq,inObs,Pv.look,N9]),eu (by simp[fresh,aP,aK,ee,inObs,Pv.look,N9]),Ψ⟩) (fun v=>by simp[hO,tg]) (fun l ag _=>?_) (fun i l hi ag _=>?_);rotate_left
 ·obtain⟨x,ab,c1⟩:=en hi;have ats:=ag.put h.ok.1.k.asc ab;clear ag;simp only[eL,hW];exact hj
 have nB:=ag.fin h.ok.1.k;clear ag;simp only[eL,hW];simp;(with_reducible repeat' first|refine ak ?_|simp);refine hH (fun i (_:Unit)=>eL [(15,.gmap (.loc 1)),(18,.slice 5 (.own (.loc 2)) ((iP s i).f.map ah.e)),(19,.int .i64 i)] (hW s) ⟨wM s (iP s i).j,(iP s i).i⟩ [(.loc 1,lN l)] [(.loc 2,⟨(iP s i).f.length,54,5,none⟩)] 3) N (fun _ _=>True) () (by simp[eL,hW,iP,wM];exact b0) trivial (fun _ _ _=>?_) (fun i _ hi _ _=>?_);rotate_left
 ·have h5:=zY s i Ω;have gZ:(i:Int)<s.n:=Ω
  have Em:=aaw s (N:=i) Ω;have hy:iP s (i+1)=FO s (iP s i) i:=rfl;unfold FO at hy;generalize aty:iP s i=w at h5 hy Em⊢;generalize s6:iP s (i+1)=wn' at hy;have ae:=nB i;clear nB;obtain⟨F3,yj,wf⟩:=w;have aiN:=h5.j;have aiZ:=h5.li;simp only at aiN aiZ hy Em;clear h5;by_cases ad:cO s.b i=none
  ·have bD:¬0<=kB s.b i:=by have:=(A0 lL.sol.asc i).2 ad;omega
   rw[ad,if_neg Ψ]at hy;by_cases U:jb s.k i=some 2
   ·rw[if_pos U]at hy;have Bx:hO l i=2:=by rw[U]at ae;simpa using ae
    clear ae;simp only[eL,hW];simp[gZ];(with_reducible repeat' first|refine ak ?_|refine aF (uI i) ?_|refine aG (uI i) ?_|simp[gZ,bD,Bx]);refine n2 (fun(a:Nat)=>eL [(15,.gmap (.loc 1)),(18,.slice 5 (.own (.loc 2)) (wf.map ah.e)),(19,.int .i64 i),(20,.int .i64 a)] (hW s) ⟨wM s yj,F3⟩ [(.loc 1,lN l)] [(.loc 2,⟨wf.length,54,5,none⟩)] 3) (fun a=>yj-a) (fun a=>a<=yj) 0 (by simp[eL,hW];exact b0) Ω (fun a bk _=>?_);have h0:=ab4 h (a:=a) (j:=yj) Ω Ω;have jJ:=aqr a Ω;unfold p2 at h0;simp only[eL,hW];by_cases mS:a<yj
    ·have uy:=h0.2 mS;clear h0;generalize UInt8.ofNat (48+a)=g at uy jJ;simp;((with_reducible repeat' first|refine ak ?_|refine aF jJ ?_|refine aG jJ ?_|simp[uy]|((first|apply bN|apply bP|apply bO)<;>intro h<;>try simp at h))<;>(try exact cf));exact bS.whl (a+1) Ω Ω b0
    ·have vN:¬_:=fun hm=>mS (h0.1 hm);have o2:=ap3 h (j:=yj) Ω;have MA:a=yj:=Ω
     subst MA;unfold p2 at o2 hy;have kf:=arn [119,UInt8.ofNat (48+a)];clear h0;generalize UInt8.ofNat (48+a)=g at vN o2 hy kf jJ;simp;(with_reducible repeat' first|refine ak ?_|refine aF jJ ?_|refine aG jJ ?_|refine aF kf ?_|refine aG kf ?_|simp[vN,o2]);exact bS.rng () hi trivial ⟨by simp[fresh,aP,aK,cq,inObs,Pv.look,s6,hy,pT],et (by simp[fresh,aP,aK,cq,inObs,Pv.look,s6,hy,pT]),eu (by simp[fresh,aP,aK,ee,inObs,Pv.look,s6,hy,pT]),Ψ⟩
   ·rw[if_neg U]at hy;have Bx:(hO l i==2)=false:=by rw[ae];simpa using U
    have ajG:¬hO l i=2:=by simpa using Bx
    clear ae;obtain⟨aW,bj,bM⟩:=I0 F3;have bs:=acQ F3;generalize ox F3=m at aW bj bM bs hy;simp only[eL,hW];simp[gZ];(with_reducible repeat' first|refine ak ?_|refine aF (uI i) ?_|refine aG (uI i) ?_|simp[gZ,bD,Bx,ajG]);refine n2 (fun(a:Nat)=>eL [(15,.gmap (.loc 1)),(18,.slice 5 (.own (.loc 2)) (wf.map ah.e)),(19,.int .i64 i),(20,.int .i64 a)] (hW s) ⟨wM s yj,F3⟩ [(.loc 1,lN l)] [(.loc 2,⟨wf.length,54,5,none⟩)] 3) (fun a=>m-a) (fun a=>a<=m) 0 (by simp[eL,hW];exact b0) Ω (fun a bk _=>?_);simp only[eL,hW];by_cases mS:a<m
    ·have uy:=aW a mS;simp;((with_reducible repeat' first|refine ak ?_|simp[uy]|((first|apply bN|apply bP|apply bO)<;>intro h<;>try simp at h))<;>(try exact cf));exact bS.whl (a+1) Ω Ω b0
    ·have MA:a=m:=Ω
     subst MA;have kf:=aq6 a;simp;(with_reducible repeat' first|refine ak ?_|refine aF kf ?_|refine aG kf ?_|simp[bj,yx,bs]);exact bS.rng () hi trivial ⟨by simp[fresh,aP,aK,cq,inObs,Pv.look,s6,hy,pT],et (by simp[fresh,aP,aK,cq,inObs,Pv.look,s6,hy,pT]),eu (by simp[fresh,aP,aK,ee,inObs,Pv.look,s6,hy,pT]),Ψ⟩
  ·have bD:0<=kB s.b i:=by have:=mt (A0 lL.sol.asc i).1 ad;omega
   rw[if_pos (by cases e:cO s.b i with|none=>exact absurd e ad|some _=>rfl)]at hy;simp only[eL,hW];simp[gZ];(with_reducible repeat' first|refine ak ?_|refine aF (uI i) ?_|refine aG (uI i) ?_|simp[gZ,bD]);exact bS.rng () hi trivial ⟨by simp[fresh,aP,aK,cq,inObs,Pv.look,s6,hy,pT],et (by simp[fresh,aP,aK,cq,inObs,Pv.look,s6,hy,pT]),eu (by simp[fresh,aP,aK,ee,inObs,Pv.look,s6,hy,pT]),Ψ⟩
 clear nB;have vP:¬(N:Int)<s.n:=Ω
 have h5:=zY s N HU;have Ic:=apc h;have Em:=aaw s HU;have dY:=fun v=>arw h v;have aT:=fun i (hi:i<N)=>arv au hi;have atw:(lW s).length=N:=by simp[lW];omega
 generalize iP s N=w at h5 Ic Em dY aT⊢;simp only[eL,hW];simp;(with_reducible repeat' first|refine ak ?_|simp[vP]);refine hH (fun i (a:List ah)=>⟨[(1,.ptr (.loc 0) 0),(18,.slice 5 (.own (.loc 2)) (w.f.map ah.e)),(21,.slice 5 (.own (.loc 3)) (a.map ah.e)),(22,.int .i64 i)],[(.loc 0,hW s)],[(.loc 3,⟨a.length,54,5,none⟩)],4,[]⟩) N (fun i a=>a=(lW s).take i) [] (by simp[hW];exact b0) Ψ (fun a ag _=>?_) (fun i a hi ag _=>?_)
 ·rw[hV Ω]at ag;rw[<-ag];simp only[hW];exact cu
 ·have gZ:(i:Int)<s.n:=Ω
  have ab:=aT i hi;have jr:=lT ab;rw[<-ag]at jr;have mS:a.length<=N:=by rw[ag,List.length_take];omega
  have a8:=dY i;have hg:=kj i;have ho:=FX w.f (aV s.b i) Ω h5.asc Ic;rw[if_pos a8,hd a8]at ho;generalize (aV s.b i).ap (aV w.f)=x at ab jr ho;clear a8 dY aT ab ag;simp only[hW];by_cases ad:cO s.b i=none
  ·have bD:¬0<=kB s.b i:=by have:=(A0 lL.sol.asc i).2 ad;omega
   have o0:aV s.b i= .var i:=by unfold aV;rw[ad];rfl
   rw[o0]at ho;simp[gZ];((with_reducible repeat' first|refine ak ?_|refine aF hg ?_|refine aG hg ?_|refine aF (uI i) ?_|refine aG (uI i) ?_|refine aF ho ?_|refine aG ho ?_|simp[gZ,bD]|((first|apply bN|apply bP|apply bO)<;>intro h<;>try simp at h))<;>(try exact cf));exact bS.rng _ hi jr.symm ⟨by simp[fresh,aP,aK,cq,inObs,Pv.look,pT],et (by simp[fresh,aP,aK,cq,inObs,Pv.look,pT]),eu (by simp[fresh,aP,aK,ee,inObs,Pv.look,pT]),Ψ⟩
  ·obtain⟨t,aC⟩:=Option.ne_none_iff_exists'.1 ad;obtain⟨bB,b,kC,od⟩:=agS lL.sol.asc i aC;have o0:aV s.b i=b.t:=by unfold aV;rw[aC,od];rfl
   rw[o0]at ho;have q0:=(Mc s.b i).1;have cK:∀h,(s.b[(kB s.b i).toNat]'h)=b:=fun h=>by rw[cm h]at kC;exact eV kC
   have Ix:=uI i;clear uI;generalize kB s.b i=f at bB kC q0 cK Ix;simp[gZ];((with_reducible repeat' first|refine ak ?_|refine aF hg ?_|refine aG hg ?_|refine aF Ix ?_|refine aG Ix ?_|refine aF ho ?_|refine aG ho ?_|simp[gZ,bB,kC,cK,q0]|((first|apply bN|apply bP|apply bO)<;>intro h<;>try simp at h))<;>(try exact cf));exact bS.rng _ hi jr.symm ⟨by simp[fresh,aP,aK,cq,inObs,Pv.look,pT],et (by simp[fresh,aP,aK,cq,inObs,Pv.look,pT]),eu (by simp[fresh,aP,aK,ee,inObs,Pv.look,pT]),Ψ⟩
noncomputable def ig:bd->List ah->Option bd
 |s,[]=>some s
 |s,x::r=>(gW s (.var x.v) x.t).bind fun t=>ig t r
theorem G0(r:List ah):∀(l:List ah) (s:bd),ig s (l++r)=(ig s l).bind fun t=>ig t r
 |[],s=>by simp[ig]
 |y::l,s=>by
  simp only[bQ,ig];cases gW s (.var y.v) y.t with
  |none=>rfl
  |some t=>simp only[hE];exact G0 r l t
theorem ads{s t:bd}{d:List ah}{j:Nat}{x:ah}(ab:d[j]? =some x)(h:ig s (d.take j)=some t):ig s (d.take (j+1))=gW t (.var x.v) x.t:=by rw[lT ab,G0,h,hE];simp only[ig];cases gW t (.var x.v) x.t<;>rfl
theorem adr{s:bd}{d:List ah}{j:Nat}{x:ah}(ab:d[j]? =some x)(h:ig s (d.take j)=none):ig s (d.take (j+1))=none:=by rw[lT ab,G0,h,Option.bind_none]
theorem adt{s:bd}{d:List ah}{j:Nat}(h:ig s (d.take j)=none):ig s d=none:=by rw[<-List.take_append_drop j d,G0,h,Option.bind_none]
structure qg (n:Int) (x:ah):Prop where
 f1:(T.var x.v).fit=true
 f2:x.t.fit=true
 b1:dy n (.var x.v)=true
 b2:dy n x.t=true
theorem DD{v:Int}(h:0<=v/\v<=100000):(T.var v).fit=true:=by simp[T.fit,T.ok,T.size,h]
theorem Dc{n v:Int}(h:v<n):dy n (.var v)=true:=qU.2 fun w hw=>by simp[T.occ]at hw;omega
theorem Da{n:Int}{l:List ah}(af:ei l)(ad:nY l n){x:ah}(ab:x∈l):qg n x:=⟨DD (af.ok x ab).1,af.fit x ab,Dc (ad x ab).1,qU.2 (ad x ab).2⟩
structure yR (n:Int) (t:bd):Prop where
 ok:gi t
 tg:jN t.m
 n:t.n=n
theorem yR.equ{n:Int}{s t:bd}(h:yR n s){x:ah}(ab:qg n x)(he:gW s (.var x.v) x.t=some t):yR n t:=by obtain⟨I,U,ao⟩:=h;obtain⟨f1,f2,b1,b2⟩:=ab;subst ao;refine⟨yG I.1 f1 f2 b1 b2 he,adQ U he,?_⟩;unfold gW at he;obtain⟨b,ar,aE⟩:=hr.1 he;exact(tB (I.1.bind f1 f2 b1 b2 ar) aE).2.1
theorem RF{n:Int}{s:bd}(h:yR n s){x:ah}(ab:qg n x):qg s.n x:=by rw[h.n];exact ab
theorem apl{y:List ah}{a:List bV}{m:List bn}(aB:eQ y)(bk:a.Pairwise fun x z=>x.v<z.v)(ae:∀x∈a,x.k=2\/x.k=3)(aia:∀x∈a,cO y x.v=none)(vN:∀x∈m,cO y x.v=none):∃θ,df y θ/\iT θ a/\jR θ m:=by
 obtain⟨w,hw⟩:∃w:List UInt8,∀x∈m,w≠x.s:=by
  refine⟨List.replicate ((m.map fun x=>x.s.length).sum+1) 0,fun x ab e=>?_⟩;have I:=eW List.length e;rw[List.length_replicate]at I;have U:∀{l:List bn},x∈l->x.s.length<=(l.map fun x=>x.s.length).sum:=fun{l} aw=>by
   induction l with
   |nil=>simp at aw
   |cons z l bK=>
    simp only[hc,List.sum_cons];rcases eU.1 aw with rfl|aw
    ·omega
    ·have:=bK aw;omega
  have:=U ab;omega
 let f:Int->T:=fun u=>if jb a u=some 2 then .sym w else .num 0
 have aO:∀{u},cO y u=none->(aV y u).ap f=f u:=fun{u} h=>by
  have:aV y u= .var u:=by unfold aV;rw[h];rfl
  rw[this];rfl
 refine⟨fun v=>(aV y v).ap f,fun c aq=>?_,fun x ab=>?_,fun x ab=>?_⟩
 ·have ar:aV y c.v=c.t:=by unfold aV;rw[oP aB.asc aq];rfl
  simp only;rw[ar];exact mP fun u hu=>(aO (aB.free c aq u hu)).symm
 ·simp only;rw[aO (aia x ab)];have I:=zr bk ab;simp only[f,I];rcases ae x ab with e|e<;>simp[e,T.kind]
 ·simp only;rw[aO (vN x ab)];simp only[f];split
  ·simp only[T.has,beq_eq_false_iff_ne];exact hw x ab
  ·rfl
def tl(x:List ah)(k:List bV)(m:List bn):Prop:=¬(e3 x k []=none\/eS x m []=none)
theorem YG{x:List ah}{k:List bV}{m:List bn}(ab:gD x){θ:Int->T}(h:df x θ)(ae:iT θ k)(hm:jR θ m):tl x k m:=by
 rintro(e|e)
 ·have:=Cu ab h (l:=k) (acc:=[]);rw[e]at this;exact this ⟨by simp[iT],ae⟩
 ·have:=Cv ab h (l:=m) (acc:=[]);rw[e]at this;exact this ⟨by simp[jR],hm⟩
theorem N1{b:List ah}{k:List bV}{m:List bn}:∀{l:List (List ah)},match eF b k m l with
  |none=> ∃d∈l,∃x,mgu b (e0 d)=some x/\tl x k m/\dx b x=[]
  |some L=>(∀d∈l,∀x,mgu b (e0 d)=some x->tl x k m->dx b x≠[]/\dx b x∈L)/\∀w∈L,∃d∈l,∃x,mgu b (e0 d)=some x/\tl x k m/\w=dx b x
 |[]=>by simp[eF]
 |d::l=>by
  have bK:=N1 (b:=b) (k:=k) (m:=m) (l:=l);have skip:(∀x,mgu b (e0 d)=some x->¬tl x k m)->match eF b k m l with
    |none=> ∃e∈d::l,∃x,mgu b (e0 e)=some x/\tl x k m/\dx b x=[]
    |some L=>(∀e∈d::l,∀x,mgu b (e0 e)=some x->tl x k m->dx b x≠[]/\dx b x∈L)/\∀w∈L,∃e∈d::l,∃x,mgu b (e0 e)=some x/\tl x k m/\w=dx b x:=fun h=>by
   cases e:eF b k m l with
   |none=>rw[e]at bK;obtain⟨z,I,U⟩:=bK;exact⟨z,mh _ I,U⟩
   |some L=>
    rw[e]at bK;refine⟨fun z a8 x ab ax=>?_,fun w hw=>?_⟩
    ·rcases eU.1 a8 with rfl|a8
     ·exact absurd ax (h x ab)
     ·exact bK.1 z a8 x ab ax
    ·obtain⟨z,I,U⟩:=bK.2 w hw;exact⟨z,mh _ I,U⟩
  simp only[eF];cases hu:mgu b (e0 d)with
  |none=>exact skip fun x ab=>by rw[hu]at ab;cases ab
  |some x=>
   simp only;by_cases ae:e3 x k []=none\/eS x m []=none
   ·rw[if_pos ae];exact skip fun z a8=>by rw[hu]at a8;cases a8;exact fun h=>h ae
   rw[if_neg ae];by_cases au:dx b x=[]
   ·rw[if_pos au];exact⟨d,Ψ,x,hu,ae,au⟩
   rw[if_neg au];cases e:eF b k m l with
   |none=>rw[e]at bK;obtain⟨z,I,U⟩:=bK;exact⟨z,mh _ I,U⟩
   |some L=>
    rw[e]at bK;refine⟨fun z a8 y aB ax=>?_,fun w hw=>?_⟩
    ·rcases eU.1 a8 with rfl|a8
     ·rw[hu]at aB;cases aB;exact⟨au,Ψ⟩
     ·have:=bK.1 z a8 y aB ax;exact⟨this.1,mh _ this.2⟩
    ·rcases eU.1 hw with rfl|hw
     ·exact⟨d,Ψ,x,hu,ae,rfl⟩
     ·obtain⟨z,I,U⟩:=bK.2 w hw;exact⟨z,mh _ I,U⟩
def LB(b e d:List ah):Prop:= ∀θ,df b θ->df e θ->df d θ
theorem Yw{b x:List ah}{θ:Int->T}(h:df x θ):df (dx b x) θ:=fun c aq=>h c (hD.1 aq).1
theorem Uw{d:List ah}(aD:ei d):∀a∈e0 d,a.1.ok=true/\a.2.ok=true:=fun a bk=>by obtain⟨c,aq,rfl⟩:=hU.1 bk;have:=aD.ok c aq;exact⟨by simpa[T.ok]using this.1,this.2⟩
theorem apt{s:bd}{k:List bV}{m:List bn}(ae:e3 s.b s.k []=some k)(hm:eS s.b s.m []=some m):eH s=((eF s.b k (m.filter (hp k)) s.d).map iN).bind fun D=>if D.length<=30 then some ⟨s.n,s.b,D,k,m.filter (hp k)⟩else none:=by unfold eH;simp only[ae,hm];cases eF s.b k (m.filter (hp k)) s.d<;>rfl
theorem acL{l a:List bn}{t:T}{s:List UInt8}(he:hv l t s=some a):∀x∈l,x∈a:=fun x ab=>(th he x).2 (.inl ab)
theorem acK{l a:List bn}{t:T}{s:List UInt8}(he:hv l t s=some a):hG fs a:=by
 unfold hv at he;split at he
 ·cases he
 ·cases he;exact C7 lQ _
theorem acI{l a:List bV}{t:T}{k:Int}(he:gU l t k=some a):∀x∈l,x∈a:=by
 unfold gU at he;split at he
 ·split at he
  ·split at he
   ·cases he;exact fun _ h=>h
   ·cases he
  ·cases he;exact fun x ab=>wh.2 (.inr ab)
 ·split at he
  ·cases he;exact fun _ h=>h
  ·cases he
theorem Qb{s:bd}{v:List ah}(h:oE s v):iS s (aV v):=by
 obtain⟨I,U,ao,a7⟩:=h;rw[fi]at I U ao a7;refine⟨fun c aq=>?_,fun k ae=>of_decide_eq_true (ao k ae),fun m hm=>by simpa using a7 m hm,fun d aD af=>?_⟩
 ·have:=I c aq;simp only[r3,cv,eA]at this;exact this.2.symm
 ·have:=U d aD;rw[pB,List.any_eq_true]at this;obtain⟨c,aq,q⟩:=this;simp only[uA,cv,oJ,gJ]at q;exact q.2 (af c aq)
structure adP (s:bd) (x y:T) (t:bd):Prop where
 b:mgu s.b [(x,y)]=some t.b
 k:e3 t.b s.k []=some t.k
 m:∃m,eS t.b s.m []=some m/\t.m=m.filter (hp t.k)
 d:∃L,eF t.b t.k t.m s.d=some L/\t.d=iN L
theorem Ux{s t:bd}{x y:T}(he:gW s x y=some t):adP s x y t:=by
 unfold gW at he;obtain⟨b,I,aE⟩:=hr.1 he;unfold eH at aE;simp only at aE;split at aE
 ·cases aE
 rename_i k aW;split at aE
 ·cases aE
 rename_i m bj;split at aE
 ·cases aE
 rename_i L bM;split at aE
 ·cases aE;exact⟨I,aW,⟨m,bj,rfl⟩,L,bM,rfl⟩
 ·cases aE
structure adp (t u:bd) (r:List ah):Prop where
 b:∀θ,df u.b θ->df t.b θ
 r:∀θ,df u.b θ->df r θ
 k:∀θ,df u.b θ->iT θ u.k->iT θ t.k
 m:∀θ,df u.b θ->iT θ u.k->jR θ u.m->jR θ t.m
 ok:gi u
theorem adR{t u:bd}{x y:T}(aC:gz t)(ab:x.fit=true)(aB:y.fit=true)(bx:dy t.n x=true)(fI:dy t.n y=true)(he:gW t x y=some u):(∀θ,df u.b θ->df t.b θ/\x.ap θ=y.ap θ)/\(∀θ,df u.b θ->iT θ u.k->iT θ t.k)/\∀θ,df u.b θ->iT θ u.k->jR θ u.m->jR θ t.m:=by
 have bG:=Ux he;have hu:=yG aC ab aB bx fI he;have af:=fun θ=>lO aC.b.sol aC.b.fits bG.b θ;obtain⟨m,y8,sU⟩:=bG.m;refine⟨fun θ h=>⟨((af θ).1 h).1,((af θ).1 h).2 (x,y) Ψ⟩,fun θ h U=>?_,fun θ h U ao=>?_⟩
 ·have:=Cu hu.1.b.sol.asc h (l:=t.k) (acc:=[]);rw[bG.k]at this;exact(this.1 U).2
 ·have:=Cv hu.1.b.sol.asc h (l:=t.m) (acc:=[]);rw[y8]at this;rw[sU]at ao;exact(this.1 ((IS U).1 ao)).2
theorem Lt{u:bd}{n:Int}:∀{r:List ah} {t:bd},gi t->t.n=n->(∀x∈r,qg n x)->ig t r=some u->adp t u r
 |[],t,aC,_,_,he=>by simp only[ig,dD]at he;subst he;exact⟨fun _ h=>h,fun _ _ c aq=>by simp at aq,fun _ _ h=>h,fun _ _ _ h=>h,aC⟩
 |x::r,t,aC,au,fa,he=>by
  simp only[ig]at he;obtain⟨t1,I,U⟩:=hr.1 he;obtain⟨f1,f2,b1,b2⟩:=fa x Ψ;rw[<-au]at b1 b2;have uD:=yG aC.1 f1 f2 b1 b2 I;have nC:t1.n=n:=by unfold gW at I;obtain⟨b,aW,bj⟩:=hr.1 I;rw[(tB (aC.1.bind f1 f2 b1 b2 aW) bj).2.1];exact au
  obtain⟨aW,bj,bM⟩:=adR aC.1 f1 f2 b1 b2 I;obtain⟨cT,dm,iO,ts,O1⟩:=Lt uD nC (fun y aB=>fa y (by simp[aB])) U;refine⟨fun θ h=>(aW θ (cT θ h)).1,fun θ h c aq=>?_,fun θ h U=>bj θ (cT θ h) (iO θ h U),fun θ h U ao=>bM θ (cT θ h) (iO θ h U) (ts θ h U ao),O1⟩;rcases eU.1 aq with rfl|aq
  ·exact(aW θ (cT θ h)).2
  ·exact dm θ h c aq
theorem Ov{b:List ah}{E:List (T×T)}{w:List ah}(ad:eQ b)(aO:fT b)(hw:eQ w)(Ic:fT w)(I:∀θ,df w θ->df b θ)(U:∀θ,df w θ->iu E θ):∃x,mgu b E=some x/\∀θ,df w θ->df x θ:=by
 have hu:=wi ad aO E;cases e:mgu b E with
 |none=>rw[e]at hu;exact absurd Ic (hu w hw fun θ h=>⟨I θ h,U θ h⟩)
 |some x=>exact⟨x,rfl,fun θ h=>(lO ad aO e θ).2 ⟨I θ h,U θ h⟩⟩
theorem gi.sat{u:bd}(h:gi u):∃θ,df u.b θ/\iT θ u.k/\jR θ u.m:=apl h.1.b.sol h.1.k.asc (fun x ab=>(h.1.k.at' x ab).2) (Fl h.1.b.sol Ψ h.self.k) (zQ h.1.b.sol Ψ h.self.m)
theorem T3{u:bd}{n:Int}:∀{r:List ah} {t:bd},gi t->t.n=n->(∀x∈r,qg n x)->ig t r=some u->¬∃z∈t.d,∀θ,df u.b θ->df z θ
 |[],t,aC,_,_,he=>by simp only[ig,dD]at he;subst he;rintro⟨z,a8,h⟩;obtain⟨x,aW,_,bM,cL⟩:=aC.self.st z a8;have gp:=pU aC.1.b.sol aC.1.b.fits aW;have:t.b=x:=J4 aC.1.b.sol gp.1 fun θ=>⟨fun I=>(lO aC.1.b.sol aC.1.b.fits aW θ).2 ⟨I,u1.2 (h θ I)⟩,fun I=>((lO aC.1.b.sol aC.1.b.fits aW θ).1 I).1⟩;rw[(EU aC.1.b aW).2 this]at bM;exact cL bM.symm
 |x::r,t,aC,au,fa,he=>by
  rintro⟨z,a8,h⟩;simp only[ig]at he;obtain⟨t1,I,U⟩:=hr.1 he;obtain⟨f1,f2,b1,b2⟩:=fa x Ψ;rw[<-au]at b1 b2;have uD:=yG aC.1 f1 f2 b1 b2 I;have nC:t1.n=n:=by unfold gW at I;obtain⟨b,aW,bj⟩:=hr.1 I;rw[(tB (aC.1.bind f1 f2 b1 b2 aW) bj).2.1];exact au
  have bG:=Ux I;have DL:∀y∈r,qg n y:=fun y aB=>fa y (by simp[aB]);have aq:=Lt uD nC DL U;refine T3 uD nC DL U ?_;obtain⟨ab9,cT,dm⟩:=Ov (E:=e0 z) uD.1.b.sol uD.1.b.fits aq.ok.1.b.sol aq.ok.1.b.fits aq.b fun θ b4=>u1.2 (h θ b4);obtain⟨jx,s1,s2,s3⟩:=aq.ok.sat
  have ajT:=uD.1.b.mgu (Uw (aC.1.d z a8)) cT;have eh:tl ab9 t1.k t1.m:=YG ajT.sol.asc (dm jx s1) (aq.k jx s1 s2) (aq.m jx s1 s2 s3);obtain⟨L,e1,aD⟩:=bG.d;have r0:=N1 (b:=t1.b) (k:=t1.k) (m:=t1.m) (l:=t.d);rw[e1]at r0;have hw:=(r0.1 z a8 ab9 cT eh).2;have n5:=fun d aD=>(zv uD.1.b aC.1.d e1 d aD).sol;obtain⟨Q0,o4,aT⟩:=Ow n5 _ _ hw rfl;rw[<-aD]at o4;exact⟨Q0,o4,fun θ b4=>(wj (n5 _ hw)).1 aT θ (Yw (dm θ b4))⟩
theorem adq{t:bd}{d:List ah}(aC:gi t)(aD:ei d)(fa:∀x∈d,qg t.n x)(bB:(∃z∈t.d,LB t.b d z)\/ ∀x,mgu t.b (e0 d)=some x->¬tl x t.k t.m):ig t d=none:=by
 cases e:ig t d with
 |none=>rfl
 |some u=>
  exfalso;have aq:=Lt aC rfl fa e;rcases bB with⟨z,a8,aiv⟩|bB
  ·exact T3 aC rfl fa e ⟨z,a8,fun θ h=>aiv θ (aq.b θ h) (aq.r θ h)⟩
  ·obtain⟨x,cT,dm⟩:=Ov (E:=e0 d) aC.1.b.sol aC.1.b.fits aq.ok.1.b.sol aq.ok.1.b.fits aq.b fun θ b4=>u1.2 (aq.r θ b4);obtain⟨jx,s1,s2,s3⟩:=aq.ok.sat
   exact bB x cT (YG (aC.1.b.mgu (Uw aD) cT).sol.asc (dm jx s1) (aq.k jx s1 s2) (aq.m jx s1 s2 s3))
theorem ak5{θ:Int->T}(h:∀u,fb (θ u)=1)(t:T):fb (t.ap θ)<=fb t:=by
 have:=EK (θ:=θ) (t:=t) (m:=1) (eo _) fun u _=>by rw[h u];omega
 omega
theorem apd{n:Nat}{s:bd}(ih:n<=9)(u:Int):fb (aV (iP s n).f u)=1:=by
 have h5:=zY s n ih;unfold aV;cases e:cO (iP s n).f u with
 |none=>rfl
 |some t=>
  have I:=h5.at' _ (iX e);simp only at I;simp only[ib];split at I
  ·obtain⟨i,_,aE⟩:=I;rw[aE];rfl
  ·obtain⟨i,aE,_⟩:=I;rw[aE];rfl
theorem QU{n L:Nat}{s:bd}{E:List (T×T)}(h:small n s)(bG:j2 (qx n) L E s)(e1:1<=L)(u:Int):fb (aV (lW s) u)<=L ^ n:=by
 have I:=Nat.one_le_pow n L e1;have vP:s.n.toNat=n:=by have:=h.n;omega
 have az:=(F5 h).1;unfold aV;cases e:cO (lW s) u with
 |none=>exact I
 |some t=>have hm:=iX e;simp only[lW,hU,List.mem_range,ah.mk.injEq]at hm;obtain⟨j,ag,rfl,rfl⟩:=hm;simp only[ib];refine hn (ak5 (fun u=>by rw[vP];exact apd h.n9 u) _) ?_;have:=bG.b_lv (ND n) e1 (v:=(j:Int)) (BV.2 ⟨Ω,Ω⟩);rwa[Ip]at this
theorem apM{n L m:Nat}{s:bd}{E:List (T×T)}(bG:j2 (qx n) L E s)(af:gz s)(au:s.n=n)(e1:1<=L){v:List ah}(az:∀u,fb (aV v u)<=m)(hm:1<=m)(ae:L ^ n*m<=2500*L)(y2:L ^ n<=2500):aaG s v:=fun d aD c aq=>by
 obtain⟨aW,bj⟩:=ady af au aD aq;obtain⟨I,U⟩:=bG.d_lv (ND n) e1 aD aq aW bj;rw[Ip]at I;by_cases ax:∃u,c.t.occ u=true
 ·obtain⟨u,hu⟩:=ax;have ao:=U u hu;rw[Ip]at ao;have a7:=EK (θ:=aV v) (t:=c.t) hm fun u _=>az u;have b8:fb c.t*L*m<=2500*L:=hn (rr m ao) ae;have c6:fb c.t*m*L<=2500*L:=by rw[Nat.mul_right_comm];exact b8
  have dM:=Nat.le_of_mul_le_mul_right c6 e1;have:=aaE (hn a7 dM);omega
 ·have:c.t.ap (aV v)=c.t:=Gu fun u hu=>absurd ⟨u,hu⟩ ax;rw[this];have:=aaE (hn I y2);omega
theorem eqP.mono{V:List Int}{L tQ:Nat}(e1:L<=tQ){e:T×T}(h:eqP V L e):eqP V tQ e:=⟨⟨hn h.l.1 e1,hn h.l.2 e1⟩,h.v,h.w⟩
theorem j2.mono{V:List Int}{L tQ:Nat}(e1:L<=tQ){E:List (T×T)}{s:bd}(h:j2 V L E s):j2 V tQ E s:=⟨fun e he=>(h.e e he).mono e1,h.b,fun d aD=>by obtain⟨e,x,I,U⟩:=h.d d aD;exact⟨e,x,I.mono e1,U⟩⟩
structure vq (n:Int) (t:T):Prop where
 f:t.fit=true
 b:dy n t=true
 l:fb t<=4
 o:∀v,t.occ v=true->0<=v/\v<n
 w:j0 t=true
theorem ue.a{n:Int}{t:T}(h:ue n t):vq n t:=⟨h.f,h.b,by have:=h.l;omega,h.o,h.w⟩
theorem G8{n:Nat}{x y:T}(ab:vq n x)(aB:vq n y):eqP (qx n) 4 (x,y):=⟨⟨ab.l,aB.l⟩,fun v az=>BV.2 (az.elim (ab.o v) (aB.o v)),ab.w,aB.w⟩
structure Yx (n:Nat) (s t:bd) (g:(Int->T)->Prop):Prop where
 sm:small n t
 v:kk n (lW t)/\oE t (lW t)
 h:iS s (aV (lW t))/\g (aV (lW t))
theorem Yz{n:Nat}{s t:bd}(h:lH n 5 s)(ih:n<=9){x y:T}(ab:vq n x)(aB:vq n y)(he:gW s x y=some t):Yx n s t fun θ=>x.ap θ=y.ap θ:=by have jr:=h.s.n;have bx:=ab.b;have fI:=aB.b;rw[<-jr]at bx fI;obtain⟨E,c3⟩:=h.p;have bG:=O5 (c3.mono (show 2<=4 by omega)) (G8 ab aB) he;have aD:=KL (kd:=0) (k:=2) (g:=[97]) h.s ab.f aB.f ab.b aB.b Ψ (by unfold qT;rw[if_pos rfl];exact he);have dU:=bG.small aD.ok aD.n ih aD.t;have hw:=F5 dU;refine⟨dU,hw,?_⟩;have az:=hw.1;rw[<-jr]at az;have:=Uy h.s.ok.1 az ab.f aB.f bx fI;rw[he]at this;exact this.1 (Qb hw.2)
theorem Yy{n:Nat}{s t:bd}(h:lH n 5 s)(ih:n<=9){x y:T}(ab:vq n x)(aB:vq n y)(he:jT s x y=some t):Yx n s t fun θ=>x.ap θ≠y.ap θ:=by have jr:=h.s.n;have bx:=ab.b;have fI:=aB.b;rw[<-jr]at bx fI;obtain⟨E,c3⟩:=h.p;have bG:=O4 (c3.mono (show 2<=4 by omega)) (G8 ab aB) he;have aD:=KL (kd:=1) (k:=2) (g:=[97]) h.s ab.f aB.f ab.b aB.b Ψ (by unfold qT;rw[if_neg (by decide),if_pos rfl];exact he);have dU:=bG.small aD.ok aD.n ih aD.t;have hw:=F5 dU;refine⟨dU,hw,?_⟩;have az:=hw.1;rw[<-jr]at az;have:=Ul h.s.ok.1 az ab.f aB.f bx fI;rw[he]at this;exact this.1 (Qb hw.2)
theorem alH{n:Nat}{s t:bd}(h:lH n 5 s)(ih:n<=9){x y:T}(ab:vq n x)(aB:vq n y)(he:gW s x y=some t\/jT s x y=some t):small n t/\∀u,fb (aV (lW t) u)<=4 ^ n:=by
 obtain⟨E,c3⟩:=h.p;have VF:=c3.mono (show 2<=4 by omega);rcases he with he|he
 ·exact⟨(Yz h ih ab aB he).sm,QU (Yz h ih ab aB he).sm (O5 VF (G8 ab aB) he) Ω⟩
 ·exact⟨(Yy h ih ab aB he).sm,QU (Yy h ih ab aB he).sm (O4 VF (G8 ab aB) he) Ω⟩
theorem aj7{o s:bd}(ax:lH 5 5 o)(af:lH 5 5 s)(cA:iS s (aV (lW o))):kk 5 (lW o)/\oE s (lW o):=by obtain⟨E,c3⟩:=ax.p;obtain⟨mN,Mv⟩:=af.p;have dU:=ax.small (n:=5) Ω;have az:=(F5 dU).1;have aw:=QU dU c3 Ω;exact⟨az,(apQ az.fits (apM (m:=2 ^ 5) Mv af.s.ok.1 af.s.n Ω aw Ω Ω Ω)).2 cA⟩
end
end Go.Proofs.YtohaalphocaebaaGreatDoor
namespace Go.Pv
section
open Go Go.RowKit
mutual
def lu(k:aM)(m:Nat):aj->aj
 | .slice sz tag xs=>.slice sz (if tag= .own k then .own (.obj m)else .no) (du xs)
 | .agg cs=>.agg (uX k m cs)
 | .tuple cs=>.tuple (uX k m cs)
 |p=>ej p
def uX(k:aM)(m:Nat):List aj->List aj
 |[]=>[]
 |c::cs=>lu k m c::uX k m cs
end
section
variable {w:World} {Z μ:bg} {k:aM} {m:Nat} (ax:pq (fun _=>eI) w Z w μ) (ae:∀n v,Z.ow k=some (n,v)->μ.ow (.obj m)=some (n,v))
include ax ae
mutual
theorem PK:∀(p:aj) (v:Value),aK (fun _=>eI) (ej p)->be w Z p v->be w μ (lu k m p) v
 | .slice sz tag xs,v,au,h=>by
  have U:=k4 ax _ _ au (lR _ _ h);simp only[lu];split
  ·rename_i e;simp only[be,ej]at h U⊢;refine⟨U.1,(fun e=>by cases e),fun g LH=>?_,(fun _ _ e=>by cases e),fun _ e=>by cases e⟩;cases LH;obtain⟨n',u,ar,aE,bA⟩:=h.2.2.1 k e;exact⟨n',u,ae _ _ ar,by rw[tE];exact aE,by rw[tE];exact bA⟩
  ·exact U
 | .agg cs,v,au,h=>by simp only[be,aK,lu,ej]at h au⊢;obtain⟨us,I,U⟩:=h;exact⟨us,I,aae cs us.toList au U⟩
 | .tuple cs,v,au,h=>by simp only[be,aK,lu,ej]at h au⊢;obtain⟨us,I,U⟩:=h;exact⟨us,I,aaf cs us.toList au U⟩
 | .junk,_,_,_=>by simp[lu,ej,be]
 | .int k n,v,au,h=>by have:=k4 ax _ _ au (lR _ _ h);simpa only[lu]using this
 | .bool b,v,au,h=>by have:=k4 ax _ _ au (lR _ _ h);simpa only[lu]using this
 | .str s,v,au,h=>by have:=k4 ax _ _ au (lR _ _ h);simpa only[lu]using this
 | .ptr a b,v,au,h=>by have:=k4 ax _ _ au (lR _ _ h);simpa only[lu]using this
 | .eptr x,v,au,h=>by have:=k4 ax _ _ au (lR _ _ h);simpa only[lu]using this
 | .iface t x,v,au,h=>by have:=k4 ax _ _ au (lR _ _ h);simpa only[lu]using this
 | .nilp,v,au,h=>by have:=k4 ax _ _ au (lR _ _ h);simpa only[lu]using this
 | .func f c,v,au,h=>by have:=k4 ax _ _ au (lR _ _ h);simpa only[lu]using this
 | .gmap x,v,au,h=>by have:=k4 ax _ _ au (lR _ _ h);simpa only[lu]using this
 | .row a b c,v,au,h=>by have:=k4 ax _ _ au (lR _ _ h);simpa only[lu]using this
 | .rptr a b c d e,v,au,h=>by have:=k4 ax _ _ au (lR _ _ h);simpa only[lu]using this
 | .hdm a b,v,au,h=>by have:=k4 ax _ _ au (lR _ _ h);simpa only[lu]using this
 | .hdi a b c,v,au,h=>by have:=k4 ax _ _ au (lR _ _ h);simpa only[lu]using this
 | .cst a,v,au,h=>by have:=k4 ax _ _ au (lR _ _ h);simpa only[lu]using this
theorem aae:∀(cs:List aj) (us:List Value),aP (fun _=>eI) (du cs)->dt w Z cs us->dt w μ (uX k m cs) us
 |[],us,_,h=>by simpa only[uX,dt]using h
 |c::cs,us,au,h=>by simp only[dt,du,aP,uX]at h au⊢;obtain⟨u,ck,I,⟨U,ao⟩,a7⟩:=h;exact⟨u,ck,I,⟨PK c u au.1 U,ao⟩,aae cs ck au.2 a7⟩
theorem aaf:∀(cs:List aj) (us:List Value),aP (fun _=>eI) (du cs)->cZ w Z cs us->cZ w μ (uX k m cs) us
 |[],us,_,h=>by simpa only[uX,cZ]using h
 |c::cs,us,au,h=>by simp only[cZ,du,aP,uX]at h au⊢;obtain⟨u,ck,I,U,a7⟩:=h;exact⟨u,ck,I,PK c u au.1 U,aaf cs ck au.2 a7⟩
end
end
def Rf(eX:List bW)(k:aM)(m:Nat)(Q:aj->fU->Prop)(e:Exit)(st:bt):Prop:=
 (e= .ret\/e= .normal)/\match aY st eX with
  |some (c,cC)=>c/\∃o,look k st.e=some o/\o.xs=none/\aK (fun _=>eI) (ej (aX cC))/\Q (lu k m (aX cC)) o
  |none=>eI
theorem bL.ofN{P:cM}(hm:P.follows .mixedOrders=true){bH:List (Nat×dG)}(aC:fX P bH=true){f:FuncId}{fn:Func}(aO:P.funcs[f]? =some fn){c:C}{eX:List bW}{n:Nat}(eh:b7 bH c eX n fn=true)
  {args:List aj} (aw:args.length<=n) (k:aM) (m:Nat) {Q:aj->fU->Prop} (he:gO args->dd P [] c (Rf eX k m Q) ⟨kg 0 args,[],[],0,[]⟩):bL P f args ⟨[],[]⟩ fun r ai=> ∃o,Q r o/\ai=⟨[],[(.obj m,o)]⟩:=by
 unfold b7 at eh;split at eh;rotate_left
 ·cases eh
 rename_i code ad;simp only[cv,oJ,eA]at eh;obtain⟨⟨⟨aq,Bt⟩,Bm⟩,a7⟩:=eh;replace aw:=hn aw a7;intro w Z bc aT ab aN;refine .inl ⟨⟨fn,aO,by simp[ad],by assumption⟩,?_⟩;have kH:=zT aN;have lh:bc.size=args.length:=by simpa using kH
 let X:fv:=⟨w,Z,fE Z ⟨[],[]⟩,fn.ntmps,[]⟩
 have Ie:∀k,Z.bx k=none:=fun k=>(ab k).1 rfl;have o3:∀k,Z.ow k=none:=fun k=>(ab k).2.1 rfl;have If:∀k j b,¬Z.tr k j b:=fun k=>(ab k).2.2;have pM:c7 X ⟨kg 0 args,[],[],0,[]⟩ {tmps:=bc++Array.replicate (fn.ntmps-bc.size) undef,defers:=[]} w Z:=by
  refine⟨⟨aT.alt,fun k cs ae=>(by simp[look]at ae),aT.inj,fun g o dF=>(by simp[look]at dF),aT.oinj,aT.obx,aT.one,aT.otr⟩,⟨rfl,rfl,rfl,eo _,fun _ _ _=>rfl,fun b o h=>⟨h,rfl⟩,fun b o h=>.inl h,fun n b h=>h,fun n b h=>(by rw[Ie]at h;cases h),fun m n u h=>⟨n,u,h,.inl ⟨rfl,rfl⟩⟩,fun m n u h=>(by rw[o3]at h;cases h),fun k j _ _ b h=>absurd h (If k j b),fun k j b h=>absurd h (If k j b),fun k j b h=>absurd h (If k j b),fun _ _ _=>rfl⟩,rfl,?_,fun i=>?_,fun k _=>⟨Ie k,o3 k,If k⟩⟩
  ·show(bc++Array.replicate (fn.ntmps-bc.size) undef).size=fn.ntmps;simp;omega
  ·rw[Hs];by_cases hi:i<args.length
   ·rw[if_pos Ω];have rP:args[i]? =some args[i]:=cm hi;obtain⟨v,ar,aE⟩:=Fu i aN rP;have az:(bc++Array.replicate (fn.ntmps-bc.size) undef).getD i undef=v:=by
     have Dm:bc[i]? =some v:=by simpa using ar
     rw[Array.getD_eq_getD_getElem?,Array.getElem?_append_left Ω,Dm];rfl
    show be w Z _ ((bc++Array.replicate (fn.ntmps-bc.size) undef).getD i undef);rw[az];simpa[List.getD,rP]using aE
   ·rw[if_neg Ω];simp[be]
 have Ns:=rL hm aC (X:=X) c code (Rf eX k m Q) _ aq (he (PO aN)) _ w Z pM;refine calls_of_wp aO ad (wp_mono Ns fun e bq w' cA=>?_);obtain⟨st',bo,⟨sQ,bs⟩,dq⟩:=cA;cases sW:aY st' eX with
 |none=>simp[sW]at bs
 |some x=>
  obtain⟨cr,cC⟩:=x;simp only[sW]at bs;obtain⟨hJ,o,aiT,gp,cL,c2⟩:=bs;obtain⟨oD,g1,g2⟩:=JO aC dq eX fn.results.toList cr cC (by assumption) sW hJ;have Na:=zT g2;obtain⟨v,us,hh,hb,pV,auZ⟩:=dq.good.own k o aiT;let μ:bg:={A:=bo.A,bx:=fun _=>none,ow:=fun j=>if j= .obj m then bo.ow k else none,tr:=fun _ _ _=>eI}
  have ajX:μ.ow (.obj m)=some (o.n,v):=by simp[μ,hh]
  have ds:bq.defers=[]/\∃v,(results fn bq.tmps).run P w'= .ok v w'/\(fun(e:Ending) w'=> ∃v r ai bo,e= .returned v/\(∃o,Q r o/\ai=⟨[],[(.obj m,o)]⟩)/\be w' bo r v/\Good (fun bl=>fE Z ⟨[],[]⟩ bl\/w.heap.size<=bl) w' bo ai.b ai.e/\pE bo ai/\jv ai/\qR ⟨w,Z,fE Z ⟨[],[]⟩,0,dc ⟨[],[]⟩⟩ w' bo) (.returned v) w':=by
   refine⟨dq.defers,?_⟩;have iY:(results fn bq.tmps).run P w'= .ok (if h:oD.toArray.size=1 then oD.toArray[0]else .tuple oD.toArray) w':=by rw[aas];simp only[fZ,Array.mapM_eq_mapM_toList,Sem.run_map,g1,gf,gI]
   refine⟨_,iY,_,lu k m (aX cC),⟨[],[(.obj m,o)]⟩,μ,rfl,⟨o,c2,rfl⟩,?_,?_,?_,?_,?_⟩
   ·have mA:be w' bo (aX cC) (if h:oD.toArray.size=1 then oD.toArray[0]else .tuple oD.toArray):=by
     match cC,oD,g2,Na with
     |[p],[v],g2,_=>simp only[cZ]at g2;obtain⟨u,ck,ar,aE,_⟩:=g2;cases ar;simpa[aX]using aE
     |[],[],g2,_=>simp[aX,be,cZ]
     |p::dm::cC,v::v2::oD,g2,_=>rw[dif_neg Ψ];simp only[aX,be];exact⟨_,rfl,by simpa using g2⟩
     |[_],[],_,h=>simp at h
     |[],_::_,_,h=>simp at h
     |[_],_::_::_,_,h=>simp at h
     |_::_::_,[],_,h=>simp at h
     |_::_::_,[_],_,h=>simp at h
    refine PK (Z:=bo) (μ:=μ) (k:=k) (m:=m) ⟨fun b o h=>⟨h,rfl⟩,fun _ _ h=>h.elim,fun _ _ _ h=>h.elim,fun _ _ _=>rfl,fun _ _ _ h=>h.elim⟩ (fun n v h=>?_) _ _ cL mA;simp[μ,h]
   ·have ia:∀g x,look g [(aM.obj m,o)]=some x->g= .obj m/\x=o:=fun g x h=>by
     simp only[look]at h;split at h
     ·rename_i e;exact⟨e.symm,(eV h).symm⟩
     ·cases h
    have Wj:∀g,(look g [(aM.obj m,o)]).isSome->g= .obj m:=fun g h=>by obtain⟨x,ab⟩:=fH.1 h;exact(ia g x ab).1
    refine⟨dq.good.alt,fun k cs ae=>(by simp[look]at ae),fun k bJ bl I=>(by simp[look]at I),fun g x aiH=>?_,fun g fj n n' v v' bl I U _ _ _ _=>(by rw[Wj g I,Wj fj U]),fun g k n v bl I U=>(by simp[look]at U),fun _=>.inl rfl,fun _ _ _ _ h=>h⟩;obtain⟨rfl,rfl⟩:=ia g x aiH;exact⟨v,us,ajX,hb,pV,fun xs h=>by rw[gp]at h;cases h⟩
   ·intro j;refine⟨fun _=>rfl,fun h=>?_,fun _ _ h=>h⟩;have:j≠ .obj m:=fun e=>by subst e;simp[look]at h
    simp[μ,this]
   ·exact⟨fun _=>rfl,fun _=>by simp[look]⟩
   ·exact⟨dq.fr.os,dq.fr.tape,dq.fr.output,dq.fr.size,dq.fr.block,dq.fr.keep,dq.fr.fresh,fun n b h=>(by rw[Ie]at h;cases h),fun n b h=>(by rw[Ie]at h;cases h),fun m n u h=>(by rw[o3]at h;cases h),fun m n u h=>(by rw[o3]at h;cases h),fun _ _ _ _ _ h=>h.elim,fun _ _ _ h=>h.elim,fun _ _ _ h=>h.elim,dq.fr.sh⟩
  rcases sQ with rfl|rfl<;>exact ds
end
end Go.Pv
namespace Go.Proofs.YtohaalphocaebaaGreatDoor
section
open Go Go.Pv
open Classical in
theorem aq8{s b:List ah}(af:ei s)(ad:ei b){E:List (T×T)}(hm:mgu s E=some b):bR aA 90 [.slice 5 .no (s.map ah.e),.slice 5 .no (b.map ah.e),.bool true] (.tuple [.slice 5 .no ((dx s b).map ah.e),.int .i64 (w5 s (some b))]):=by
 have aS:=QB s b af.len;have bh:=abt af ad;have au:=EU af hm;simp only[w5];by_cases g:s=b
 ·rw[hd g]at aS;rw[if_pos (au.2 g),au.2 g];clear bh af ad hm au g;refine br fO Tryz.func90 OP fun aR=>?_;unfold GO;exact cu
 ·rw[jf g]at aS;rw[if_neg fun h=>g (au.1 h)];generalize dx s b=w at bh;clear af ad hm au g;refine br fO Tryz.func90 OP fun aR=>?_;unfold GO;exact cu
theorem aq9(s:List ah):bR aA 90 [.slice 5 .no (s.map ah.e),.slice 5 .no [],.bool false] (.tuple [.slice 5 .no [],.int .i64 1]):=by refine br fO Tryz.func90 OP fun aR=>?_;unfold GO;exact cu
open Classical in
theorem aqm{s:List ah}(af:ei s){x y:T}(ab:x.fit=true)(aB:y.fit=true):bR aA 40 [.slice 5 .no (s.map ah.e),x.e,y.e] (.tuple [.slice 5 .no ((B2 s (mgu s [(x,y)])).map ah.e),.int .i64 (w5 s (mgu s [(x,y)]))]):=by
 have c5:=p1 af;have aS:=Ag ab;have bh:=Ag aB;have bX:=abw af ab aB;cases hm:mgu s [(x,y)]with
 |none=>rw[hm]at bX;have ed:=aq9 s;clear af ab aB hm;simp only[ft,jy,je,nS,B2,w5]at bX⊢;refine br fO Tryz.func40 YH fun aR=>?_;unfold K3;exact cu
 |some b=>rw[hm]at bX;have ed:=aq8 af (af.mgu (by simp[T.fit_ok ab,T.fit_ok aB]) hm) hm;simp only[B2];generalize w5 s (some b)=c at ed;generalize dx s b=w at ed;clear af ab aB hm;simp only[ft,ib,lZ]at bX⊢;refine br fO Tryz.func40 YH fun aR=>?_;unfold K3;exact cu
def Cc(s:bd):aj:= .agg [.int .i64 s.n,.slice 5 .no (s.b.map ah.e),.slice 1 (.own (.obj 841)) (s.d.map cF),.slice 2 .no (s.k.map bV.e),.slice 2 .no (s.m.map bn.e)]
theorem ahe(s:bd)(ad:s.b.length<=1000000)(aD:∀x∈s.d,x.length<=1000000)(ae:s.k.length<=1000000)(hm:s.m.length<=68719470000):bL aA 41 [s.e] ⟨[],[]⟩ fun r ai=> ∃o,(r=Cc s/\o=⟨s.d.length,23,1,none⟩)/\ai=⟨[],[(.obj 841,o)]⟩:=by
 obtain⟨n,b,d,k,m⟩:=s;simp only[bd.e,Cc]at ad aD ae hm⊢;have js:=FV b ad;refine bL.ofN mixed fO Tryz.func41 YO Ψ (.loc 13) 841 fun aR=>?_;unfold La;have ik:d.length<=68719476736:=by simp[gO,gj,gE,lim]at aR;omega
 clear aR;simp;(with_reducible repeat' first|refine ak ?_|refine aF js ?_|refine aG js ?_|simp);refine hH (fun i (L:List (List ah))=>⟨[(1,.ptr (.loc 0) 0),(2,.ptr (.loc 1) 0),(3,.ptr (.loc 5) 0),(14,.slice 1 .no (d.map cF)),(15,.int .i64 d.length),(16,.int .i64 i)],[(.loc 0,[.int .i64 n,.slice 5 .no (b.map ah.e),.slice 1 .no (d.map cF),.slice 2 .no (k.map bV.e),.slice 2 .no (m.map bn.e)]),(.loc 1,[.int .i64 0,.slice 5 .nil [],.slice 1 .nil [],.slice 2 .nil [],.slice 2 .nil []]),(.loc 5,[.int .i64 n,.slice 5 .no (b.map ah.e),.slice 1 (.own (.loc 13)) (L.map cF),.slice 2 .nil [],.slice 2 .nil []])],[(.loc 13,⟨L.length,23,1,none⟩)],41,[]⟩) d.length (fun i L=>L=d.take i) [] b0 Ψ (fun L ag _=>?_) (fun i L hi ag _=>?_)
 ·rw[lB]at ag;subst ag;simp;(with_reducible repeat' first|refine ak ?_|simp);all_goals first|(refine⟨by unfold lim;omega,?_⟩)|skip
  (with_reducible repeat' first|refine ak ?_|simp);all_goals refine⟨.inl rfl,?_⟩
  all_goals simp[aY,a6,aX,lu,uX,Pv.look,aK,aP]
 ·obtain⟨x,ab,c1⟩:=en hi;have uJ:=abz (aD x (ek ab));have aw:L.length<=i:=by rw[ag];simp;omega
  simp[hi,c1];(with_reducible repeat' first|refine ak ?_|refine aF uJ ?_|refine aG uJ ?_|simp[c1,hi]);all_goals first|(refine⟨by unfold lim;omega,?_⟩)|skip
  (with_reducible repeat' first|refine ak ?_|simp);refine bS.rng (L++[x]) hi (by rw[lT ab,ag]) ?_;simp;exact⟨by simp[fresh,aP,aK,cq,inObs,Pv.look,vW],et (by simp[fresh,aP,aK,cq,inObs,Pv.look,vW]),eu (by simp[fresh,aP,aK,ee,inObs,Pv.look,vW]),Ψ⟩
open Classical in
theorem abj{s:bd}(h:gi s)(hm:jN s.m){x y:T}(ab:x.fit=true)(aB:y.fit=true)(bx:dy s.n x=true)(fI:dy s.n y=true):bR aA 16 [s.e,x.e,y.e] (ir (jT s x y)):=by
 have aS:=abA h hm ab aB bx fI;have bh:=aqm h.1.b ab aB;have bX:=ahe s h.1.b.len (fun z a8=>(h.1.d z a8).len) (by have:=o5 h.1.k;omega) (hm.len h.1.m);obtain⟨G,hI,aT⟩:=hm;have aD:=aaC h.2;unfold jT;cases hu:mgu s.b [(x,y)]with
 |none=>rw[hu]at bh;have ed:=CR h.1 hI aT;simp only;generalize eH s=O at ed;clear h hu;obtain⟨n,b,d,k,m⟩:=s;simp only[bd.e,Cc,B2,w5,ir,nS]at aS bh bX ed⊢;refine br fO Tryz.func16 OH fun aR=>?_;unfold GG;clear aR;simp;(with_reducible repeat' first|refine ak ?_|refine aF aS ?_|refine aG aS ?_|refine aF bh ?_|refine aG bh ?_|simp);refine cY.new bX (dP.of wk Ψ Ψ) aL aL Ψ ?_;rintro r ai ⟨o,⟨rfl,rfl⟩,rfl⟩;refine⟨fun m hm=>.inr Ψ,?_⟩;simp[Cc,cc];exact cu
 |some b3=>
  rw[hu]at bh;by_cases au:dx s.b b3=[]
  ·simp only[if_pos au];simp only[B2,w5,if_pos au,au,nS]at bh;clear h hu bX au;obtain⟨n,b,d,k,m⟩:=s;simp only[bd.e,ir,jy,je,gH]at aS bh⊢;refine br fO Tryz.func16 OH fun aR=>?_;unfold GG;exact cu
  ·simp only[if_neg au];simp only[B2,w5,if_neg au]at bh;have ed:=CR (h.1.dif ab aB bx fI hu) hI aT;generalize dx s.b b3=w at bh ed;generalize eH {s with d:=s.d++[w]}=O at ed;clear h hu;obtain⟨n,b,d,k,m⟩:=s;simp only[bd.e,Cc,ir]at aS bh bX ed⊢;generalize sK:d++[w]=D at ed;have hw:cF w= .slice 5 .no (w.map ah.e):=rfl;refine br fO Tryz.func16 OH fun aR=>?_;unfold GG;clear aR;simp only at aD;simp;(with_reducible repeat' first|refine ak ?_|refine aF aS ?_|refine aG aS ?_|refine aF bh ?_|refine aG bh ?_|simp);refine cY.new bX (dP.of wk Ψ Ψ) aL aL Ψ ?_;rintro r ai ⟨o,⟨rfl,rfl⟩,rfl⟩;refine⟨fun m hm=>.inr Ψ,?_⟩;simp[Cc,cc];(with_reducible repeat' first|refine ak ?_|simp);all_goals first|(refine⟨by unfold lim;omega,?_⟩)|skip
   rw[<-hw,qi,G5,sK];((with_reducible repeat' first|refine ak ?_|refine aF ed ?_|refine aG ed ?_|simp|((first|apply bN|apply bP|apply bO)<;>intro h<;>try simp at h))<;>(try exact cf));all_goals simp[bz,aY,a6,aX]
open Classical in
theorem aqn(r:k5)(ga:ju r.m->jN r.m)(a b:bZ):bR aA 14 [r.e,enc a,enc b] (.bool (Gc r a b)):=by
 have aS:=QC r ga [a,b];simp only[hc,nS]at aS;by_cases g:oF r/\vw r.n [a,b];rotate_left
 ·rw[acm g];rw[jf g]at aS;clear g ga;obtain⟨n,b3,d,k,m⟩:=r;simp only[k5.e]at aS⊢;refine br fO Tryz.func14 YI fun aR=>?_;unfold K4;exact cu
 rw[hd g]at aS;obtain⟨⟨s,rfl,af⟩,aO⟩:=g;obtain⟨x,rfl,_⟩:=bZ.fits_ex (U1 aO a Ψ);obtain⟨y,rfl,_⟩:=bZ.fits_ex (U1 aO b Ψ);obtain⟨⟨ab,aB⟩,bx,fI⟩:=agM aO;have hm:jN s.m:=ga af.1.m;have bh:=abj af hm ab aB bx fI;rw[Q9 af aO];generalize jT s x y=O at bh;rw[u3,mq,mq]at aS;rw[u3,mq,mq];clear ga aO af ab aB bx fI;obtain⟨n,b,d,k,m⟩:=s;cases O<;>simp only[bd.e,ir,Option.isSome,Option.isNone]at aS bh⊢;all_goals refine br fO Tryz.func14 YI fun aR=>?_;unfold K4
 all_goals simp
 all_goals(with_reducible repeat' first|refine ak ?_|refine aF aS ?_|refine aG aS ?_|refine aF bh ?_|refine aG bh ?_|simp)
 all_goals simp[bz,aY,a6,aX]
open Classical in
theorem abB{s:bd}(h:gi s)(hm:jN s.m){x:T}(ab:x.fit=true)(bx:dy s.n x=true):bR aA 39 [s.e,.slice 4 .no [x.e]] (.bool true):=by have:=QC s.r (fun _=>hm) [x.tm];rw[hd ⟨⟨s,rfl,h⟩,⟨[x],rfl,by simp[ab],fun t aC=>by rw[iG.1 aC];exact bx⟩⟩,u3]at this;simpa[mq]using this
open Classical in
theorem aqp{s:bd}(h:gi s)(hm:jN s.m){x:T}(ab:x.fit=true)(bx:dy s.n x=true)(k:Int):bR aA 45 [s.e,x.e,.int .i64 k] (ir (o6 s x k)):=by
 have aS:=abB h hm ab bx;have bh:=abi h.1.b h.1.k x ab k;have bX:=QA s h.1.b.len (fun z a8=>(h.1.d z a8).len) (by have:=o5 h.1.k;omega) (hm.len h.1.m);unfold o6;by_cases g:(k=2\/k=3)/\(x.ap (aV s.b)).size<=5000
 ·rw[if_pos g]at bh;rw[if_pos g];cases hu:gU s.k (x.ap (aV s.b)) k with
  |none=>rw[hu]at bh;clear h bX hu g;obtain⟨n,b,d,bJ,m⟩:=s;simp only[bd.e,gd,ir,Option.bind_none,jy,je,gH]at aS bh⊢;refine br fO Tryz.func45 OI fun aR=>?_;unfold GH;exact cu
  |some l=>rw[hu]at bh;obtain⟨G,hI,aT⟩:=hm;have ed:=CR (h.1.knd ab bx g.1 hu) hI aT;rw[hE];generalize eH {s with k:=l}=O at ed;clear h hu g;obtain⟨n,b,d,bJ,m⟩:=s;simp only[bd.e,gd,ir,ib,lZ]at aS bh bX ed⊢;refine br fO Tryz.func45 OI fun aR=>?_;unfold GH;exact cu
 ·rw[if_neg g];rw[if_neg g]at bh;clear h bX g;obtain⟨n,b,d,bJ,m⟩:=s;simp only[bd.e,gd,ir,Option.bind_none,jy,je,gH]at aS bh⊢;refine br fO Tryz.func45 OI fun aR=>?_;unfold GH;exact cu
open Classical in
theorem aqt{s:bd}(h:gi s)(hm:wP s.m){x:T}(ab:x.fit=true)(bx:dy s.n x=true){g:List UInt8}(aT:iB g=true):bR aA 47 [s.e,x.e,.str g] (ir (o8 s x g)):=by
 have aS:=abB h hm.w ab bx;have aw:=hm.w.len h.1.m;have bh:=abh h.1.b h.1.m aw x ab aT;have bX:=QA s h.1.b.len (fun z a8=>(h.1.d z a8).len) (by have:=o5 h.1.k;omega) aw;unfold o8;by_cases g1:(x.ap (aV s.b)).size<=5000
 ·rw[if_pos g1]at bh;rw[if_pos g1];cases hu:hv s.m (x.ap (aV s.b)) g with
  |none=>rw[hu]at bh;clear h bX hu g1 aw hm;obtain⟨n,b,d,bJ,m⟩:=s;simp only[bd.e,iE,ir,Option.bind_none,jy,je,gH]at aS bh⊢;refine br fO Tryz.func47 OJ fun aR=>?_;unfold GI;exact cu
  |some l=>rw[hu]at bh;obtain⟨G,hI,pJ⟩:=hm.mrk hu;have ed:=CR (h.1.mrk ab bx aT hu) hI pJ;rw[hE];generalize eH {s with m:=l}=O at ed;clear h hu g1 aw hm;obtain⟨n,b,d,bJ,m⟩:=s;simp only[bd.e,iE,ir,ib,lZ]at aS bh bX ed⊢;refine br fO Tryz.func47 OJ fun aR=>?_;unfold GI;exact cu
 ·rw[if_neg g1];rw[if_neg g1]at bh;clear h bX g1 aw hm;obtain⟨n,b,d,bJ,m⟩:=s;simp only[bd.e,iE,ir,Option.bind_none,jy,je,gH]at aS bh⊢;refine br fO Tryz.func47 OJ fun aR=>?_;unfold GI;exact cu
open Classical in
noncomputable def wu(a:bd)(x:bV):Bool:=decide (o6 a (.var x.v) x.k=some a)
open Classical in
noncomputable def wv(a:bd)(x:bn):Bool:=decide (o8 a (.var x.v) x.s=some a)
noncomputable def wo(a:bd)(x:ah):Bool:=(jT a (.var x.v) x.t).isNone
noncomputable def wq(a:bd)(x:List ah):Bool:=(ig a x).isNone
noncomputable def rU(a b:bd):Bool:=b.b.all (wo a)&&b.d.all (wq a)&&b.k.all (wu a)&&b.m.all (wv a)
open Classical in
theorem Uj(O:Option bd)(a:bd):decide (O=some a)=match O with|none=>false|some t=>decide (t=a):=by cases O<;>simp
theorem Il{a b:bd}(h:(∃x∈b.b,wo a x=false)\/(∃x∈b.d,wq a x=false)\/(∃x∈b.k,wu a x=false)\/ ∃x∈b.m,wv a x=false):rU a b=false:=by
 cases e:rU a b with
 |false=>rfl
 |true=>
  simp only[rU,cv,fi]at e;obtain⟨⟨⟨ar,aE⟩,bA⟩,dr⟩:=e;rcases h with⟨x,I,U⟩|⟨x,I,U⟩|⟨x,I,U⟩|⟨x,I,U⟩
  ·rw[ar x I]at U;cases U
  ·rw[aE x I]at U;cases U
  ·rw[bA x I]at U;cases U
  ·rw[dr x I]at U;cases U
open Classical in
theorem akC{a:bd}(bk:gi a)(hm:jN a.m){x:ah}(ab:qg a.n x):bR aA 14 [a.e,(T.var x.v).e,x.t.e] (.bool (wo a x)):=by have:=aqn a.r (fun _=>hm) (T.var x.v).tm x.t.tm;rwa[Q9 bk (U2 ab.f1 ab.f2 ab.b1 ab.b2),u3,mq,mq]at this
open Classical in
theorem Qy{a b:bd}(bk:gi a)(ad:gi b)(hm:wP a.m)(oe:jN b.m)(au:a.n=b.n):bR aA 19 [a.e,b.e] (.bool (rU a b)):=by
 have Ba:∀x∈b.b,qg a.n x:=fun x ab=>by rw[au];exact Da ad.1.b ad.1.bb ab
 have V1:∀d∈b.d,∀x∈d,qg a.n x:=fun d aD x ab=>by rw[au];exact Da (ad.1.d d aD) (ad.1.db d aD) ab
 have MS:yR a.n a:=⟨bk,hm.w,rfl⟩;have fp:=fun x ab=>akC bk hm.w (Ba x ab);have pS:=fun(t:bd) (aC:yR a.n t) (x:ah) (ab:qg a.n x)=>abk aC.ok aC.tg ab.f1 ab.f2 (RF aC ab).b1 (RF aC ab).b2;have dg:∀x∈b.k,∃O,bR aA 45 [a.e,(T.var x.v).e,.int .i64 x.k] (ir O)/\(wu a x=match O with|none=>false|some t=>decide (t=a))/\∀t,O=some t->bR aA 46 [t.e,a.e] (.bool (decide (t=a))):=fun x ab=>by have I:=ad.1.k.at' x ab;have f1:=DD I.1;have b1:dy a.n (.var x.v)=true:=Dc (by rw[au];exact ad.1.kb x ab);exact⟨_,aqp bk hm.w f1 b1 x.k,Uj _ _,fun t aC=>(fun t aC=>QN t a aC.1.b.len fun z a8=>(aC.1.d z a8).len) t (XE bk.1 f1 b1 aC)⟩
 have dZ:∀x∈b.m,∃O,bR aA 47 [a.e,(T.var x.v).e,.str x.s] (ir O)/\(wv a x=match O with|none=>false|some t=>decide (t=a))/\∀t,O=some t->bR aA 46 [t.e,a.e] (.bool (decide (t=a))):=fun x ab=>by have I:=ad.1.m.at' x ab;have f1:=DD I.1;have b1:dy a.n (.var x.v)=true:=Dc (by rw[au];exact ad.1.mb x ab);exact⟨_,aqt bk hm f1 b1 I.2,Uj _ _,fun t aC=>(fun t aC=>QN t a aC.1.b.len fun z a8=>(aC.1.d z a8).len) t (Yq bk.1 f1 b1 I.2 aC)⟩
 generalize bI:rU a b=R;have Hx:∀x∈b.b,wo a x=false->R=false:=fun x I U=>by rw[<-bI];exact Il (.inl ⟨x,I,U⟩)
 have DK:∀x∈b.d,wq a x=false->R=false:=fun x I U=>by rw[<-bI];exact Il (.inr (.inl ⟨x,I,U⟩))
 have DN:∀x∈b.k,wu a x=false->R=false:=fun x I U=>by rw[<-bI];exact Il (.inr (.inr (.inl ⟨x,I,U⟩)))
 have Hz:∀x∈b.m,wv a x=false->R=false:=fun x I U=>by rw[<-bI];exact Il (.inr (.inr (.inr ⟨x,I,U⟩)))
 have ds:b.b.all (wo a)=true->b.d.all (wq a)=true->b.k.all (wu a)=true->b.m.all (wv a)=true->R=true:=fun I U ao a7=>by rw[<-bI];simp[rU,I,U,ao,a7]
 have Bq:∀d,wq a d=(ig a d).isNone:=fun d=>rfl;have qq:ig a []=some a:=rfl;have dj:∀(d:List ah) j x t,d[j]? =some x->ig a (d.take j)=some t->ig a (d.take (j+1))=gW t (.var x.v) x.t:=fun d j x t ab h=>ads ab h;have uo:∀(d:List ah) j x,d[j]? =some x->ig a (d.take j)=none->ig a (d.take (j+1))=none:=fun d j x ab h=>adr ab h;have HH:∀(d:List ah) j,ig a (d.take j)=none->ig a d=none:=fun d j h=>adt h;have atd:=ad.1.b.len;have VR:=fun d aD=>(ad.1.d d aD).len;have atf:=o5 ad.1.k;have fC:=Kf a.r fun _=>hm.w;have js:=Kf b.r fun _=>oe;rw[hd ⟨a,rfl,bk⟩,u3]at fC;rw[hd ⟨b,rfl,ad⟩,u3]at js;have l6:=oe.len ad.1.m;generalize wo a=wx at Hx fp ds;generalize wq a=pd at DK Bq ds;generalize wu a=Ch at dg DN ds;generalize wv a=pm at dZ Hz ds;generalize ig a=tZ at Bq qq dj uo HH;clear bk ad hm oe bI Ba;obtain⟨n,tT,pz,Gt,am⟩:=a;obtain⟨n',bb,yA,Gy,Gz⟩:=b;simp only[bd.e]at*;subst au;refine br fO Tryz.func19 al0 fun aR=>?_;unfold Sb;have ate:yA.length<=68719476736:=by simp[gO,gj,gE,lim]at aR;omega
 clear aR;simp;(with_reducible repeat' first|refine ak ?_|refine aF fC ?_|refine aG fC ?_|refine aF js ?_|refine aG js ?_|simp);refine ep [2,3,39,40] (fun i (_:Unit)=>[(41,.int .i64 i)]) bb.length (lj wx bb) () b0 (fun k b ae=>Ω) (fun _ ag _=>?_) (fun i _ hi ag _=>?_);rotate_left
 ·obtain⟨b,ad,cK⟩:=en hi;have hX:=ek ad;have aS:=fp b hX;have gy:=kj b.v;have eg:=fun h=>Hx b hX h;have dF:=fun h:wx b=true=>ag.step ad h;clear ag ad hX fp pS dg dZ Hx DK DN Hz ds;generalize wx b=q at aS eg dF;cases q
  ·rw[eg rfl];exact cu
  ·have au:=dF rfl;exact hj
 have ah5:bb.all wx=true:=fi.2 ag.fin;clear ag fp Hx;simp;(with_reducible repeat' first|refine ak ?_|simp);refine ep [2,3,55,56] (fun i (_:Unit)=>[(57,.int .i64 i)]) yA.length (lj pd yA) () b0 (fun k b ae=>Ω) (fun _ ag _=>?_) (fun i _ hi ag _=>?_);rotate_left
 ·obtain⟨b,ad,cK⟩:=en hi;have hX:=ek ad;have Ba:=V1 b hX;have fA:=VR b hX;have eg:=fun h=>DK b hX h;have dF:=fun h:pd b=true=>ag.step ad h;clear ag ad hX dg dZ DK DN Hz ds V1 VR;have HI:cF b= .slice 5 .no (b.map ah.e):=rfl;simp[hi,cK,HI];((with_reducible repeat' first|refine ak ?_|simp[cK,hi,HI]|((first|apply bN|apply bP|apply bO)<;>intro h<;>try simp at h))<;>(try exact cf));refine hH (fun j (t:bd)=>⟨[(2,.ptr (.loc 0) 0),(3,.ptr (.loc 1) 0),(9,.ptr (.loc 2) 0),(10,.bool false),(55,.slice 1 .no (yA.map cF)),(56,.int .i64 yA.length),(57,.int .i64 i),(62,.slice 5 .no (b.map ah.e)),(63,.int .i64 b.length),(64,.int .i64 j)],[(.loc 0,[.int .i64 n,.slice 5 .no (tT.map ah.e),.slice 1 .no (pz.map cF),.slice 2 .no (Gt.map bV.e),.slice 2 .no (am.map bn.e)]),(.loc 1,[.int .i64 n,.slice 5 .no (bb.map ah.e),.slice 1 .no (yA.map cF),.slice 2 .no (Gy.map bV.e),.slice 2 .no (Gz.map bn.e)]),(.loc 2,[.int .i64 t.n,.slice 5 .no (t.b.map ah.e),.slice 1 .no (t.d.map cF),.slice 2 .no (t.k.map bV.e),.slice 2 .no (t.m.map bn.e)])],[],3,[]⟩) b.length (fun j t=>yR n t/\tZ (b.take j)=some t) ⟨n,tT,pz,Gt,am⟩ b0 ⟨MS,qq⟩ (fun t bs _=>?_) (fun j t dX bs _=>?_)
  ·obtain⟨_,bs⟩:=bs;rw[lB]at bs;rw[eg (by rw[Bq,bs];rfl)];clear pS;simp;((with_reducible repeat' first|refine ak ?_|simp|((first|apply bN|apply bP|apply bO)<;>intro h<;>try simp at h))<;>(try exact cf));all_goals simp[bz,aY,a6,aX]
  ·obtain⟨x,ab,WQ⟩:=en dX;obtain⟨aT,bs⟩:=bs;have Ig:=Ba x (ek ab);have aS:=pS t aT x Ig;have gy:=kj x.v;have da:=dj b j x t ab bs;cases ax:gW t (.var x.v) x.t with
   |none=>rw[ax]at da aS;have au:=dF (by rw[Bq,HH b _ da];rfl);clear pS eg dF aT bs da ab Ig Ba ax MS;obtain⟨qL,qI,qJ,qK,tm⟩:=t;simp only[ir,gH,jy,je,bd.e]at aS;exact hj
   |some dH=>rw[ax]at da aS;have au:=aT.equ Ig ax;clear pS eg dF aT bs ab Ig Ba ax MS;obtain⟨qL,qI,qJ,qK,tm⟩:=t;obtain⟨r9,x2,wK,x4,sm⟩:=dH;simp only[ir,ib,lZ,bd.e]at aS;simp[dX,WQ];((with_reducible repeat' first|refine ak ?_|refine aF gy ?_|refine aG gy ?_|refine aF aS ?_|refine aG aS ?_|simp[dX,WQ]|((first|apply bN|apply bP|apply bO)<;>intro h<;>try simp at h))<;>(try exact cf));all_goals exact bS.rng ⟨r9,x2,wK,x4,sm⟩ dX ⟨au,da⟩ b0
 have ah6:yA.all pd=true:=fi.2 ag.fin;clear ag pS DK;simp;((with_reducible repeat' first|refine ak ?_|simp|((first|apply bN|apply bP|apply bO)<;>intro h<;>try simp at h))<;>(try exact cf));refine ep [2,3,86,87] (fun i (_:Unit)=>[(88,.int .i64 i)]) Gy.length (lj Ch Gy) () b0 (fun k b ae=>Ω) (fun _ ag _=>?_) (fun i _ hi ag _=>?_);rotate_left
 ·obtain⟨b,ad,cK⟩:=en hi;have hX:=ek ad;obtain⟨O,aS,h5,c9⟩:=dg b hX;have gy:=kj b.v;have eg:=fun h=>DN b hX h;have dF:=fun h:Ch b=true=>ag.step ad h;clear ag ad hX ds Bq dj HH uo qq;rw[h5]at eg dF;cases O with
  |none=>rw[eg rfl];clear eg dF c9 h5;simp only[ir,gH,jy,je,bd.e]at aS;exact cu
  |some t=>
   have bh:=c9 t rfl;simp only at eg dF;obtain⟨qL,qI,qJ,qK,tm⟩:=t;simp only[ir,ib,lZ,bd.e]at aS bh;clear h5 c9;generalize decide ((⟨qL,qI,qJ,qK,tm⟩:bd)=⟨n,tT,pz,Gt,am⟩)=q at bh eg dF;cases q
   ·rw[eg rfl];exact cu
   ·have au:=dF rfl;exact hj
 have ah3:Gy.all Ch=true:=fi.2 ag.fin;clear ag;simp;((with_reducible repeat' first|refine ak ?_|simp|((first|apply bN|apply bP|apply bO)<;>intro h<;>try simp at h))<;>(try exact cf));clear dg DN;refine ep [2,112,113] (fun i (_:Unit)=>[(114,.int .i64 i)]) Gz.length (lj pm Gz) () b0 (fun k b ae=>Ω) (fun _ ag _=>?_) (fun i _ hi ag _=>?_);rotate_left
 ·obtain⟨b,ad,cK⟩:=en hi;have hX:=ek ad;obtain⟨O,aS,h5,c9⟩:=dZ b hX;have gy:=kj b.v;have eg:=fun h=>Hz b hX h;have dF:=fun h:pm b=true=>ag.step ad h;clear ag ad hX ds Bq dj HH uo qq;rw[h5]at eg dF;cases O with
  |none=>rw[eg rfl];clear eg dF c9 h5;simp only[ir,gH,jy,je,bd.e]at aS;exact cu
  |some t=>
   have bh:=c9 t rfl;simp only at eg dF;obtain⟨qL,qI,qJ,qK,tm⟩:=t;simp only[ir,ib,lZ,bd.e]at aS bh;clear h5 c9;generalize decide ((⟨qL,qI,qJ,qK,tm⟩:bd)=⟨n,tT,pz,Gt,am⟩)=q at bh eg dF;cases q
   ·rw[eg rfl];exact cu
   ·have au:=dF rfl;exact hj
 have ah4:Gz.all pm=true:=fi.2 ag.fin;clear ag;simp;(with_reducible repeat' first|refine ak ?_|simp);rw[ds ah5 ah6 ah3 ah4];all_goals simp[bz,aY,a6,aX]
theorem Z8{b:List ah}:∀{l acc a:List bV},e3 b l acc=some a->(∀z∈acc,z∈a)/\∀x∈l,(∃n,aV b x.v= .var n/\(⟨n,x.k⟩:bV)∈a)\/((∀n,aV b x.v≠ .var n)/\(aV b x.v).kind=x.k)
 |[],acc,a,h=>by simp only[e3,dD]at h;rw[h];exact⟨fun _ h=>h,Ψ⟩
 |x::r,acc,a,h=>by
  simp only[e3]at h;split at h
  ·rename_i bF e;obtain⟨I,U⟩:=Z8 h;refine⟨fun z a8=>I z (acI e z a8),fun z a8=>?_⟩;rcases eU.1 a8 with rfl|a8
   ·unfold gU at e;split at e
    ·rename_i n he;refine .inl ⟨n,he,I _ ?_⟩;split at e
     ·rename_i bJ mx;split at e
      ·rename_i bA;cases e;rw[<-bA];exact zp mx
      ·cases e
     ·cases e;exact wh.2 (.inl rfl)
    ·rename_i au;split at e
     ·rename_i bA;exact .inr ⟨fun n cA=>au n cA,bA⟩
     ·cases e
   ·exact U z a8
  ·cases h
theorem aab{b:List ah}:∀{l acc a:List bn},eS b l acc=some a->(∀z∈acc,z∈a)/\∀x∈l,(aV b x.v).has x.s=false/\∀v,(aV b x.v).occ v=true->(⟨v,x.s⟩:bn)∈a
 |[],acc,a,h=>by simp only[eS,dD]at h;rw[h];exact⟨fun _ h=>h,Ψ⟩
 |x::r,acc,a,h=>by
  simp only[eS]at h;split at h
  ·rename_i bF e;obtain⟨I,U⟩:=aab h;refine⟨fun z a8=>I z (acL e z a8),fun z a8=>?_⟩;rcases eU.1 a8 with rfl|a8
   ·refine⟨?_,fun v az=>I _ ((th e _).2 (.inr ⟨rfl,az⟩))⟩;unfold hv at e;split at e
    ·cases e
    ·rename_i cA;simpa using cA
   ·exact U z a8
  ·cases h
structure vz (s t:bd):Prop where
 ok:gi t
 n:t.n=s.n
 sub:∀θ,df t.b θ->df s.b θ
 k:e3 t.b s.k []=some t.k
 m:∃m,eS t.b s.m []=some m/\t.m=m.filter (hp t.k)
 d:∃D L,(∀d∈s.d,d∈D)/\(∀d∈D,ei d)/\eF t.b t.k t.m D=some L/\t.d=iN L
theorem Vc{s:bd}(h:gi s):vz s s:=⟨h,rfl,fun _ h=>h,h.self.k,⟨_,h.self.m,h.self.f.symm⟩,⟨s.d,s.d,fun _ h=>h,h.1.d,h.self.l,h.self.n.symm⟩⟩
theorem aaD{s t:bd}(he:eH s=some t):t.b=s.b/\t.n=s.n/\e3 s.b s.k []=some t.k/\(∃m,eS s.b s.m []=some m/\t.m=m.filter (hp t.k))/\∃L,eF s.b t.k t.m s.d=some L/\t.d=iN L:=by
 unfold eH at he;split at he
 ·cases he
 rename_i k aW;split at he
 ·cases he
 rename_i m bj;split at he
 ·cases he
 rename_i L bM;split at he
 ·cases he;exact⟨rfl,rfl,aW,⟨m,bj,rfl⟩,L,bM,rfl⟩
 ·cases he
theorem agY{s t:bd}(h:gi s){x y:T}(ab:x.fit=true)(aB:y.fit=true)(bx:dy s.n x=true)(fI:dy s.n y=true)(he:gW s x y=some t):vz s t:=by have aC:=yG h.1 ab aB bx fI he;unfold gW at he;obtain⟨b,ar,aE⟩:=hr.1 he;obtain⟨aW,bj,bM,cL,L,c2,mG⟩:=aaD aE;simp only at aW bj bM cL c2;subst aW;exact⟨aC,bj,fun θ fl=>((lO h.1.b.sol h.1.b.fits ar θ).1 fl).1,bM,cL,s.d,L,fun _ h=>h,h.1.d,c2,mG⟩
theorem agX{s t:bd}(h:gi s){x y:T}(ab:x.fit=true)(aB:y.fit=true)(bx:dy s.n x=true)(fI:dy s.n y=true)(he:jT s x y=some t):vz s t:=by
 have aC:=Uk h.1 ab aB bx fI he;unfold jT at he;cases hu:mgu s.b [(x,y)]with
 |none=>rw[hu]at he;simp only at he;rw[h.2]at he;rw[<-eV he];exact Vc h
 |some b=>
  rw[hu]at he;simp only at he;split at he
  ·cases he
  ·obtain⟨aW,bj,bM,cL,L,c2,mG⟩:=aaD he;simp only at aW bj bM cL c2;have h5:=h.1.dif ab aB bx fI hu;refine⟨aC,bj,fun θ fl=>by rw[aW]at fl;exact fl,by rw[aW];exact bM,by rw[aW];exact cL,s.d++[dx s.b b],L,fun d aD=>List.mem_append_left _ aD,h5.d,by rw[aW];exact c2,mG⟩
theorem aj2{s t:bd}(h:vz s t)(af:gi s){x:ah}(ab:x∈s.b):wo t x=true:=by
 have aC:=h.ok;unfold wo jT;obtain⟨y,ar,aE⟩:=Ov (E:=[(.var x.v,x.t)]) aC.1.b.sol aC.1.b.fits aC.1.b.sol aC.1.b.fits (fun _ h=>h) fun θ fl e he=>by rw[iG.1 he];exact h.sub θ fl x ab
 have aB:=pU aC.1.b.sol aC.1.b.fits ar;have:t.b=y:=J4 aC.1.b.sol aB.1 fun θ=>⟨aE θ,fun I=>((lO aC.1.b.sol aC.1.b.fits ar θ).1 I).1⟩;rw[ar];simp only;rw[if_pos ((EU aC.1.b ar).2 this)];rfl
theorem aj4{s t:bd}(h:vz s t)(af:gi s){x:bV}(ab:x∈s.k):wu t x=true:=by
 have aC:=h.ok;have ajQ:=af.1.k.at' x ab;unfold wu o6;rw[eA];have bk:(T.var x.v).ap (aV t.b)=aV t.b x.v:=rfl;have a8:(aV t.b x.v).size<=5000:=z6 aC.1.b.fits _;rw[bk,if_pos ⟨ajQ.2,a8⟩];have:gU t.k (aV t.b x.v) x.k=some t.k:=by
  rcases(Z8 h.k).2 x ab with⟨n,ar,aE⟩|⟨ar,aE⟩
  ·have:=zr aC.1.k.asc aE;simp only at this;rw[ar];simp[gU,this]
  ·unfold gU;split
   ·rename_i n e;exact absurd e (ar n)
   ·rw[if_pos aE]
 rw[this,hE];exact aC.2
theorem aj5{s t:bd}(h:vz s t)(af:gi s){x:bn}(ab:x∈s.m):wv t x=true:=by
 have aC:=h.ok;have c9:=aC.self;obtain⟨m,y8,sU⟩:=h.m;obtain⟨I,U⟩:=(aab y8).2 x ab;unfold wv o8;rw[eA];have bk:(T.var x.v).ap (aV t.b)=aV t.b x.v:=rfl;rw[bk,if_pos (z6 aC.1.b.fits _)];have vN:=zQ aC.1.b.sol Ψ y8;obtain⟨q,bs⟩:∃q,hv t.m (aV t.b x.v) x.s=some q:=by unfold hv;rw[I];exact⟨_,rfl⟩
 rw[bs,hE];have ajr:∀z∈q,cO t.b z.v=none:=fun z a8=>by
  rcases(th bs z).1 a8 with a8|⟨e,a8⟩
  ·exact zQ aC.1.b.sol Ψ c9.m z a8
  ·have:=vN _ (U z.v a8);exact this
 have WB:=acK bs;have aE:eS t.b q []=some q:=JC (acc:=[]) WB ajr;have bA:q.filter (hp t.k)=t.m:=by
  refine hG.ext lQ (Ku _ WB) aC.1.m.asc fun z=>?_;rw[hD,th bs];constructor
  ·rintro⟨a8|⟨e,a8⟩,aO⟩
   ·exact a8
   ·rw[sU];refine hD.2 ⟨?_,aO⟩;have:=U z.v a8;rw[<-e]at this;exact this
  ·intro a8;refine⟨.inl a8,?_⟩;have:z∈t.m.filter (hp t.k):=by rw[c9.f];exact a8
   exact(hD.1 this).2
 rw[apt (s:={t with m:=q}) c9.k aE];simp only[bA,c9.l,nT,hE,c9.n];rw[if_pos c9.c]
theorem aj3{s t:bd}(h:vz s t)(af:gi s){d:List ah}(aD:d∈s.d):wq t d=true:=by
 have aC:=h.ok;obtain⟨D,L,I,U,ao,a7⟩:=h.d;unfold wq;have fa:∀x∈d,qg t.n x:=fun x ab=>by rw[h.n];exact Da (af.1.d d aD) (af.1.db d aD) ab
 rw[adq aC (af.1.d d aD) fa ?_]
 ·rfl
 ·by_cases bs:∃x,mgu t.b (e0 d)=some x/\tl x t.k t.m
  ·obtain⟨x,aW,bj⟩:=bs;left;have r0:=N1 (b:=t.b) (k:=t.k) (m:=t.m) (l:=D);rw[ao]at r0;have hw:=(r0.1 d (I d aD) x aW bj).2;have n5:=fun e he=>(zv aC.1.b U ao e he).sol;obtain⟨z,a8,aT⟩:=Ow n5 _ _ hw rfl;rw[<-a7]at a8;refine⟨z,a8,fun θ b8 c6=>?_⟩;exact(wj (n5 _ hw)).1 aT θ (Yw ((lO aC.1.b.sol aC.1.b.fits aW θ).2 ⟨b8,u1.2 c6⟩))
  ·right;intro x ab ae;exact bs ⟨x,ab,ae⟩
theorem WY{s t:bd}(h:vz s t)(af:gi s):rU t s=true:=by simp only[rU,cv,fi];exact⟨⟨⟨fun _=>aj2 h af,fun _=>aj3 h af⟩,fun _=>aj4 h af⟩,fun _=>aj5 h af⟩
theorem T4{n:Int}{v:List ah}(az:kk n v):∀{r:List ah} {t:bd},gi t->t.n=n->(∀x∈r,qg n x)->ig t r=none->iS t (aV v)->¬df r (aV v)
 |[],t,_,_,_,h,_=>by simp[ig]at h
 |x::r,t,aC,au,fa,h,cA=>by
  intro af;obtain⟨f1,f2,b1,b2⟩:=fa x Ψ;rw[<-au]at b1 b2;have lM:=az;rw[<-au]at lM;have bs:=Uy aC.1 lM f1 f2 b1 b2;simp only[ig]at h;have ab:(T.var x.v).ap (aV v)=x.t.ap (aV v):=af x Ψ;cases e:gW t (.var x.v) x.t with
  |none=>rw[e]at bs;exact bs aC.self.c ⟨cA,ab⟩
  |some t1=>
   rw[e]at bs h;have uD:=yG aC.1 f1 f2 b1 b2 e;have nC:t1.n=n:=by unfold gW at e;obtain⟨b,aW,bj⟩:=hr.1 e;rw[(tB (aC.1.bind f1 f2 b1 b2 aW) bj).2.1];exact au
   exact T4 az uD nC (fun y aB=>fa y (by simp[aB])) h (bs.2 ⟨cA,ab⟩) fun c aq=>af c g9
theorem aj6{o s:bd}(ax:gi o)(af:gi s)(au:o.n=s.n)(aD:o.d.length<=29)(h:rU o s=true){v:List ah}(az:kk o.n v)(cA:iS o (aV v)):iS s (aV v):=by
 simp only[rU,cv,fi]at h;obtain⟨⟨⟨ar,aE⟩,bA⟩,dr⟩:=h;refine⟨fun c aq=>?_,fun k ae=>?_,fun m hm=>?_,fun d kD=>?_⟩
 ·obtain⟨f1,f2,b1,b2⟩:=Da af.1.b af.1.bb aq;rw[<-au]at b1 b2;have I:=ar c aq;simp only[wo,Option.isNone_iff_eq_none]at I;have U:=Ul ax.1 az f1 f2 b1 b2;rw[I]at U;exact Classical.byContradiction fun cG=>U aD ⟨cA,cG⟩
 ·have jo:=af.1.k.at' k ae;have I:=bA k ae;simp only[wu,eA]at I;have U:=akS ax.1 az (x:= .var k.v) (DD jo.1) (Dc (by have:=af.1.kb k ae;omega)) jo.2 (z6 ax.1.b.fits _);rw[I]at U;exact(U.1 cA).2
 ·have sU:=af.1.m.at' m hm;have I:=dr m hm;simp only[wv,eA]at I;have U:=aly ax.1 az (x:= .var m.v) (DD sU.1) (Dc (by have:=af.1.mb m hm;omega)) sU.2 (z6 ax.1.b.fits _);rw[I]at U;exact(U.1 cA).2
 ·have I:=aE d kD;simp only[wq,Option.isNone_iff_eq_none]at I;exact T4 az ax rfl (fun x ab=>by rw[au];exact Da (af.1.d d kD) (af.1.db d kD) ab) I cA
theorem small.tg{N:Nat}{s:bd}(h:small N s):jN s.m:=⟨[[97],[98]],Ψ,h.t⟩
theorem small.tg1{N:Nat}{s:bd}(h:small N s):wP s.m:=⟨[[97],[98]],Ψ,h.t⟩
def GC(a:T):List aj:=[.int .i64 a.kind,.int .i64 a.int,.str a.name,.slice 4 .no (a.args.map T.e)]
def nZ(s:bd):List aj:=[.int .i64 s.n,.slice 5 .no (s.b.map ah.e),.slice 1 .no (s.d.map cF),.slice 2 .no (s.k.map bV.e),.slice 2 .no (s.m.map bn.e)]
def Le:C:=(.seq (aa [J 45 10,ct 46 45,J 47 46,av 47 false (aZ 48 5 3),av 47 false (aZ 49 5 3),av 47 false (ch 50 19 48 49),av 47 false (ct 51 50),c8 52 47 51,J 53 52,b6 53 false 54 7,b6 53 false 55 54,av 55 true (aZ 56 5 6),av 55 true (aZ 57 5 3),av 55 true (ch 58 19 56 57),av 55 true (ct 59 58),av 53 false (dB 60 55 59),c8 61 53 60] (a1 61 (aa [bp 2 false] .ret) .skip)) (aa [aZ 62 5 8,aZ 63 5 3,ch 64 19 62 63,ct 65 64,J 66 65,av 66 false (aZ 67 5 3),b6 66 false 68 9,av 66 false (ch 69 9 67 68),c8 70 66 69,J 2 70] .ret))
def GQ:C:=(aa [bp 2 false] (.seq (aa [J 11 0,cH 12 11,aU 13 .gtr 12 1048576] (a1 13 (aa [bp 2 true] .ret) .skip)) (aa [J 14 0,c4 15 6 [.t 14,(ef 0),(ef 5)],cP 3 fD,bu 5 3 15] (aa [J 16 0,c4 17 10 [.t 16,(ef 60),(ef 3),(ef 5)],cP 4 dk,bu 4 4 17] (aa [J 18 0,c4 19 10 [.t 18,(ef 80),(ef 5),(ef 5)],cP 5 dk,bu 4 5 19] (aa [aZ 21 5 3,aZ 22 4 4,aZ 23 4 5,c4 24 17 [.t 21,.t 22,.t 23],J 20 24,cg 25 0 20,cg 26 1 20,cP 6 fD,bu 5 6 25,J 7 26] (.seq (aa [J 27 0,c4 28 18 [.t 27,(ef 100)],aU 29 .rem 28 2,aU 30 .eql 29 0] (a1 30 (.region [aZ 32 5 3,aZ 33 4 4,aZ 34 4 5,c4 35 16 [.t 32,.t 33,.t 34],J 31 35,cg 36 0 31,cg 37 1 31,bu 5 6 36,J 7 37]) .skip)) (aa [J 38 0,c4 39 6 [.t 38,(ef 102),(ef 5)],cP 8 fD,bu 5 8 39] (aa [aZ 41 5 8,cD 42 7 41,J 40 42,cg 43 0 40,cg 44 1 40,J 9 43,J 10 44] Le)))))))))
def aa2:List (Nat×dG):=[
 (22,⟨1,24,.slice 5,.slice 1 .nil []⟩),
 (28,⟨5,104,.struct [(0,3),(1,23),(2,24),(3,25),(4,26)],.agg [.int .i64 0,.slice 5 .nil [],.slice 1 .nil [],.slice 2 .nil [],.slice 2 .nil []]⟩),
 (36,⟨4,56,.struct [(0,3),(1,3),(2,9),(3,34)],.agg [.int .i64 0,.int .i64 0,.str [],.slice 4 .nil []]⟩)]
theorem Qq:fX aA aa2=true:=by kernel_rfl
theorem OR:b7 aa2 GQ [.tmp 2] 1 Tryz.f5=true:=by kernel_rfl
theorem WX{t:List (Nat×aj)}{B:List (aM×List aj)}{n:Nat}{s nx ot:bd}{w:List ah}{p q:Bool}(ao:Pv.get 3 t= .ptr (.loc 0) 0)(c6:Pv.get 6 t= .ptr (.loc 3) 0)(jm:Pv.get 8 t= .ptr (.loc 4) 0)
  (qf:Pv.look (.loc 0) B=some (nZ s)) (fy:Pv.look (.loc 3) B=some (nZ nx)) (np:Pv.look (.loc 4) B=some (nZ ot)) (dM:Pv.get 7 t= .bool p) (ih:Pv.get 9 t= .slice 5 .no (w.map ah.e)) (xc:Pv.get 10 t= .bool true)
  (c5:bR aA 19 [.agg (nZ s),.agg (nZ s)] (.bool true)) (gx:p=true->bR aA 19 [.agg (nZ nx),.agg (nZ s)] (.bool true)) (jK:bR aA 19 [.agg (nZ ot),.agg (nZ s)] (.bool q))
  (jJ:q=true->bR aA 9 [.agg (nZ s),.slice 5 .no (w.map ah.e)] (.bool true)):
  dd aA [] Le (bz [.tmp 2] (.bool true)) ⟨t,B,[],n,[]⟩:=by
 unfold nZ at*;unfold Le;cases p<;>cases q
 ·clear gx jJ;simp[kq,ao,c6,jm,qf,fy,np,dM,ih,xc];(with_reducible repeat' first|refine ak ?_|refine aF c5 ?_|refine aG c5 ?_|refine aF jK ?_|refine aG jK ?_|simp[kq,ao,c6,jm,qf,fy,np,dM,ih,xc]);simp[bz,aY,a6,aX];simp[kq]
 ·have jJ:=jJ rfl;clear gx;simp[kq,ao,c6,jm,qf,fy,np,dM,ih,xc];(with_reducible repeat' first|refine ak ?_|refine aF c5 ?_|refine aG c5 ?_|refine aF jK ?_|refine aG jK ?_|refine aF jJ ?_|refine aG jJ ?_|simp[kq,ao,c6,jm,qf,fy,np,dM,ih,xc]);simp[bz,aY,a6,aX];simp[kq]
 ·have gx:=gx rfl;clear jJ;simp[kq,ao,c6,jm,qf,fy,np,dM,ih,xc];(with_reducible repeat' first|refine ak ?_|refine aF c5 ?_|refine aG c5 ?_|refine aF jK ?_|refine aG jK ?_|refine aF gx ?_|refine aG gx ?_|simp[kq,ao,c6,jm,qf,fy,np,dM,ih,xc]);simp[bz,aY,a6,aX];simp[kq]
 ·have gx:=gx rfl;have jJ:=jJ rfl;simp[kq,ao,c6,jm,qf,fy,np,dM,ih,xc];(with_reducible repeat' first|refine ak ?_|refine aF c5 ?_|refine aG c5 ?_|refine aF jK ?_|refine aG jK ?_|refine aF gx ?_|refine aG gx ?_|refine aF jJ ?_|refine aG jJ ?_|simp[kq,ao,c6,jm,qf,fy,np,dM,ih,xc]);simp[bz,aY,a6,aX];simp[kq]
open Classical in
theorem abl(d:List Int)(aD:sv d):bR aA 5 [.slice 1 .no (iv d)] (.bool true):=by
 by_cases DT:1048576<d.length
 ·have cK:(1048576:Int)<d.length:=Ω
  refine br Qq Tryz.func5 OR fun aR=>?_;unfold GQ;exact cu
 ·have aw:d.length<=10000000:=Ω
  have VS:¬(1048576:Int)<d.length:=Ω
  have c9:=abo d aD aw 0 Ω 5 Ω;have oW:=XY d 0 (n:=5) Ω;generalize BS d 0 5=s at c9 oW;have bm:bR aA 10 [.slice 1 .no (iv d),.int .i64 60,.int .i64 3,.int .i64 5] (eC 3 5 (kp d 60)).1.e:=abp d aD aw 60 Ω 3 Ω 5 Ω;have yl:=AP (n:=5) Ω (z:=3) Ω (kp d 60);generalize (eC 3 5 (kp d 60)).1=a at bm yl;have jn:bR aA 10 [.slice 1 .no (iv d),.int .i64 80,.int .i64 5,.int .i64 5] (eC 5 5 (kp d 80)).1.e:=abp d aD aw 80 Ω 5 Ω 5 Ω;have ym:=AP (n:=5) Ω (z:=5) Ω (kp d 80);generalize (eC 5 5 (kp d 80)).1=b at jn ym;have iK:=aqw d aD aw 100 Ω;generalize (kp d 100).byte*256+(kp d 100).next.byte=z0 at iK;have di:=abo d aD aw 102 Ω 5 Ω;have nD:=XY d 102 (n:=5) Ω;generalize BS d 102 5=o at di nD;have dU:=oW.small Ω;have Eh:=nD.small Ω;have ok:=oW.s.ok;have OX:=nD.s.ok;have tg:=oW.s.tg.w;have jr:s.n=(5:Nat):=oW.s.n;have HY:o.n=(5:Nat):=nD.s.n;have C9:dy s.n a=true:=by rw[jr];exact yl.b
  have lE:dy s.n b=true:=by rw[jr];exact ym.b
  have A6:=abj ok tg yl.f ym.f C9 lE;have xe:=abk ok tg yl.f ym.f C9 lE;have mr:=fun t=>agY (t:=t) ok yl.f ym.f C9 lE;have xf:=fun t=>agX (t:=t) ok yl.f ym.f C9 lE;have e1:=fun t=>alH (t:=t) (n:=5) oW Ω yl.a ym.a;have c5:=Qy ok ok dU.tg1 dU.tg rfl;rw[WY (Vc ok) ok]at c5;have NL:∀t,gW s a b=some t\/jT s a b=some t->bR aA 19 [t.e,s.e] (.bool true):=fun t aC=>by have aO:vz s t:=aC.elim (mr t) (xf t);have da:=(e1 t aC).1;have:=Qy da.ok ok da.tg1 dU.tg (by rw[da.n,jr]);rwa[WY aO ok]at this
  have jK:=Qy OX ok Eh.tg1 dU.tg (by rw[HY,jr]);have eL:=aqD Eh Eh.tg;obtain⟨az,oi⟩:=F5 Eh;have jJ:rU o s=true->bR aA 9 [s.e,.slice 5 .no ((lW o).map ah.e)] (.bool true):=fun h=>by have cA:=aj6 OX ok (by rw[HY,jr]) (by have:=nD.k;omega) h (by rw[HY];exact az) (Qb oi);obtain⟨I,U⟩:=aj7 nD oW cA;have:=arf ok tg jr I;rwa[hd U]at this
  generalize rU o s=q at jK jJ;generalize lW o=w at eL jJ;clear mr xf e1 dU Eh ok OX tg jr HY C9 lE az oi yl ym oW nD;have Iz:(gW s a b).isSome=true->bR aA 19 [((gW s a b).getD gH).e,s.e] (.bool true):=fun h=>by obtain⟨t,aC⟩:=fH.1 h;rw[aC];exact NL t (.inl aC)
  have IA:(jT s a b).isSome=true->bR aA 19 [((jT s a b).getD gH).e,s.e] (.bool true):=fun h=>by obtain⟨t,aC⟩:=fH.1 h;rw[aC];exact NL t (.inr aC)
  clear NL;simp only[ir]at A6 xe;generalize (gW s a b).isSome=cT at xe Iz;generalize (jT s a b).isSome=dm at A6 IA;generalize (gW s a b).getD gH=t1 at xe Iz;generalize (jT s a b).getD gH=t2 at A6 IA;have IC:=fun t=>WX (t:=t) (B:=[(.loc 0,nZ s),(.loc 1,GC a),(.loc 2,GC b),(.loc 3,nZ t1),(.loc 4,nZ o)]) (n:=5) (s:=s) (nx:=t1) (ot:=o) (w:=w) (p:=cT) (q:=q);have uK:=fun t=>WX (t:=t) (B:=[(.loc 0,nZ s),(.loc 1,GC a),(.loc 2,GC b),(.loc 3,nZ t2),(.loc 4,nZ o)]) (n:=5) (s:=s) (nx:=t2) (ot:=o) (w:=w) (p:=dm) (q:=q);simp only[bd.e]at c9 di A6 xe eL c5 jK jJ Iz IA⊢;by_cases a8:z0.tmod 2=0
  ·refine br Qq Tryz.func5 OR fun aR=>?_;unfold GQ;simp;(with_reducible repeat' first|refine ak ?_|refine aF c9 ?_|refine aG c9 ?_|refine aF bm ?_|refine aG bm ?_|refine aF jn ?_|refine aG jn ?_|refine aF iK ?_|refine aG iK ?_|refine aF di ?_|refine aG di ?_|refine aF xe ?_|refine aG xe ?_|refine aF A6 ?_|refine aG A6 ?_|refine aF eL ?_|refine aG eL ?_|simp[VS,a8]);exact uK _ rfl rfl rfl rfl rfl rfl rfl rfl rfl c5 IA jK jJ
  ·have o4:(z0.tmod 2==0)=false:=by simp[a8]
   refine br Qq Tryz.func5 OR fun aR=>?_;unfold GQ;simp;(with_reducible repeat' first|refine ak ?_|refine aF c9 ?_|refine aG c9 ?_|refine aF bm ?_|refine aG bm ?_|refine aF jn ?_|refine aG jn ?_|refine aF iK ?_|refine aG iK ?_|refine aF di ?_|refine aG di ?_|refine aF xe ?_|refine aG xe ?_|refine aF eL ?_|refine aG eL ?_|simp[VS,a8,o4]);exact IC _ rfl rfl rfl rfl rfl rfl rfl rfl rfl c5 Iz jK jJ
end
section
open Go Go.Pv Go.ChangeShapes Go.WideShapes Go.ChangeAt Go.RowKit
theorem ao4:ownKnob aA.godebug=none:=by kernel_rfl
theorem ao3:laidOutB aA=true:=by kernel_rfl
theorem adm:aA.cellsOf 5=1:=by kernel_rfl
theorem RS(w:World)(Z:bg):∀xs:List Int,dK w Z 1 (iv xs) (xs.map (Value.int .u8))
 |[]=>by simp[iv,dK]
 |x::xs=>by simp only[iv,hc,dK];exact⟨.int .u8 x,_,rfl,⟨by simp[be],rfl,by intro c aq;simp[p5]at aq;subst aq;rfl⟩,RS w Z xs⟩
def AR(b off n:Nat):bg:=⟨fun b3 o=>b3=b/\off<=o/\o<off+n,fun _=>none,fun _=>none,fun _ _ _=>eI⟩
theorem BN(w:World)(A:Nat->Nat->Prop)(b:Nat):∀(us:List Value) (off:Nat),(∀i u,us[i]? =some u->A b (off+i)/\w.cell? ⟨b,off+i,none⟩=some u)->mE w A b off us
 |[],_,_=>trivial
 |u::us,off,h=>⟨by simpa using h 0 u rfl,BN w A b us (off+1) fun i fu hu=>by have:=h (i+1) fu (by simpa using hu);rwa[show off+(i+1)=off+1+i from by omega]at this⟩
theorem Lr{f:FuncId}{fn:Func}(qs:aA.funcs[f]? =some fn)(LH:∀args w,(callFunc f args).run aA w= .ok (.enter f args) w){w:World}{Z:bg}{args:List aj}{bc:Array Value}(h:bR aA f args (.bool true))(aC:∀k j b,¬Z.tr k j b)(bm:∀b o,Z.A b o->b<w.heap.size)(ad:∀k,Z.bx k=none)(ax:∀k,Z.ow k=none)(aN:cZ w Z args bc.toList):
  Calls aA f bc w fun e w'=>e= .returned (.bool true)/\Below w.heap.size w w':=by
 have aT:Pv.Good (fE Z ⟨[],[]⟩) w Z [] []:=⟨bm,fun k cs ae=>by simp[Pv.look]at ae,fun k bJ bl I=>by simp[Pv.look]at I,fun g o ae=>by simp[Pv.look]at ae,fun g fj n n' v v' bl I=>by simp[Pv.look]at I,fun g k n v bl I=>by simp[Pv.look]at I,fun k=>.inl (ad k),fun _ _ k j=>aC k j _⟩;rcases h w Z bc aT (fun k=>⟨fun _=>ad k,fun _=>ax k,aC k⟩) aN with⟨_,aq⟩|⟨v,w',aq,_⟩
 ·refine aq.mono ?_;rintro e w' ⟨v,r,ai,bo,rfl,⟨rfl,rfl⟩,mA,_,_,_,mV⟩;simp only[be]at mA;subst mA;refine⟨rfl,mV.os,mV.tape,mV.output,mV.size,fun k ae=>mV.block k ae ?_⟩;simp[fE,Pv.look]
 ·rw[LH]at aq;cases aq
theorem aru{n:Int}(h:(Lit.int .u8 n).wf=true):0<=n/\n<256:=by simp[Lit.wf,IntKind.min,IntKind.max,sn,oK]at h;omega
end
end Go.Proofs.YtohaalphocaebaaGreatDoor
