/- The closed facts of a card, one theorem each. -/
import Derived.Test.YtlnndmgfngfeiaaGreatDoorProg
import Derived.ProofKit
import Derived.Carry
import Derived.WalkKit
import Derived.Deep.Slices
import Derived.Shelf.SlSortFuncK.WholeK
import Derived.Shelf.GgSortFunc.Tiny
import Derived.Ground.GgsProg
import Derived.Lib.LaidTab
import Derived.Stop.LaidErr
import Derived.Lib.ItoaNum
import Derived.Test.YtlnndmgfngfeiaaGreatDoorRows
import Derived.Test.YtlnndmgfngfeiaaGreatDoorTie
import Derived.Test.YtlnndmgfngfeiaaGreatDoorCards
import Derived.LaidMore
import Derived.SevenTiedAt
import Derived.Test.YtlnndmgfngfeiaaGreatDoorF4
set_option linter.all false
set_option maxHeartbeats 4000000
set_option maxRecDepth 4000
open Bool renaming and_eq_true->bE
open Go renaming Program->bM,TypeId->eZ
open Go.DataW renaming trod->hv
open Go.IntKind renaming i64->mQ
open Go.Lib renaming itoa->br
open Go.Proofs.Tryz renaming f3->h9,prog->aF
open Go.Proofs.YtlnndmgfngfeiaaGreatDoor.Rows renaming fnExactFormatCodeRow->hx,fnExactFormatCodeSpec->mR
open Go.Value renaming cells->km,int->kY
open List renaming cons_append->oA,getElem?_append_left->nC,getElem?_eq_getElem->cB,getElem?_eq_some_iff->dw,length_append->dh,length_cons->hy,length_map->kn,length_nil->l5,length_pos_iff->oB,map_cons->ez,map_nil->mS,mem_cons->hT,mem_of_getElem?->e9,take_length->jY
open List.cons renaming injEq->tb
open Nat renaming le_refl->c7,lt_or_ge->ko
open Option.some renaming inj->fo,injEq->dt
open _root_ renaming False->dz,Option->bf,UInt8->bt,beq_eq_false_iff_ne->fN,beq_iff_eq->cD,decide_eq_false->ha,decide_eq_true->j0,decide_eq_true_eq->fY,if_neg->bu
namespace Go.Proofs.YtlnndmgfngfeiaaGreatDoor
section
open Go Go.Pv
section
variable (c:Cd) (k i:Nat) {x:Ix} {e:Ey} (ab:c.is[k]? =some x) (he:c.es[i]? =some e)
include ab he
set_option maxRecDepth 8000 in
theorem P0(a1:x.op=6)(qQ:c.fin i<=c.is.length)(aS:c.is.length<=100000000)(AH:0<=c.fin i):bF aF 105 [c.e,.int .i64 k,.int .i64 i] (.bool (hq c e (c.fin i) k x)):=by
 have ff:=(dw.1 ab).1;have eF:=(dw.1 he).1;have bL:∀h,(c.is[k]'h)=x:=fun h=>by rw[cB ff]at ab;exact fo ab
 have cP:∀h,(c.es[i]'h)=e:=fun h=>by rw[cB eF]at he;exact fo he
 have dK:=pw c i eF;generalize aW:hq c e (c.fin i) k x=R;unfold hq at aW;have c8:=uO x.g;rw[bu Ω,bu Ω,bu Ω,bu Ω,bu Ω,bu Ω,if_pos a1]at aW;generalize c.fin i=gJ at dK aW qQ AH;have OH:bs (gJ-1):=by unfold bs;omega
 refine bq jh mf mE fun aO=>?_;unfold lE;clear aO;simp[ff,eF,bL,cP,ab,he];((with_reducible repeat' first|refine aP ?_|refine aC dK ?_|refine aD dK ?_|refine aC c8 ?_|refine aD c8 ?_|simp[a1,ff,eF,bL,cP,ab,he,OH]|((first|apply b7|apply b9|apply b8)<;>intro h<;>try simp at h))<;>(try exact cn));all_goals simp[bJ,lU,bp,bz,bo]
 all_goals clear dK c8
 all_goals first|(simp_all;done)|grind
set_option maxRecDepth 8000 in
theorem P1(a1:x.op<0\/6<x.op):bF aF 105 [c.e,.int .i64 k,.int .i64 i] (.bool (hq c e (c.fin i) k x)):=by
 have ff:=(dw.1 ab).1;have eF:=(dw.1 he).1;have bL:∀h,(c.is[k]'h)=x:=fun h=>by rw[cB ff]at ab;exact fo ab
 have cP:∀h,(c.es[i]'h)=e:=fun h=>by rw[cB eF]at he;exact fo he
 have dK:=pw c i eF;generalize aW:hq c e (c.fin i) k x=R;unfold hq at aW;have c8:=uO x.g;have q:∀n:Int,0<=n->n<=6->(x.op==n)=false:=fun n I J=>fN.2 Ω;have wz:=q 0 Ω Ω;have bK:=q 1 Ω Ω;have b6:=q 2 Ω Ω;have cH:=q 3 Ω Ω;have dd:=q 4 Ω Ω;have cz:=q 5 Ω Ω;have iQ:=q 6 Ω Ω;have hQ:(x.op !=0)=true:=by simp only[bne,wz];rfl
 have RL:(x.op !=5)=true:=by simp only[bne,cz];rfl
 rw[bu Ω,bu Ω,bu Ω,bu Ω,bu Ω,bu Ω,bu Ω,Bool.and_false]at aW;subst aW;generalize c.fin i=gJ at dK;clear q a1;refine bq jh mf mE fun aO=>?_;unfold lE;clear aO;simp[ff,eF,bL,cP,ab,he];((with_reducible repeat' first|refine aP ?_|refine aC dK ?_|refine aD dK ?_|refine aC c8 ?_|refine aD c8 ?_|simp[ff,eF,bL,cP,ab,he,wz,bK,b6,cH,dd,cz,iQ,hQ,RL]|((first|apply b7|apply b9|apply b8)<;>intro h<;>try simp at h))<;>(try exact cn));all_goals simp[bJ,lU,bp,bz,bo]
 all_goals clear dK c8
 all_goals first|(simp_all;done)|grind
end
end
section
open Go Go.Pv
theorem TG(c:Cd)(k i:Nat){x:Ix}{e:Ey}(ab:c.is[k]? =some x)(he:c.es[i]? =some e)(aS:c.is.length<=100000000)(qQ:c.fin i<=c.is.length)(AH:0<=c.fin i)(iN:0<=e.pos):bF aF 105 [c.e,.int .i64 k,.int .i64 i] (.bool (hq c e (c.fin i) k x)):=by
 by_cases a1:x.op=0
 ·exact PU c k i ab he a1
 by_cases I:x.op=1
 ·exact PV c k i ab he I qQ iN
 by_cases J:x.op=2
 ·exact PW c k i ab he J
 by_cases ak:x.op=3
 ·exact PX c k i ab he ak
 by_cases aV:x.op=4
 ·exact PY c k i ab he aV
 by_cases bn:x.op=5
 ·exact PZ c k i ab he bn
 by_cases cb:x.op=6
 ·exact P0 c k i ab he cb qQ aS AH
 exact P1 c k i ab he Ω
def hW(c:Cd):List (aw×List ae):=[(.loc 0,[.slice 7 .no (c.is.map Ix.e),.slice 4 .no (c.es.map Ey.e)])]
def l6(c:Cd)(i:Nat)(_:Unit):a6:=⟨[(1,.ptr (.loc 0) 0),(23,.slice 4 .no (c.es.map Ey.e)),(24,.int .i64 c.es.length),(25,.int .i64 i)],hW c,[],1,[]⟩
def tg(c:Cd)(i:Nat)(_:Unit):a6:=⟨[(1,.ptr (.loc 0) 0),(116,.slice 4 .no (c.es.map Ey.e)),(117,.int .i64 c.es.length),(118,.int .i64 i)],hW c,[],1,[]⟩
def w6(c:Cd)(i:Nat)(_:Unit):Prop:= ∀(k:Nat) (e:Ey),k<i->c.es[k]? =some e->rK c k e
def w7(c:Cd)(i:Nat)(_:Unit):Prop:= ∀(k:Nat) (e:Ey),k<i->c.es[k]? =some e->w4 c k e
def th(c:Cd)(i N:Nat)(k:Nat):a6:=⟨[(1,.ptr (.loc 0) 0),(116,.slice 4 .no (c.es.map Ey.e)),(117,.int .i64 c.es.length),(118,.int .i64 i),(6,.int .i64 i),(8,.int .i64 N),(9,.int .i64 k)],hW c,[],1,[]⟩
theorem w6.all{c:Cd}{u:Unit}(h:w6 c c.es.length u):∀i e,c.es[i]? =some e->rK c i e:=fun i e he=>h i e (dw.1 he).1 he
theorem w7.all{c:Cd}{u:Unit}(h:w7 c c.es.length u):∀i e,c.es[i]? =some e->w4 c i e:=fun i e he=>h i e (dw.1 he).1 he
open Classical in
set_option maxRecDepth 8000 in
theorem Tp(c:Cd)(jO:c.is.length<=100000000)(jN:c.es.length<=100000000):bF aF 34 [c.e] (.bool (decide (pN c))):=by
 generalize aW:decide (pN c)=R;by_cases a1:c.es=[]
 ·have:R=false:=by rw[<-aW];refine ha ?_;rintro⟨⟨e,he,_⟩,_⟩;rw[a1]at he;cases he
  subst this;clear aW;refine bq jh Af BX fun aO=>?_;unfold xe;clear aO;simp;(with_reducible repeat' first|refine aP ?_|simp[a1]);simp[bJ,wC,bp,bz,bo]
 have eS:0<c.es.length:=oB.2 a1;have dS:((c.es.length:Int)==0)=false:=fN.2 Ω;obtain⟨eb,iN⟩:∃e,c.es[0]? =some e:=⟨_,cB eS⟩;have qP:∀h,(c.es[0]'h)=eb:=fun h=>by rw[cB eS]at iN;exact fo iN
 by_cases bB:eb.pos=0;rotate_left
 ·have:R=false:=by rw[<-aW];refine ha ?_;rintro⟨⟨e,he,h⟩,_⟩;rw[iN]at he;cases he;exact bB h
  subst this;have AY:(eb.pos !=0)=true:=by simpa using bB
  clear aW;refine bq jh Af BX fun aO=>?_;unfold xe;clear aO;simp;(with_reducible repeat' first|refine aP ?_|simp[dS,eS,qP,iN,AY]);simp[bJ,wC,bp,bz,bo]
 refine bq jh Af BX fun aO=>?_;unfold xe;clear aO;simp;(with_reducible repeat' first|refine aP ?_|simp[dS,eS,qP,iN,bB]);refine fv (l6 c) c.es.length (w6 c) () (by simp[l6,hW];exact cq) (fun k e aa=>Ω) (fun _ o4 _=>?_) (fun i _ aq ai _=>?_)
 ·have J:=o4.all;simp[l6,hW];(with_reducible repeat' first|refine aP ?_|simp);refine fv (tg c) c.es.length (w7 c) () (by simp[tg,hW];exact cq) (fun k e aa=>Ω) (fun _ hL _=>?_) (fun i _ aq ai _=>?_)
  ·have:R=true:=by rw[<-aW];exact j0 ⟨⟨eb,iN,bB⟩,J,hL.all⟩
   subst this;clear aW o4 hL J;simp[tg,hW];exact bY
  ·obtain⟨e,he,cP⟩:=eM aq;have dK:=pw c i aq;obtain⟨f1,f2⟩:=uZ J he;obtain⟨_,_,_,_,⟨f3,f4⟩,_⟩:=J i e he;obtain⟨N,gR⟩:∃N:Nat,c.fin i=N:=⟨(c.fin i).toNat,Ω⟩;obtain⟨A,aY⟩:∃A:Nat,e.pos=A:=⟨e.pos.toNat,Ω⟩;have gS:=f2;rw[gR]at dK f1 f2;rw[aY]at f1 f3 f4;have cS:bs ((i:Int)+1):=by unfold bs;omega
   have qY:bs ((N:Int)-1):=by unfold bs;omega
   have p7:(0:Int)<=(N:Int)-1:=Ω
   have p8:((N:Int)-1).toNat=N-1:=Ω
   have h1:N-1<c.is.length:=Ω
   obtain⟨y,bG⟩:∃y,c.is[N-1]? =some y:=⟨_,cB h1⟩;have gg:∀h,(c.is[N-1]'h)=y:=fun h=>by rw[cB h1]at bG;exact fo bG
   by_cases yd:y.op=6;rotate_left
   ·have:R=false:=by rw[<-aW];refine ha fun h=>yd ((h.2.2 i e he).1 y ?_);rw[gR,p8];exact bG
    subst this;have Wn:(y.op !=6)=true:=by simpa using yd
    clear aW ai o4 J;simp[tg,hW,aq,cP];exact bY
   simp[tg,hW,aq,cP];(with_reducible repeat' first|refine aP ?_|refine aC dK ?_|refine aD dK ?_|simp[aq,cP,qY,p7,p8,h1,gg,yd,aY]);refine pR (th c i N) (fun k=>N-k) (fun k=>A<=k/\k<=N/\∀(m:Nat) x,A<=m->m<k->c.is[m]? =some x->ua c e N m x) A (by simp[th,hW];exact cq) ⟨c7 _,Ω,fun m x I J=>Ω⟩ ?_;rintro k ⟨gy,jw,nZ⟩ _;rcases Nat.eq_or_lt_of_le jw with rfl|hk4
   ·have iY:w4 c i e:=⟨fun z dS=>by rw[gR,p8,bG]at dS;cases dS;exact yd,fun m x I ak ab=>by rw[gR]at ak⊢;exact nZ m x Ω Ω ab⟩;have gK:w7 c (i+1) ():=fun m f hm av=>by
     rcases ko m i with h|h
     ·exact ai m f h av
     ·obtain rfl:m=i:=Ω
      rw[he]at av;cases av;exact iY
    clear aW ai o4 J nZ iY;simp[th,hW];(with_reducible repeat' first|refine aP ?_|simp[cS]);refine cj.rng () aq gK (by simp only[tg,hW];exact cq)
   ·have dC:k<c.is.length:=Ω
    obtain⟨x,ab⟩:∃x,c.is[k]? =some x:=⟨_,cB dC⟩;have cQ:=TG c k i ab he jO gS Ω Ω;rw[gR]at cQ;have fh:bs ((k:Int)+1):=by unfold bs;omega
    cases af:hq c e N k x
    ·have:R=false:=by rw[<-aW];refine ha fun h=>?_;have ak:=(h.2.2 i e he).2 k x Ω (by rw[gR];omega) ab;rw[gR,<-GV,af]at ak;cases ak
     subst this;rw[af]at cQ;clear aW ai o4 J nZ;simp[th,hW];exact bY
    ·rw[af]at cQ;have lK:∀(m:Nat) z,A<=m->m<k+1->c.is[m]? =some z->ua c e N m z:=fun m z I ak dS=>by
      rcases ko m k with h|h
      ·exact nZ m z I h dS
      ·obtain rfl:m=k:=Ω
       rw[ab]at dS;cases dS;exact(GV _ _ _ _ _).1 af
     clear aW ai o4 J nZ;simp[th,hW];(with_reducible repeat' first|refine aP ?_|refine aC cQ ?_|refine aD cQ ?_|simp[hk4,fh]);refine cj.whl (k+1) Ω ⟨Ω,Ω,lK⟩ (by simp only[th,hW];exact cq)
 ·obtain⟨e,he,cP⟩:=eM aq;have dj:=Jy e.name;have hi:=JB c e.name;have kP:bs ((c.es.length:Int)-1):=by unfold bs;omega
  have cS:bs ((i:Int)+1):=by unfold bs;omega
  have AB:i=0\/0<i/\∃p,c.es[i-1]? =some p:=by
   rcases Nat.eq_zero_or_pos i with h|h
   ·exact .inl h
   ·exact .inr ⟨h,_,cB Ω⟩
  by_cases dB:rK c i e
  ·have gK:w6 c (i+1) ():=fun k f aa av=>by
    rcases ko k i with h|h
    ·exact ai k f h av
    ·obtain rfl:k=i:=Ω
     rw[he]at av;cases av;exact dB
   obtain⟨bQ,a2,⟨a3,a4⟩,⟨a5,Kc⟩,⟨Uu,Uv⟩,a9⟩:=dB;have fJ:¬e.ar<0:=Ω
   have HB:¬4<e.ar:=Ω
   have HC:¬e.vars<e.ar:=Ω
   have n6:¬100000<e.vars:=Ω
   have yI:¬e.pos<0:=Ω
   have yJ:¬(c.is.length:Int)<=e.pos:=Ω
   clear aW ai iN qP bB;by_cases mn:i+1=c.es.length
   ·have dy:((i:Int)==(c.es.length:Int)-1)=true:=by simp;omega
    obtain⟨kR,F7⟩:=bQ mn;have HD:¬e.vars<0:=Ω
    rcases AB with ng|⟨ng,p,mq⟩
    ·have aT:¬0<i:=Ω
     simp[l6,hW,aq,cP];(with_reducible repeat' first|refine aP ?_|simp[kP,dy,kR,F7,HD,n6,yI,yJ,aT,cS,aq,cP]);refine cj.rng () aq gK (by simp only[l6,hW];exact cq)
    ·have fF:i-1<c.es.length:=Ω
     have vO:∀h,(c.es[i-1]'h)=p:=fun h=>by rw[cB fF]at mq;exact fo mq
     have wj:¬e.pos<=p.pos:=by have:=a9 p Ω mq;omega
     have aT:0<i:=ng;have qT:bs ((i:Int)-1):=by unfold bs;omega
     have vI:(0:Int)<=(i:Int)-1:=Ω
     have vJ:((i:Int)-1).toNat=i-1:=Ω
     simp[l6,hW,aq,cP];(with_reducible repeat' first|refine aP ?_|simp[kP,dy,kR,F7,HD,n6,yI,yJ,wj,aT,cS,aq,cP,fF,vO,qT,vI,vJ,mq]);refine cj.rng () aq gK (by simp only[l6,hW];exact cq)
   ·have dy:((i:Int)==(c.es.length:Int)-1)=false:=fN.2 Ω;obtain⟨A0,qQ⟩:=a2 mn;rw[A0]at dj;rw[qQ]at hi;rcases AB with ng|⟨ng,p,mq⟩
    ·have aT:¬0<i:=Ω
     simp[l6,hW,aq,cP];(with_reducible repeat' first|refine aP ?_|refine aC dj ?_|refine aD dj ?_|refine aC hi ?_|refine aD hi ?_|simp[kP,dy,fJ,HB,HC,n6,yI,yJ,aT,cS,aq,cP]);refine cj.rng () aq gK (by simp only[l6,hW];exact cq)
    ·have fF:i-1<c.es.length:=Ω
     have vO:∀h,(c.es[i-1]'h)=p:=fun h=>by rw[cB fF]at mq;exact fo mq
     have wj:¬e.pos<=p.pos:=by have:=a9 p Ω mq;omega
     have aT:0<i:=ng;have qT:bs ((i:Int)-1):=by unfold bs;omega
     have vI:(0:Int)<=(i:Int)-1:=Ω
     have vJ:((i:Int)-1).toNat=i-1:=Ω
     simp[l6,hW,aq,cP];(with_reducible repeat' first|refine aP ?_|refine aC dj ?_|refine aD dj ?_|refine aC hi ?_|refine aD hi ?_|simp[kP,dy,fJ,HB,HC,n6,yI,yJ,wj,aT,cS,aq,cP,fF,vO,qT,vI,vJ,mq]);refine cj.rng () aq gK (by simp only[l6,hW];exact cq)
  ·have:R=false:=by rw[<-aW];exact ha fun h=>dB (h.2.1 i e he)
   subst this;clear aW ai iN qP bB;have F1:¬((i+1=c.es.length->e.name=[]/\e.ar=0)/\(i+1≠c.es.length->h4 e.name=true/\hc c.es e.name=i)/\(0<=e.ar/\e.ar<=4)/\(e.ar<=e.vars/\e.vars<=100000)/\(0<=e.pos/\e.pos<c.is.length)/\∀p,0<i->c.es[i-1]? =some p->p.pos<e.pos):=dB;clear dB;generalize hc c.es e.name=m at hi F1;generalize h4 e.name=ot at dj F1;have dy:((i:Int)==(c.es.length:Int)-1)=decide (i+1=c.es.length):=by
    by_cases h:i+1=c.es.length
    ·rw[j0 h];simp;omega
    ·rw[ha h];exact fN.2 Ω
   rcases AB with ng|⟨ng,p,mq⟩
   ·have aT:¬0<i:=Ω
    simp[l6,hW,aq,cP];((with_reducible repeat' first|refine aP ?_|refine aC dj ?_|refine aD dj ?_|refine aC hi ?_|refine aD hi ?_|simp[kP,dy,aT,cS,aq,cP]|((first|apply b7|apply b9|apply b8)<;>intro h<;>try simp at h))<;>(try exact cn));all_goals first|(simp[bJ,wC,bp,bz,bo];done)|(exfalso;clear dj hi;grind)
   ·have fF:i-1<c.es.length:=Ω
    have vO:∀h,(c.es[i-1]'h)=p:=fun h=>by rw[cB fF]at mq;exact fo mq
    have qT:bs ((i:Int)-1):=by unfold bs;omega
    have vI:(0:Int)<=(i:Int)-1:=Ω
    have vJ:((i:Int)-1).toNat=i-1:=Ω
    simp[l6,hW,aq,cP];((with_reducible repeat' first|refine aP ?_|refine aC dj ?_|refine aD dj ?_|refine aC hi ?_|refine aD hi ?_|simp[kP,dy,ng,cS,aq,cP,fF,vO,qT,vI,vJ,mq]|((first|apply b7|apply b9|apply b8)<;>intro h<;>try simp at h))<;>(try exact cn));all_goals first|(simp[bJ,wC,bp,bz,bo];done)|(exfalso;clear dj hi;grind)
theorem lu.bd{P:bM}{nw:List Nat}{n:Nat}{args:List ae}{st:a6}{d:bf Nat}{K:a6->Prop}{o:bf (List bt)}{r:ae}{e2:List bt}(av:dP P n args (a8 o) fun fK aE=>fK=r/\aE=az e2)(af:∀k cs,Pv.look k (a8 o).b=some cs->Pv.look k st.b=some cs)(he:∀k p,Pv.look k (a8 o).e=some p->Pv.look k st.e=some p)
  (aa:aB (aK (a8 o)) args) (aS:o=none->862∈nw/\Pv.look (.obj 862) st.b=none/\Pv.look (.obj 862) st.e=none) (h:K ⟨eD d r st.t,ch (a8 o).b st.b++(az e2).b,ch (a8 o).e st.e++(az e2).e,st.n,st.o⟩):lu P false nw n args st d K:=by
 cases o with
 |some l=>exact lu.ob av (hA l) (hA e2) (Dh l e2) af he aa h
 |none=>
  obtain⟨n3,gL,AU⟩:=aS rfl;refine .inr ⟨a7,az e2,r,some (.obj 862),fun k cs aQ=>⟨af k cs aQ,.inl (by show(Pv.look k a7.b).isSome=true;rw[show Pv.look k a7.b=some cs from aQ];rfl),rJ.kb k cs aQ⟩,fun k o ah=>⟨he k o ah,.inr (by show(Pv.look k a7.e).isSome=true;rw[show Pv.look k a7.e=some o from ah];rfl),rJ.ke k o ah⟩,rJ.obj,(hA e2).obj,⟨fun k aa=>.inl ?_,fun k aa=>?_,fun k aa=>?_,fun k aa=>?_,fun k aa=>?_⟩,aa,av,fun e=>(by cases e),h⟩
  ·simp only[az,Pv.look]at aa;split at aa
   ·rename_i e;subst e;simp[a7,Pv.look]
   ·cases aa
  ·simp only[az,Pv.look]at aa;split at aa
   ·rename_i e;subst e;exact .inr rfl
   ·cases aa
  ·simp only[a7,Pv.look]at aa;split at aa
   ·rename_i e;subst e;simp[az,Pv.look]
   ·cases aa
  ·simp[a7,Pv.look]at aa
  ·simp only[dt]at aa;subst aa;exact⟨⟨862,n3,rfl⟩,gL,AU,.inr (by simp[az,Pv.look])⟩
theorem Nk(c:Cd){m n:Nat}(h:m<=n):(kM c m).length<=(kM c n).length:=by
 induction n with
 |zero=>rw[show m=0 by omega];exact c7 _
 |succ n bb=>
  rcases Nat.eq_or_lt_of_le h with rfl|h
  ·exact c7 _
  ·have:=bb Ω;simp only[kM,dh];omega
theorem Hs(c:Cd)(a:Nat){m n:Nat}(bU:a<=m)(h:m<=n):(hj c a m).length<=(hj c a n).length:=by
 induction n with
 |zero=>rw[show m=0 by omega];exact c7 _
 |succ n bb=>
  rcases Nat.eq_or_lt_of_le h with rfl|h
  ·exact c7 _
  ·have:=bb Ω;rw[jT c (by omega:a<=n),dh];omega
def fp(c:Cd):List (aw×List ae):=[(.loc 0,[.slice 7 .no (c.is.map Ix.e),.slice 4 .no (c.es.map Ey.e)])]
def sI:bf (List bt)->List aw
 |none=>[.obj 861]
 |some _=>[.obj 861,.obj 862]
def rN(c:Cd)(i:Nat)(s:bf (List bt)):a6:=⟨[(1,.ptr (.loc 0) 0),(3,aI),(15,.slice 4 .no (c.es.map Ey.e)),(16,.int .i64 c.es.length),(17,.int .i64 i)],(a8 s).b++fp c,(a8 s).e,1,sI s⟩
def fZ(c:Cd)(i:Nat)(x:Nat×List bt):a6:=⟨[(1,.ptr (.loc 0) 0),(3,aI),(4,.int .i64 i),(6,.int .i64 x.1),(15,.slice 4 .no (c.es.map Ey.e)),(16,.int .i64 c.es.length),(17,.int .i64 i)],(az x.2).b++fp c,(az x.2).e,2,[.obj 861,.obj 862]⟩
open Classical in
set_option maxRecDepth 8000 in
theorem Tr(c:Cd)(jO:c.is.length<=100000000)(jN:c.es.length<=100000000)(hw:∀x∈c.is,x.g.w<=100000000)(aA:pN c->(oV c).length<=aX):bF aF 13 [c.e] (.str (if pN c then oV c else [])):=by
 have lQ:=Tp c jO jN;by_cases aQ:pN c;rotate_left
 ·rw[bu aQ];rw[ha aQ]at lQ;clear aA;refine bq jh Fg HL fun aO=>?_;unfold zB;clear aO;exact bY
 rw[if_pos aQ];rw[j0 aQ]at lQ;replace aA:=aA aQ;obtain⟨⟨eb,iN,GA⟩,J,ak⟩:=aQ;have eS:=(dw.1 iN).1;refine bq jh Fg HL fun aO=>?_;unfold zB;clear aO;simp;(with_reducible repeat' first|refine aP ?_|refine aC lQ ?_|refine aD lQ ?_|simp);refine fv (rN c) c.es.length (fun i s=>s.getD []=kM c i/\(s=none↔i=0)) none (by simp[rN,fp,sI,a8,a7,aI];exact cq) ⟨rfl,Ψ⟩ (fun s ai _=>?_) (fun i s aq ai _=>?_)
 ·obtain⟨o4,hL⟩:=ai;obtain⟨l,rfl⟩:∃l,s=some l:=by
   cases s with
   |none=>have:=hL.1 rfl;omega
   |some l=>exact⟨l,rfl⟩
  have n1:l=oV c:=o4;have dI:oV c≠[]:=by intro h;obtain⟨n,aS⟩:∃n,c.es.length=n+1:=⟨c.es.length-1,Ω⟩;obtain⟨e,he⟩:∃e,c.es[n]? =some e:=⟨_,cB Ω⟩;rw[oV,aS,kM,he]at h;simp[hJ]at h
  subst n1;clear o4 hL;simp[rN,fp,sI,a8,az,aI];(with_reducible repeat' first|refine aP ?_|simp);refine HH (oV c) dI (by simp[aI,Pv.look]) (by simp[Pv.look]) ?_;simp;simp[bJ,Ia,bp,bz,bo]
 obtain⟨e,he,cP⟩:=eM aq;have cS:bs ((i:Int)+1):=by unfold bs;omega
 have dj:=pw c i aq;obtain⟨f1,f2⟩:=uZ J he;obtain⟨_,_,g1,_,⟨f3,f4⟩,_⟩:=J i e he;have iY:=(ak i e he).2;have hle:=Nk c (m:=i+1) (n:=c.es.length) aq;have hZ:kM c (i+1)=kM c i++(hJ e++hj c e.pos.toNat (c.fin i).toNat):=by rw[kM,he]
 obtain⟨N,gR⟩:∃N:Nat,c.fin i=N:=⟨(c.fin i).toNat,Ω⟩;obtain⟨A,aY⟩:∃A:Nat,e.pos=A:=⟨e.pos.toNat,Ω⟩;rw[gR]at dj f1 f2 iY;rw[aY]at f1 f3 f4 iY;rw[gR,aY,Int.toNat_natCast,Int.toNat_natCast]at hZ;rw[hZ,<-ai.1]at hle;rw[<-ai.1]at hZ;have Wg:(s.getD []).length+((hJ e).length+(hj c A N).length)<=aX:=by simp only[dh]at hle;unfold oV at aA;omega
 have fq:=mN e.ar (by unfold bs;omega);have tV:(s.getD []).length+(hJ e).length<=aX:=Ω
 have yr:=fj s (hJ e) (fun _=>by simp[hJ]) (by simp only[dh];exact tV);have ck:e.name.length+(1+((br e.ar).length+2))<=aX:=by simp[hJ]at tV;omega
 have bK:e.name.length+1<=aX:=Ω
 have b6:e.name.length+1+(br e.ar).length<=aX:=Ω
 have cH:e.name.length+1+(br e.ar).length+2<=aX:=Ω
 have hM:kM c (i+1)=s.getD []++hJ e++hj c A N:=by rw[hZ,List.append_assoc]
 clear hZ hle tV ck iN;generalize xP:s.getD []++hJ e=P at yr hM;have V0:P.length+(hj c A N).length<=aX:=by rw[<-xP,dh];omega
 clear xP ai aA J ak;simp only[hJ,oA,List.nil_append,List.append_assoc]at yr;cases s with
 |none=>
  simp[rN,fp,sI,a8,a7,az,aI,aq,cP];(with_reducible repeat' first|refine aP ?_|refine aC fq ?_|refine aD fq ?_|simp[aq,cP,bK,b6,cH]);refine lu.bd (o:=none) (yr) (by simp only[a8,a7,az,aI];exact bk) (by simp only[a8,a7,az,aI];exact bk) (by simp[aK,Pv.look,a8,a7,az,aI,aB,aH]) (by simp[Pv.look]) ?_;simp[ch,a8,a7,az,aI];(with_reducible repeat' first|refine aP ?_|simp[aY]);refine pR (fZ c i) (fun x=>N-x.1) (fun x=>A<=x.1/\x.1<=N/\x.2=P++hj c A x.1) (A,P) (by simp[fZ,fp,az,aI];exact⟨by simp[fresh,aB,aH,bV,aK,Pv.look,cT],dW (by simp[fresh,aB,aH,bV,aK,Pv.look,cT]),dY (by simp[fresh,aB,aH,dJ,aK,Pv.look,cT]),Ψ⟩) ⟨c7 _,by show A<=N;omega,by simp[By]⟩ ?_;rintro⟨k,acc⟩ ⟨gy,jw,fe⟩ _;simp only at gy jw fe;rcases Nat.eq_or_lt_of_le jw with rfl|hk4
  ·have gK:(some acc).getD []=kM c (i+1)/\(some acc=none↔i+1=0):=⟨by rw[hM];exact fe,Ψ⟩;clear fe hM;simp[fZ,fp,az,aI];((with_reducible repeat' first|refine aP ?_|refine aC dj ?_|refine aD dj ?_|simp[cS]|((first|apply b7|apply b9|apply b8)<;>intro h<;>try simp at h))<;>(try exact cn));refine cj.rng (some acc) aq gK (by simp[rN,fp,sI,a8,az,aI];exact⟨by simp[fresh,aB,aH,bV,aK,Pv.look,cT],dW (by simp[fresh,aB,aH,bV,aK,Pv.look,cT]),dY (by simp[fresh,aB,aH,dJ,aK,Pv.look,cT]),Ψ⟩)
  have dC:k<c.is.length:=Ω
  obtain⟨x,ab,bL⟩:=eM dC;have fh:bs ((k:Int)+1):=by unfold bs;omega
  have c8:=mN (k:Int) (by unfold bs;omega);have ij:=Hs c A (m:=k+1) (n:=N) Ω Ω;rw[jT c gy,ab]at ij;simp only[dh]at ij;have jt:acc.length+(eT k x).length<=aX:=by rw[fe,dh];omega
  have e4:=jt;obtain⟨bH,bR,ea,ic,jl,ir,lB,pK,Kj,Kh⟩:=iY k x Ω Ω ab;rcases(by omega:x.op=0\/x.op=1\/x.op=2\/x.op=3\/x.op=4\/x.op=5\/x.op=6)with h|h|h|h|h|h|h;all_goals simp[eT,hC,h]at jt
  ·have al:x.g.shape=true:=by have:=(bR h).2.2.1;unfold Gm.fits at this;rw[bE]at this;exact this.1
   have cc:=zo x.g.sz x.g (c7 _) al (hw x (e9 ab));have cC:eT k x=br (k:Int)++(32::114::101::113::117::105::114::101::32::(c6 x.g++[10])):=by simp[eT,hC,h]
   rw[cC]at e4;have kw:=fj (some acc) (br (k:Int)++(32::114::101::113::117::105::114::101::32::(c6 x.g++[10]))) Ψ (by rw[dh];exact e4);have aS:acc++(br (k:Int)++(32::114::101::113::117::105::114::101::32::(c6 x.g++[10])))=P++hj c A (k+1):=by rw[jT c gy,ab,fe,<-cC];simp
   clear fe hM e4 cC ij iY;simp[fZ,fp,az,aI];(with_reducible repeat' first|refine aP ?_|refine aC dj ?_|refine aD dj ?_|refine aC c8 ?_|refine aD c8 ?_|refine aC cc ?_|refine aD cc ?_|simp[hk4,dC,bL,h,fh,h]);refine cL.bd (o:=_) (kw) (by simp only[a8,a7,az,aI];exact bk) (by simp only[a8,a7,az,aI];exact bk) (by simp[aK,Pv.look,a8,a7,az,aI,aB,aH]) Ψ ?_;simp[ch,a8,a7,az,aI];((with_reducible repeat' first|refine aP ?_|simp|((first|apply b7|apply b9|apply b8)<;>intro h<;>try simp at h))<;>(try exact cn));refine cj.whl (k+1,acc++(br (k:Int)++(32::114::101::113::117::105::114::101::32::(c6 x.g++[10])))) (by show N-(k+1)<N-k;omega) ⟨by show A<=k+1;omega,by show k+1<=N;omega,aS⟩ (by simp[fZ,fp,az,aI];exact⟨by simp[fresh,aB,aH,bV,aK,Pv.look,cT],dW (by simp[fresh,aB,aH,bV,aK,Pv.look,cT]),dY (by simp[fresh,aB,aH,dJ,aK,Pv.look,cT]),Ψ⟩)
  ·have b1:=mN x.a (by have:=(ic h).1;unfold bs;omega);have dp:=mN x.b (by have:=(ic h).2.1;unfold bs;omega);have cC:eT k x=br (k:Int)++(32::116::114::121::32::(br x.a++32::(br x.b++[10]))):=by simp[eT,hC,h]
   rw[cC]at e4;have kw:=fj (some acc) (br (k:Int)++(32::116::114::121::32::(br x.a++32::(br x.b++[10])))) Ψ (by rw[dh];exact e4);have aS:acc++(br (k:Int)++(32::116::114::121::32::(br x.a++32::(br x.b++[10]))))=P++hj c A (k+1):=by rw[jT c gy,ab,fe,<-cC];simp
   clear fe hM e4 cC ij iY;simp[fZ,fp,az,aI];((with_reducible repeat' first|refine aP ?_|refine aC dj ?_|refine aD dj ?_|refine aC c8 ?_|refine aD c8 ?_|refine aC b1 ?_|refine aD b1 ?_|refine aC dp ?_|refine aD dp ?_|simp[hk4,dC,bL,h,fh,h]|((first|apply b7|apply b9|apply b8)<;>intro h<;>try simp at h))<;>(try exact cn));refine cL.bd (o:=_) (kw) (by simp only[a8,a7,az,aI];exact bk) (by simp only[a8,a7,az,aI];exact bk) (by simp[aK,Pv.look,a8,a7,az,aI,aB,aH]) Ψ ?_;simp[ch,a8,a7,az,aI];((with_reducible repeat' first|refine aP ?_|simp|((first|apply b7|apply b9|apply b8)<;>intro h<;>try simp at h))<;>(try exact cn));refine cj.whl (k+1,acc++(br (k:Int)++(32::116::114::121::32::(br x.a++32::(br x.b++[10]))))) (by show N-(k+1)<N-k;omega) ⟨by show A<=k+1;omega,by show k+1<=N;omega,aS⟩ (by simp[fZ,fp,az,aI];exact⟨by simp[fresh,aB,aH,bV,aK,Pv.look,cT],dW (by simp[fresh,aB,aH,bV,aK,Pv.look,cT]),dY (by simp[fresh,aB,aH,dJ,aK,Pv.look,cT]),Ψ⟩)
  ·have dp:=mN x.b (by have:=(jl h).2;unfold bs;omega);have cC:eT k x=br (k:Int)++(32::112::105::99::107::32::(br x.b++[10])):=by simp[eT,hC,h]
   rw[cC]at e4;have kw:=fj (some acc) (br (k:Int)++(32::112::105::99::107::32::(br x.b++[10]))) Ψ (by rw[dh];exact e4);have aS:acc++(br (k:Int)++(32::112::105::99::107::32::(br x.b++[10])))=P++hj c A (k+1):=by rw[jT c gy,ab,fe,<-cC];simp
   clear fe hM e4 cC ij iY;simp[fZ,fp,az,aI];(with_reducible repeat' first|refine aP ?_|refine aC dj ?_|refine aD dj ?_|refine aC c8 ?_|refine aD c8 ?_|refine aC dp ?_|refine aD dp ?_|simp[hk4,dC,bL,h,fh,h]);refine cL.bd (o:=_) (kw) (by simp only[a8,a7,az,aI];exact bk) (by simp only[a8,a7,az,aI];exact bk) (by simp[aK,Pv.look,a8,a7,az,aI,aB,aH]) Ψ ?_;simp[ch,a8,a7,az,aI];((with_reducible repeat' first|refine aP ?_|simp|((first|apply b7|apply b9|apply b8)<;>intro h<;>try simp at h))<;>(try exact cn));refine cj.whl (k+1,acc++(br (k:Int)++(32::112::105::99::107::32::(br x.b++[10])))) (by show N-(k+1)<N-k;omega) ⟨by show A<=k+1;omega,by show k+1<=N;omega,aS⟩ (by simp[fZ,fp,az,aI];exact⟨by simp[fresh,aB,aH,bV,aK,Pv.look,cT],dW (by simp[fresh,aB,aH,bV,aK,Pv.look,cT]),dY (by simp[fresh,aB,aH,dJ,aK,Pv.look,cT]),Ψ⟩)
  ·have b1:=mN x.a (by have:=(ir h).1;unfold bs;omega);have cC:eT k x=br (k:Int)++(32::106::117::109::112::32::(br x.a++[10])):=by simp[eT,hC,h]
   rw[cC]at e4;have kw:=fj (some acc) (br (k:Int)++(32::106::117::109::112::32::(br x.a++[10]))) Ψ (by rw[dh];exact e4);have aS:acc++(br (k:Int)++(32::106::117::109::112::32::(br x.a++[10])))=P++hj c A (k+1):=by rw[jT c gy,ab,fe,<-cC];simp
   clear fe hM e4 cC ij iY;simp[fZ,fp,az,aI];(with_reducible repeat' first|refine aP ?_|refine aC dj ?_|refine aD dj ?_|refine aC c8 ?_|refine aD c8 ?_|refine aC b1 ?_|refine aD b1 ?_|simp[hk4,dC,bL,h,fh,h]);refine cL.bd (o:=_) (kw) (by simp only[a8,a7,az,aI];exact bk) (by simp only[a8,a7,az,aI];exact bk) (by simp[aK,Pv.look,a8,a7,az,aI,aB,aH]) Ψ ?_;simp[ch,a8,a7,az,aI];((with_reducible repeat' first|refine aP ?_|simp|((first|apply b7|apply b9|apply b8)<;>intro h<;>try simp at h))<;>(try exact cn));refine cj.whl (k+1,acc++(br (k:Int)++(32::106::117::109::112::32::(br x.a++[10])))) (by show N-(k+1)<N-k;omega) ⟨by show A<=k+1;omega,by show k+1<=N;omega,aS⟩ (by simp[fZ,fp,az,aI];exact⟨by simp[fresh,aB,aH,bV,aK,Pv.look,cT],dW (by simp[fresh,aB,aH,bV,aK,Pv.look,cT]),dY (by simp[fresh,aB,aH,dJ,aK,Pv.look,cT]),Ψ⟩)
  ·have cC:eT k x=br (k:Int)++[32,102,97,105,108,10]:=by simp[eT,hC,h]
   rw[cC]at e4;have kw:=fj (some acc) (br (k:Int)++[32,102,97,105,108,10]) Ψ (by rw[dh];exact e4);have aS:acc++(br (k:Int)++[32,102,97,105,108,10])=P++hj c A (k+1):=by rw[jT c gy,ab,fe,<-cC];simp
   clear fe hM e4 cC ij iY;simp[fZ,fp,az,aI];(with_reducible repeat' first|refine aP ?_|refine aC dj ?_|refine aD dj ?_|refine aC c8 ?_|refine aD c8 ?_|refine aC c8 ?_|refine aD c8 ?_|simp[hk4,dC,bL,h,fh,h]);refine cL.bd (o:=_) (kw) (by simp only[a8,a7,az,aI];exact bk) (by simp only[a8,a7,az,aI];exact bk) (by simp[aK,Pv.look,a8,a7,az,aI,aB,aH]) Ψ ?_;simp[ch,a8,a7,az,aI];((with_reducible repeat' first|refine aP ?_|simp|((first|apply b7|apply b9|apply b8)<;>intro h<;>try simp at h))<;>(try exact cn));refine cj.whl (k+1,acc++(br (k:Int)++[32,102,97,105,108,10])) (by show N-(k+1)<N-k;omega) ⟨by show A<=k+1;omega,by show k+1<=N;omega,aS⟩ (by simp[fZ,fp,az,aI];exact⟨by simp[fresh,aB,aH,bV,aK,Pv.look,cT],dW (by simp[fresh,aB,aH,bV,aK,Pv.look,cT]),dY (by simp[fresh,aB,aH,dJ,aK,Pv.look,cT]),Ψ⟩)
  ·have al:x.g.shape=true:=by have:=(ea h).2.2.1;unfold Gm.fits at this;rw[bE]at this;exact this.1
   have cc:=zo x.g.sz x.g (c7 _) al (hw x (e9 ab));have cC:eT k x=br (k:Int)++(32::99::97::108::108::32::(c6 x.g++[10])):=by simp[eT,hC,h]
   rw[cC]at e4;have kw:=fj (some acc) (br (k:Int)++(32::99::97::108::108::32::(c6 x.g++[10]))) Ψ (by rw[dh];exact e4);have aS:acc++(br (k:Int)++(32::99::97::108::108::32::(c6 x.g++[10])))=P++hj c A (k+1):=by rw[jT c gy,ab,fe,<-cC];simp
   clear fe hM e4 cC ij iY;simp[fZ,fp,az,aI];(with_reducible repeat' first|refine aP ?_|refine aC dj ?_|refine aD dj ?_|refine aC c8 ?_|refine aD c8 ?_|refine aC cc ?_|refine aD cc ?_|simp[hk4,dC,bL,h,fh,h]);refine cL.bd (o:=_) (kw) (by simp only[a8,a7,az,aI];exact bk) (by simp only[a8,a7,az,aI];exact bk) (by simp[aK,Pv.look,a8,a7,az,aI,aB,aH]) Ψ ?_;simp[ch,a8,a7,az,aI];((with_reducible repeat' first|refine aP ?_|simp|((first|apply b7|apply b9|apply b8)<;>intro h<;>try simp at h))<;>(try exact cn));refine cj.whl (k+1,acc++(br (k:Int)++(32::99::97::108::108::32::(c6 x.g++[10])))) (by show N-(k+1)<N-k;omega) ⟨by show A<=k+1;omega,by show k+1<=N;omega,aS⟩ (by simp[fZ,fp,az,aI];exact⟨by simp[fresh,aB,aH,bV,aK,Pv.look,cT],dW (by simp[fresh,aB,aH,bV,aK,Pv.look,cT]),dY (by simp[fresh,aB,aH,dJ,aK,Pv.look,cT]),Ψ⟩)
  ·have cC:eT k x=br (k:Int)++[32,114,101,116,117,114,110,10]:=by simp[eT,hC,h]
   rw[cC]at e4;have kw:=fj (some acc) (br (k:Int)++[32,114,101,116,117,114,110,10]) Ψ (by rw[dh];exact e4);have aS:acc++(br (k:Int)++[32,114,101,116,117,114,110,10])=P++hj c A (k+1):=by rw[jT c gy,ab,fe,<-cC];simp
   clear fe hM e4 cC ij iY;simp[fZ,fp,az,aI];(with_reducible repeat' first|refine aP ?_|refine aC dj ?_|refine aD dj ?_|refine aC c8 ?_|refine aD c8 ?_|refine aC c8 ?_|refine aD c8 ?_|simp[hk4,dC,bL,h,fh,h]);refine cL.bd (o:=_) (kw) (by simp only[a8,a7,az,aI];exact bk) (by simp only[a8,a7,az,aI];exact bk) (by simp[aK,Pv.look,a8,a7,az,aI,aB,aH]) Ψ ?_;simp[ch,a8,a7,az,aI];(with_reducible repeat' first|refine aP ?_|simp);refine cj.whl (k+1,acc++(br (k:Int)++[32,114,101,116,117,114,110,10])) (by show N-(k+1)<N-k;omega) ⟨by show A<=k+1;omega,by show k+1<=N;omega,aS⟩ (by simp[fZ,fp,az,aI];exact⟨by simp[fresh,aB,aH,bV,aK,Pv.look,cT],dW (by simp[fresh,aB,aH,bV,aK,Pv.look,cT]),dY (by simp[fresh,aB,aH,dJ,aK,Pv.look,cT]),Ψ⟩)
 |some l=>
  simp[rN,fp,sI,a8,a7,az,aI,aq,cP];(with_reducible repeat' first|refine aP ?_|refine aC fq ?_|refine aD fq ?_|simp[aq,cP,bK,b6,cH]);refine lu.bd (o:=some l) (yr) (by simp only[a8,a7,az,aI];exact bk) (by simp only[a8,a7,az,aI];exact bk) (by simp[aK,Pv.look,a8,a7,az,aI,aB,aH]) (by simp[Pv.look]) ?_;simp[ch,a8,a7,az,aI];(with_reducible repeat' first|refine aP ?_|simp[aY]);refine pR (fZ c i) (fun x=>N-x.1) (fun x=>A<=x.1/\x.1<=N/\x.2=P++hj c A x.1) (A,P) (by simp[fZ,fp,az,aI];exact⟨by simp[fresh,aB,aH,bV,aK,Pv.look,cT],dW (by simp[fresh,aB,aH,bV,aK,Pv.look,cT]),dY (by simp[fresh,aB,aH,dJ,aK,Pv.look,cT]),Ψ⟩) ⟨c7 _,by show A<=N;omega,by simp[By]⟩ ?_;rintro⟨k,acc⟩ ⟨gy,jw,fe⟩ _;simp only at gy jw fe;rcases Nat.eq_or_lt_of_le jw with rfl|hk4
  ·have gK:(some acc).getD []=kM c (i+1)/\(some acc=none↔i+1=0):=⟨by rw[hM];exact fe,Ψ⟩;clear fe hM;simp[fZ,fp,az,aI];((with_reducible repeat' first|refine aP ?_|refine aC dj ?_|refine aD dj ?_|simp[cS]|((first|apply b7|apply b9|apply b8)<;>intro h<;>try simp at h))<;>(try exact cn));refine cj.rng (some acc) aq gK (by simp[rN,fp,sI,a8,az,aI];exact⟨by simp[fresh,aB,aH,bV,aK,Pv.look,cT],dW (by simp[fresh,aB,aH,bV,aK,Pv.look,cT]),dY (by simp[fresh,aB,aH,dJ,aK,Pv.look,cT]),Ψ⟩)
  have dC:k<c.is.length:=Ω
  obtain⟨x,ab,bL⟩:=eM dC;have fh:bs ((k:Int)+1):=by unfold bs;omega
  have c8:=mN (k:Int) (by unfold bs;omega);have ij:=Hs c A (m:=k+1) (n:=N) Ω Ω;rw[jT c gy,ab]at ij;simp only[dh]at ij;have jt:acc.length+(eT k x).length<=aX:=by rw[fe,dh];omega
  have e4:=jt;obtain⟨bH,bR,ea,ic,jl,ir,lB,pK,Kj,Kh⟩:=iY k x Ω Ω ab;rcases(by omega:x.op=0\/x.op=1\/x.op=2\/x.op=3\/x.op=4\/x.op=5\/x.op=6)with h|h|h|h|h|h|h;all_goals simp[eT,hC,h]at jt
  ·have al:x.g.shape=true:=by have:=(bR h).2.2.1;unfold Gm.fits at this;rw[bE]at this;exact this.1
   have cc:=zo x.g.sz x.g (c7 _) al (hw x (e9 ab));have cC:eT k x=br (k:Int)++(32::114::101::113::117::105::114::101::32::(c6 x.g++[10])):=by simp[eT,hC,h]
   rw[cC]at e4;have kw:=fj (some acc) (br (k:Int)++(32::114::101::113::117::105::114::101::32::(c6 x.g++[10]))) Ψ (by rw[dh];exact e4);have aS:acc++(br (k:Int)++(32::114::101::113::117::105::114::101::32::(c6 x.g++[10])))=P++hj c A (k+1):=by rw[jT c gy,ab,fe,<-cC];simp
   clear fe hM e4 cC ij iY;simp[fZ,fp,az,aI];(with_reducible repeat' first|refine aP ?_|refine aC dj ?_|refine aD dj ?_|refine aC c8 ?_|refine aD c8 ?_|refine aC cc ?_|refine aD cc ?_|simp[hk4,dC,bL,h,fh,h]);refine cL.bd (o:=_) (kw) (by simp only[a8,a7,az,aI];exact bk) (by simp only[a8,a7,az,aI];exact bk) (by simp[aK,Pv.look,a8,a7,az,aI,aB,aH]) Ψ ?_;simp[ch,a8,a7,az,aI];((with_reducible repeat' first|refine aP ?_|simp|((first|apply b7|apply b9|apply b8)<;>intro h<;>try simp at h))<;>(try exact cn));refine cj.whl (k+1,acc++(br (k:Int)++(32::114::101::113::117::105::114::101::32::(c6 x.g++[10])))) (by show N-(k+1)<N-k;omega) ⟨by show A<=k+1;omega,by show k+1<=N;omega,aS⟩ (by simp[fZ,fp,az,aI];exact⟨by simp[fresh,aB,aH,bV,aK,Pv.look,cT],dW (by simp[fresh,aB,aH,bV,aK,Pv.look,cT]),dY (by simp[fresh,aB,aH,dJ,aK,Pv.look,cT]),Ψ⟩)
  ·have b1:=mN x.a (by have:=(ic h).1;unfold bs;omega);have dp:=mN x.b (by have:=(ic h).2.1;unfold bs;omega);have cC:eT k x=br (k:Int)++(32::116::114::121::32::(br x.a++32::(br x.b++[10]))):=by simp[eT,hC,h]
   rw[cC]at e4;have kw:=fj (some acc) (br (k:Int)++(32::116::114::121::32::(br x.a++32::(br x.b++[10])))) Ψ (by rw[dh];exact e4);have aS:acc++(br (k:Int)++(32::116::114::121::32::(br x.a++32::(br x.b++[10]))))=P++hj c A (k+1):=by rw[jT c gy,ab,fe,<-cC];simp
   clear fe hM e4 cC ij iY;simp[fZ,fp,az,aI];((with_reducible repeat' first|refine aP ?_|refine aC dj ?_|refine aD dj ?_|refine aC c8 ?_|refine aD c8 ?_|refine aC b1 ?_|refine aD b1 ?_|refine aC dp ?_|refine aD dp ?_|simp[hk4,dC,bL,h,fh,h]|((first|apply b7|apply b9|apply b8)<;>intro h<;>try simp at h))<;>(try exact cn));refine cL.bd (o:=_) (kw) (by simp only[a8,a7,az,aI];exact bk) (by simp only[a8,a7,az,aI];exact bk) (by simp[aK,Pv.look,a8,a7,az,aI,aB,aH]) Ψ ?_;simp[ch,a8,a7,az,aI];((with_reducible repeat' first|refine aP ?_|simp|((first|apply b7|apply b9|apply b8)<;>intro h<;>try simp at h))<;>(try exact cn));refine cj.whl (k+1,acc++(br (k:Int)++(32::116::114::121::32::(br x.a++32::(br x.b++[10]))))) (by show N-(k+1)<N-k;omega) ⟨by show A<=k+1;omega,by show k+1<=N;omega,aS⟩ (by simp[fZ,fp,az,aI];exact⟨by simp[fresh,aB,aH,bV,aK,Pv.look,cT],dW (by simp[fresh,aB,aH,bV,aK,Pv.look,cT]),dY (by simp[fresh,aB,aH,dJ,aK,Pv.look,cT]),Ψ⟩)
  ·have dp:=mN x.b (by have:=(jl h).2;unfold bs;omega);have cC:eT k x=br (k:Int)++(32::112::105::99::107::32::(br x.b++[10])):=by simp[eT,hC,h]
   rw[cC]at e4;have kw:=fj (some acc) (br (k:Int)++(32::112::105::99::107::32::(br x.b++[10]))) Ψ (by rw[dh];exact e4);have aS:acc++(br (k:Int)++(32::112::105::99::107::32::(br x.b++[10])))=P++hj c A (k+1):=by rw[jT c gy,ab,fe,<-cC];simp
   clear fe hM e4 cC ij iY;simp[fZ,fp,az,aI];(with_reducible repeat' first|refine aP ?_|refine aC dj ?_|refine aD dj ?_|refine aC c8 ?_|refine aD c8 ?_|refine aC dp ?_|refine aD dp ?_|simp[hk4,dC,bL,h,fh,h]);refine cL.bd (o:=_) (kw) (by simp only[a8,a7,az,aI];exact bk) (by simp only[a8,a7,az,aI];exact bk) (by simp[aK,Pv.look,a8,a7,az,aI,aB,aH]) Ψ ?_;simp[ch,a8,a7,az,aI];((with_reducible repeat' first|refine aP ?_|simp|((first|apply b7|apply b9|apply b8)<;>intro h<;>try simp at h))<;>(try exact cn));refine cj.whl (k+1,acc++(br (k:Int)++(32::112::105::99::107::32::(br x.b++[10])))) (by show N-(k+1)<N-k;omega) ⟨by show A<=k+1;omega,by show k+1<=N;omega,aS⟩ (by simp[fZ,fp,az,aI];exact⟨by simp[fresh,aB,aH,bV,aK,Pv.look,cT],dW (by simp[fresh,aB,aH,bV,aK,Pv.look,cT]),dY (by simp[fresh,aB,aH,dJ,aK,Pv.look,cT]),Ψ⟩)
  ·have b1:=mN x.a (by have:=(ir h).1;unfold bs;omega);have cC:eT k x=br (k:Int)++(32::106::117::109::112::32::(br x.a++[10])):=by simp[eT,hC,h]
   rw[cC]at e4;have kw:=fj (some acc) (br (k:Int)++(32::106::117::109::112::32::(br x.a++[10]))) Ψ (by rw[dh];exact e4);have aS:acc++(br (k:Int)++(32::106::117::109::112::32::(br x.a++[10])))=P++hj c A (k+1):=by rw[jT c gy,ab,fe,<-cC];simp
   clear fe hM e4 cC ij iY;simp[fZ,fp,az,aI];(with_reducible repeat' first|refine aP ?_|refine aC dj ?_|refine aD dj ?_|refine aC c8 ?_|refine aD c8 ?_|refine aC b1 ?_|refine aD b1 ?_|simp[hk4,dC,bL,h,fh,h]);refine cL.bd (o:=_) (kw) (by simp only[a8,a7,az,aI];exact bk) (by simp only[a8,a7,az,aI];exact bk) (by simp[aK,Pv.look,a8,a7,az,aI,aB,aH]) Ψ ?_;simp[ch,a8,a7,az,aI];((with_reducible repeat' first|refine aP ?_|simp|((first|apply b7|apply b9|apply b8)<;>intro h<;>try simp at h))<;>(try exact cn));refine cj.whl (k+1,acc++(br (k:Int)++(32::106::117::109::112::32::(br x.a++[10])))) (by show N-(k+1)<N-k;omega) ⟨by show A<=k+1;omega,by show k+1<=N;omega,aS⟩ (by simp[fZ,fp,az,aI];exact⟨by simp[fresh,aB,aH,bV,aK,Pv.look,cT],dW (by simp[fresh,aB,aH,bV,aK,Pv.look,cT]),dY (by simp[fresh,aB,aH,dJ,aK,Pv.look,cT]),Ψ⟩)
  ·have cC:eT k x=br (k:Int)++[32,102,97,105,108,10]:=by simp[eT,hC,h]
   rw[cC]at e4;have kw:=fj (some acc) (br (k:Int)++[32,102,97,105,108,10]) Ψ (by rw[dh];exact e4);have aS:acc++(br (k:Int)++[32,102,97,105,108,10])=P++hj c A (k+1):=by rw[jT c gy,ab,fe,<-cC];simp
   clear fe hM e4 cC ij iY;simp[fZ,fp,az,aI];(with_reducible repeat' first|refine aP ?_|refine aC dj ?_|refine aD dj ?_|refine aC c8 ?_|refine aD c8 ?_|refine aC c8 ?_|refine aD c8 ?_|simp[hk4,dC,bL,h,fh,h]);refine cL.bd (o:=_) (kw) (by simp only[a8,a7,az,aI];exact bk) (by simp only[a8,a7,az,aI];exact bk) (by simp[aK,Pv.look,a8,a7,az,aI,aB,aH]) Ψ ?_;simp[ch,a8,a7,az,aI];((with_reducible repeat' first|refine aP ?_|simp|((first|apply b7|apply b9|apply b8)<;>intro h<;>try simp at h))<;>(try exact cn));refine cj.whl (k+1,acc++(br (k:Int)++[32,102,97,105,108,10])) (by show N-(k+1)<N-k;omega) ⟨by show A<=k+1;omega,by show k+1<=N;omega,aS⟩ (by simp[fZ,fp,az,aI];exact⟨by simp[fresh,aB,aH,bV,aK,Pv.look,cT],dW (by simp[fresh,aB,aH,bV,aK,Pv.look,cT]),dY (by simp[fresh,aB,aH,dJ,aK,Pv.look,cT]),Ψ⟩)
  ·have al:x.g.shape=true:=by have:=(ea h).2.2.1;unfold Gm.fits at this;rw[bE]at this;exact this.1
   have cc:=zo x.g.sz x.g (c7 _) al (hw x (e9 ab));have cC:eT k x=br (k:Int)++(32::99::97::108::108::32::(c6 x.g++[10])):=by simp[eT,hC,h]
   rw[cC]at e4;have kw:=fj (some acc) (br (k:Int)++(32::99::97::108::108::32::(c6 x.g++[10]))) Ψ (by rw[dh];exact e4);have aS:acc++(br (k:Int)++(32::99::97::108::108::32::(c6 x.g++[10])))=P++hj c A (k+1):=by rw[jT c gy,ab,fe,<-cC];simp
   clear fe hM e4 cC ij iY;simp[fZ,fp,az,aI];(with_reducible repeat' first|refine aP ?_|refine aC dj ?_|refine aD dj ?_|refine aC c8 ?_|refine aD c8 ?_|refine aC cc ?_|refine aD cc ?_|simp[hk4,dC,bL,h,fh,h]);refine cL.bd (o:=_) (kw) (by simp only[a8,a7,az,aI];exact bk) (by simp only[a8,a7,az,aI];exact bk) (by simp[aK,Pv.look,a8,a7,az,aI,aB,aH]) Ψ ?_;simp[ch,a8,a7,az,aI];((with_reducible repeat' first|refine aP ?_|simp|((first|apply b7|apply b9|apply b8)<;>intro h<;>try simp at h))<;>(try exact cn));refine cj.whl (k+1,acc++(br (k:Int)++(32::99::97::108::108::32::(c6 x.g++[10])))) (by show N-(k+1)<N-k;omega) ⟨by show A<=k+1;omega,by show k+1<=N;omega,aS⟩ (by simp[fZ,fp,az,aI];exact⟨by simp[fresh,aB,aH,bV,aK,Pv.look,cT],dW (by simp[fresh,aB,aH,bV,aK,Pv.look,cT]),dY (by simp[fresh,aB,aH,dJ,aK,Pv.look,cT]),Ψ⟩)
  ·have cC:eT k x=br (k:Int)++[32,114,101,116,117,114,110,10]:=by simp[eT,hC,h]
   rw[cC]at e4;have kw:=fj (some acc) (br (k:Int)++[32,114,101,116,117,114,110,10]) Ψ (by rw[dh];exact e4);have aS:acc++(br (k:Int)++[32,114,101,116,117,114,110,10])=P++hj c A (k+1):=by rw[jT c gy,ab,fe,<-cC];simp
   clear fe hM e4 cC ij iY;simp[fZ,fp,az,aI];(with_reducible repeat' first|refine aP ?_|refine aC dj ?_|refine aD dj ?_|refine aC c8 ?_|refine aD c8 ?_|refine aC c8 ?_|refine aD c8 ?_|simp[hk4,dC,bL,h,fh,h]);refine cL.bd (o:=_) (kw) (by simp only[a8,a7,az,aI];exact bk) (by simp only[a8,a7,az,aI];exact bk) (by simp[aK,Pv.look,a8,a7,az,aI,aB,aH]) Ψ ?_;simp[ch,a8,a7,az,aI];(with_reducible repeat' first|refine aP ?_|simp);refine cj.whl (k+1,acc++(br (k:Int)++[32,114,101,116,117,114,110,10])) (by show N-(k+1)<N-k;omega) ⟨by show A<=k+1;omega,by show k+1<=N;omega,aS⟩ (by simp[fZ,fp,az,aI];exact⟨by simp[fresh,aB,aH,bV,aK,Pv.look,cT],dW (by simp[fresh,aB,aH,bV,aK,Pv.look,cT]),dY (by simp[fresh,aB,aH,dJ,aK,Pv.look,cT]),Ψ⟩)
theorem I1{α:Type}{f:α->Nat}:∀{l:List α} {x:α},x∈l->f x<=(l.map f).sum
 |y::l,x,h=>by
  rcases hT.1 h with rfl|h
  ·simp
  ·have:=I1 (f:=f) h;simp;omega
open Classical in
theorem Tq(r:lv)(hw:r.wf):bF aF 3 [r.e] (.bool true):=by
 have b5:=TX r hw 1048576 Ω Ω;by_cases g:rC r 1048576<0
 ·generalize rC r 1048576=q at b5 g;clear hw;obtain⟨is,es⟩:=r;simp only[lv.e]at b5⊢;have bB:=H3 is [nL es];unfold gH at bB;refine bq fW Fj HO fun aO=>?_;unfold zE;exact bY
 ·obtain⟨c,rfl,I,J,ak,aV⟩:=S3 hw Ω;clear hw;rw[Kw]at b5⊢;have Bg:∀x∈c.is,x.g.w<=100000000:=fun x ab=>by have:=I1 (f:=fun x:Ix=>x.g.w) ab;omega
  have aA:=fun h:l9 c=>Nn h I J ak aV;have cE:=T5 c;have fA:=TU c Ω Ω Bg aA;have h5:=Tr c Ω Ω Bg fun h=>by rw[Fw h];exact aA ((zN c).1 h)
  have bP:(if pN c then oV c else [])=if l9 c then gF c c.is.length else []:=by
   by_cases h:pN c
   ·rw[if_pos h,if_pos ((zN c).1 h),Fw h]
   ·rw[bu h,bu fun bS=>h ((zN c).2 bS)]
  rw[bP]at h5;have lP:=Tv c;generalize rC c.h 1048576=q at b5 g;generalize (if l9 c then gF c c.is.length else [])=T at fA h5;clear bP aA Bg I J ak aV;obtain⟨is,es⟩:=c;simp only[Cd.e]at b5 cE fA h5 lP⊢;refine bq fW Fj HO fun aO=>?_;unfold zE;exact bY
end
section
open Go Go.Pv Go.ChangeShapes Go.WideShapes Go.ChangeAt Go.RowKit Go.Deep
def ma(W:World):aM:=⟨fun b o=> ∃u,W.cell? ⟨b,o,none⟩=some u,fun _=>none,fun _=>none,fun _ _ _=>dz⟩
theorem Ho(W:World)(b:Nat):∀(us:List Value) (off:Nat),(∀i u,us[i]? =some u->W.cell? ⟨b,off+i,none⟩=some u)->ik W (ma W).A b off us
 |[],_,_=>trivial
 |u::us,off,h=>by
  have a1:W.cell? ⟨b,off,none⟩=some u:=by simpa using h 0 u rfl
  exact⟨⟨⟨u,a1⟩,a1⟩,Ho W b us (off+1) fun i dZ hu=>by have:=h (i+1) dZ (by simpa using hu);rwa[show off+(i+1)=off+1+i from by omega]at this⟩
section
variable {H:Type} {enc:eZ×Value->H} {W:World} {spare:Nat->Bool} {held:Bool}
def qm(W:World)(p:ae)(cs:List Value):Prop:= ∃v:Value,v.cells.toList=cs/\aJ W (ma W) p v/\∀c∈cs,c.oneCell'=true
theorem uB{W:World}{bD:List ae}{cs:List Value}(h:bW W (ma W) bD cs):qm W (.agg bD) cs:=by
 refine⟨.agg cs.toArray,by simp[km],by simp only[aJ];exact⟨cs.toArray,rfl,by simpa using h⟩,?_⟩;have:∀(bD:List ae) (cs:List Value),bW W (ma W) bD cs->∀c∈cs,c.oneCell'=true:=by
  intro bD;induction bD with
  |nil=>intro cs h;simp only[bW]at h;subst h;simp
  |cons p bD bb=>
   intro cs h c aQ;simp only[bW]at h;obtain⟨u,us,rfl,I,J⟩:=h;rcases hT.1 aQ with rfl|aQ
   ·exact I.2
   ·exact bb us J c aQ
 exact this bD cs h
def y1(W:World)(p:ae)(v:Value):Prop:=aJ W (ma W) p v/\v.oneCell'=true/\v.cells= #[v]
theorem Ky{W:World}{rO rQ k j:Nat}:W.cell? (((⟨rO,rQ,none⟩:Addr).add k).add j)=W.cell? ⟨rO,rQ+(k+j),none⟩:=by rw[add_add,Addr.add_lit]
theorem wO{α:Type}{t e:eZ}{sz:Nat}(f:α->ae)(Q:α->Prop)(aG:aF.underlying t=some (.slice e))(aQ:aF.cellsOf e=sz)(dR:0<sz){fuel:Nat}
  (jN:∀n cs x,n<fuel->hv enc aF W 0 spare held n e cs=some x->∃a:α,Q a/\qm W (f a) cs)
  {cs:List Value} {x:DataW H×List MemPlace} (h:hv enc aF W 0 spare held fuel t cs=some x):∃l:cV α,l.wf Q/\∃v,cs=[v]/\y1 W (l.e sz f) v:=by
 rcases DataW.trod_slice aG h with⟨rfl,_⟩|⟨a,len,cap,elems,rest,n,rfl,rfl,_,_,aA,hm,hlen,o2,_,_⟩
 ·refine⟨.l [],by simp[cV.wf],_,rfl,?_,rfl,rfl⟩;simp only[cV.e,mS,aJ];exact⟨⟨none,0,rfl,Ψ,⟨by simp[maxLen],by simp[aX]⟩,.inl Ψ⟩,fun e=>(by cases e),fun g e=>(by cases e),fun _ _ e=>(by cases e),fun _ e=>(by cases e)⟩
 by_cases Ol:aX<len
 ·refine⟨.b (some a) len cap,⟨Ol,by unfold maxLen at hm;omega⟩,_,rfl,?_,rfl,rfl⟩;simp only[cV.e,aJ]
 rcases Nat.eq_zero_or_pos len with rfl|eS
 ·refine⟨.l [],by simp[cV.wf],_,rfl,?_,rfl,rfl⟩;simp only[cV.e,mS,aJ];exact⟨⟨some a,cap,rfl,Ψ,⟨hm,by simp[aX]⟩,.inl Ψ⟩,fun e=>(by cases e),fun g e=>(by cases e),fun _ _ e=>(by cases e),fun _ e=>(by cases e)⟩
 rw[aQ]at o2;have jv:∀i,i<len->∃cs',cs'.length=sz/\(∀j,j<sz->W.cell? ((a.add (i*sz)).add j)=cs'[j]?)/\∃b:α,Q b/\qm W (f b) cs':=by intro i aq;have I:=o2 i aq;rw[cB Ω]at I;obtain⟨cs',J,ak⟩:=Option.bind_eq_some_iff.1 I;obtain⟨_,aV,bn⟩:=World.cells?_some J;exact⟨cs',aV,bn,jN n cs' _ Ω ak⟩
 obtain⟨rO,rQ,spot⟩:=a;have Pu:spot=none:=by obtain⟨cs',I,J,_⟩:=jv 0 eS;have ak:=J 0 dR;rw[cB Ω]at ak;simpa[Addr.add]using World.cell?_spot ak
 subst Pu;have KD:∀d,d<=len->∃xs:List α,xs.length=d/\(∀x∈xs,Q x)/\∃us:List Value,us.length=d*sz/\cf W (ma W) sz (xs.map f) us/\∀j u,us[j]? =some u->W.cell? ⟨rO,rQ+((len-d)*sz+j),none⟩=some u:=by
  intro d;induction d with
  |zero=>intro _;exact⟨[],rfl,Ψ,[],Ψ,by simp[cf],Ψ⟩
  |succ d bb=>
   intro bj;obtain⟨xs,aj,aR,us,bm,c1,gE⟩:=bb Ω;obtain⟨cs',cp,c2,b,af,v,v1,v2,v3⟩:=jv (len-(d+1)) Ω;have hmul:(len-d)*sz=(len-(d+1))*sz+sz:=by rw[show len-d=(len-(d+1))+1 from by omega,Nat.succ_mul]
   refine⟨b::xs,by simp[aj],fun x ab=>?_,cs'++us,by rw[dh,cp,bm,Nat.succ_mul];omega,?_,fun j u ai=>?_⟩
   ·rcases hT.1 ab with rfl|ab
    ·exact af
    ·exact aR x ab
   ·simp only[ez,cf];exact⟨v,us,by rw[v1],⟨v2,by rw[<-cp,<-v1];simp,by rw[v1];exact v3⟩,c1⟩
   ·rcases ko j sz with cM|tR
    ·rw[nC Ω]at ai;have:=c2 j cM;rw[Ky]at this;rw[this];exact ai
    ·rw[List.getElem?_append_right Ω,cp]at ai;have:=gE (j-sz) u ai;rwa[show(len-d)*sz+(j-sz)=(len-(d+1))*sz+j from by omega]at this
 obtain⟨xs,aj,aR,us,bm,c1,gE⟩:=KD len (c7 _);refine⟨.l xs,aR,_,rfl,?_,rfl,rfl⟩;simp only[cV.e,aJ];refine⟨⟨some ⟨rO,rQ,none⟩,cap,by rw[kn,aj],by rw[kn,aj];exact aA,⟨hm,by rw[kn,aj];omega⟩,.inr ⟨rO,rQ,us,rfl,Ho W rO us rQ fun i u hu=>?_,c1⟩⟩,fun e=>(by cases e),fun g e=>(by cases e),fun _ _ e=>(by cases e),fun _ e=>(by cases e)⟩;have:=gE i u hu;simpa using this
end
end
section
open Go Go.Pv Go.ChangeShapes Go.WideShapes Go.ChangeAt Go.RowKit Go.Deep
section
variable {H:Type} {enc:eZ×Value->H} {W:World} {spare:Nat->Bool} {held:Bool} {cs:List Value} {x:DataW H×List MemPlace} {fuel:Nat}
theorem xl:aF.cellsOf 3=1:=by kernel_rfl
theorem zQ:aF.cellsOf 9=1:=by kernel_rfl
theorem zR:aF.cellsOf 282=4:=by kernel_rfl
theorem EK:aF.cellsOf 167=1:=by kernel_rfl
theorem qc(h:hv enc aF W 0 spare held fuel 3 cs=some x):∃(n:Int) (v:Value),cs=[v]/\y1 W (.int .i64 n) v:=by obtain⟨n,rfl,_,_⟩:=DataW.trod_int Tryz.underlying3 h;exact⟨n,_,rfl,by simp only[aJ],rfl,rfl⟩
theorem CG(h:hv enc aF W 0 spare held fuel 9 cs=some x):∃(s:eg) (v:Value),s.wf/\cs=[v]/\y1 W s.e v:=by
 obtain⟨s,rfl,_,hm⟩:=DataW.trod_string Tryz.underlying9 h;by_cases al:aX<s.size
 ·exact⟨.b s,_,⟨al,by unfold maxLen at hm;omega⟩,rfl,by simp only[eg.e,aJ],rfl,rfl⟩
 ·refine⟨.s s.data.toList,_,trivial,rfl,?_,rfl,rfl⟩;simp only[eg.e,aJ];refine⟨Ψ,?_⟩;have:s.data.toList.length=s.size:=rfl;omega
theorem Bw{α:Type}:∀{cs:List α},cs.length=4->∃a b c d,cs=[a,b,c,d]
 |[a,b,c,d],_=>⟨a,b,c,d,rfl⟩
theorem Th:∀(fuel:Nat) (cs:List Value) (x:DataW H×List MemPlace),hv enc aF W 0 spare held fuel 282 cs=some x->∃t:bC,t.wf/\bW W (ma W) [.int .i64 t.kind,.int .i64 t.num,t.name.e,t.args.e 4 bC.e] cs:=by
 intro fuel;induction fuel using Nat.strongRecOn with
 |ind fuel bb=>
  intro cs x h;obtain⟨xs,n,rfl,_,hlen,h2,av⟩:=DataW.trod_struct Tryz.underlying282 h;rw[zR]at hlen;obtain⟨c0,cp,c2,c3,rfl⟩:=Bw hlen;have yc:xs.length=4:=h2;have f0:hv enc aF W 0 spare held n 3 (([c0,cp,c2,c3].drop 0).take (aF.cellsOf 3))=xs[0]?:=av 0 _ rfl;have f1:hv enc aF W 0 spare held n 3 (([c0,cp,c2,c3].drop 1).take (aF.cellsOf 3))=xs[1]?:=av 1 _ rfl;have f2:hv enc aF W 0 spare held n 9 (([c0,cp,c2,c3].drop 2).take (aF.cellsOf 9))=xs[2]?:=av 2 _ rfl;have f3:hv enc aF W 0 spare held n 167 (([c0,cp,c2,c3].drop 3).take (aF.cellsOf 167))=xs[3]?:=av 3 _ rfl;simp only[xl,zQ,EK,List.drop,List.take]at f0 f1 f2 f3;rw[cB Ω]at f0 f1 f2 f3;obtain⟨k,v0,eb,hQ⟩:=qc f0;obtain⟨m,v1,aj,dr⟩:=qc f1;obtain⟨s,v2,nB,aR,eO⟩:=CG f2;obtain⟨l,s4,v3,bm,gO⟩:=wO bC.e bC.wf Tryz.underlying167 zR Ω (fun n' cs' rI aS bS=>by obtain⟨t,t1,t2⟩:=bb n' Ω cs' rI bS;exact⟨t,t1,by rw[bC.e_eq];exact uB t2⟩) f3
  simp only[tb,and_true]at eb aj aR bm;subst eb aj aR bm;cases l with
  |l a=>
   refine⟨.mk k m s a,?_,?_⟩
   ·simp only[bC.wf,bC.wfL_iff];exact⟨nB,s4⟩
   ·simp only[bW,bC.kind,bC.num,bC.name,bC.args];exact⟨_,_,rfl,⟨hQ.1,hQ.2.1⟩,_,_,rfl,⟨dr.1,dr.2.1⟩,_,_,rfl,⟨eO.1,eO.2.1⟩,_,_,rfl,⟨gO.1,gO.2.1⟩,rfl⟩
  |b p e2 c=>
   refine⟨.big k m s p e2 c,?_,?_⟩
   ·simp only[bC.wf];exact⟨nB,s4⟩
   ·simp only[bW,bC.kind,bC.num,bC.name,bC.args];exact⟨_,_,rfl,⟨hQ.1,hQ.2.1⟩,_,_,rfl,⟨dr.1,dr.2.1⟩,_,_,rfl,⟨eO.1,eO.2.1⟩,_,_,rfl,⟨gO.1,gO.2.1⟩,rfl⟩
end
end
section
open Go Go.Pv Go.ChangeShapes Go.WideShapes Go.ChangeAt Go.RowKit Go.Deep
section
variable {H:Type} {enc:eZ×Value->H} {W:World} {spare:Nat->Bool} {held:Bool} {cs:List Value} {x:DataW H×List MemPlace} {fuel:Nat}
theorem zP:aF.cellsOf 170=4:=by kernel_rfl
theorem KB:aF.cellsOf 168=1:=by kernel_rfl
theorem EJ:aF.cellsOf 172=7:=by kernel_rfl
theorem KC:aF.cellsOf 22=1:=by kernel_rfl
theorem EI:aF.cellsOf 174=4:=by kernel_rfl
theorem KA:aF.cellsOf 23=1:=by kernel_rfl
theorem Kz:aF.cellsOf 25=2:=by kernel_rfl
theorem Ti(h:hv enc aF W 0 spare held fuel 167 cs=some x):∃d:cV bC,uV d/\∃v,cs=[v]/\y1 W (l0 d) v:=wO bC.e bC.wf Tryz.underlying167 zR Ω (fun n' cs' rI _ bS=>by obtain⟨t,t1,t2⟩:=Th n' cs' rI bS;exact⟨t,t1,by rw[bC.e_eq];exact uB t2⟩) h
theorem N6:∀(fuel:Nat) (cs:List Value) (x:DataW H×List MemPlace),hv enc aF W 0 spare held fuel 170 cs=some x->∃t:bN,t.wf/\bW W (ma W) [.int .i64 t.kind,t.name.e,l0 t.ts,nc t.gs] cs:=by
 intro fuel;induction fuel using Nat.strongRecOn with
 |ind fuel bb=>
  intro cs x h;obtain⟨xs,n,rfl,_,hlen,h2,av⟩:=DataW.trod_struct Tryz.underlying170 h;rw[zP]at hlen;obtain⟨c0,cp,c2,c3,rfl⟩:=Bw hlen;have yc:xs.length=4:=h2;have f0:hv enc aF W 0 spare held n 3 (([c0,cp,c2,c3].drop 0).take (aF.cellsOf 3))=xs[0]?:=av 0 _ rfl;have f1:hv enc aF W 0 spare held n 9 (([c0,cp,c2,c3].drop 1).take (aF.cellsOf 9))=xs[1]?:=av 1 _ rfl;have f2:hv enc aF W 0 spare held n 167 (([c0,cp,c2,c3].drop 2).take (aF.cellsOf 167))=xs[2]?:=av 2 _ rfl;have f3:hv enc aF W 0 spare held n 168 (([c0,cp,c2,c3].drop 3).take (aF.cellsOf 168))=xs[3]?:=av 3 _ rfl;simp only[xl,zQ,EK,KB,List.drop,List.take]at f0 f1 f2 f3;rw[cB Ω]at f0 f1 f2 f3;obtain⟨k,v0,eb,hQ⟩:=qc f0;obtain⟨s,v1,nA,aj,dr⟩:=CG f1;obtain⟨d,nB,v2,aR,eO⟩:=Ti f2;obtain⟨l,s4,v3,bm,gO⟩:=wO bN.e bN.wf Tryz.underlying168 zP Ω (fun n' cs' rI aS bS=>by obtain⟨t,t1,t2⟩:=bb n' Ω cs' rI bS;exact⟨t,t1,by rw[bN.e_eq];exact uB t2⟩) f3
  simp only[tb,and_true]at eb aj aR bm;subst eb aj aR bm;cases l with
  |l a=>
   refine⟨.mk k s d a,?_,?_⟩
   ·simp only[bN.wf,bN.wfL_iff];exact⟨⟨nA,nB⟩,s4⟩
   ·simp only[bW,bN.kind,bN.name,bN.ts,bN.gs,nc];exact⟨_,_,rfl,⟨hQ.1,hQ.2.1⟩,_,_,rfl,⟨dr.1,dr.2.1⟩,_,_,rfl,⟨eO.1,eO.2.1⟩,_,_,rfl,⟨gO.1,gO.2.1⟩,rfl⟩
  |b p e2 c=>
   refine⟨.big k s d p e2 c,?_,?_⟩
   ·simp only[bN.wf];exact⟨⟨nA,nB⟩,s4⟩
   ·simp only[bW,bN.kind,bN.name,bN.ts,bN.gs,nc];exact⟨_,_,rfl,⟨hQ.1,hQ.2.1⟩,_,_,rfl,⟨dr.1,dr.2.1⟩,_,_,rfl,⟨eO.1,eO.2.1⟩,_,_,rfl,⟨gO.1,gO.2.1⟩,rfl⟩
theorem Qh{α:Type}:∀{cs:List α},cs.length=7->∃a b c d e f g,cs=[a,b,c,d,e,f,g]
 |[a,b,c,d,e,f,g],_=>⟨a,b,c,d,e,f,g,rfl⟩
theorem Qi{α:Type}:∀{cs:List α},cs.length=2->∃a b,cs=[a,b]
 |[a,b],_=>⟨a,b,rfl⟩
theorem PN(h:hv enc aF W 0 spare held fuel 172 cs=some x):∃b:gn,b.g.wf/\qm W b.e cs:=by obtain⟨xs,n,rfl,_,hlen,h2,av⟩:=DataW.trod_struct Tryz.underlying172 h;rw[EJ]at hlen;obtain⟨c0,cp,c2,c3,c4,c5,hp,rfl⟩:=Qh hlen;have yc:xs.length=4:=h2;have f0:hv enc aF W 0 spare held n 3 (([c0,cp,c2,c3,c4,c5,hp].drop 0).take (aF.cellsOf 3))=xs[0]?:=av 0 _ rfl;have f1:hv enc aF W 0 spare held n 3 (([c0,cp,c2,c3,c4,c5,hp].drop 1).take (aF.cellsOf 3))=xs[1]?:=av 1 _ rfl;have f2:hv enc aF W 0 spare held n 3 (([c0,cp,c2,c3,c4,c5,hp].drop 2).take (aF.cellsOf 3))=xs[2]?:=av 2 _ rfl;have f3:hv enc aF W 0 spare held n 170 (([c0,cp,c2,c3,c4,c5,hp].drop 3).take (aF.cellsOf 170))=xs[3]?:=av 3 _ rfl;simp only[xl,zP,List.drop,List.take]at f0 f1 f2 f3;rw[cB Ω]at f0 f1 f2 f3;obtain⟨eW,v0,eb,hQ⟩:=qc f0;obtain⟨b5,v1,aj,dr⟩:=qc f1;obtain⟨cE,v2,aR,eO⟩:=qc f2;obtain⟨t,s4,gO⟩:=N6 _ _ _ f3;simp only[tb,and_true]at eb aj aR;subst eb aj aR;refine⟨⟨eW,b5,cE,t⟩,s4,uB ?_⟩;rw[bW];refine⟨_,_,rfl,⟨hQ.1,hQ.2.1⟩,?_⟩;rw[bW];refine⟨_,_,rfl,⟨dr.1,dr.2.1⟩,?_⟩;rw[bW];exact⟨_,_,rfl,⟨eO.1,eO.2.1⟩,gO⟩
theorem Lr(h:hv enc aF W 0 spare held fuel 174 cs=some x):∃b:gm,b.s.wf/\qm W b.e cs:=by obtain⟨xs,n,rfl,_,hlen,h2,av⟩:=DataW.trod_struct Tryz.underlying174 h;rw[EI]at hlen;obtain⟨c0,cp,c2,c3,rfl⟩:=Bw hlen;have yc:xs.length=4:=h2;have f0:hv enc aF W 0 spare held n 9 (([c0,cp,c2,c3].drop 0).take (aF.cellsOf 9))=xs[0]?:=av 0 _ rfl;have f1:hv enc aF W 0 spare held n 3 (([c0,cp,c2,c3].drop 1).take (aF.cellsOf 3))=xs[1]?:=av 1 _ rfl;have f2:hv enc aF W 0 spare held n 3 (([c0,cp,c2,c3].drop 2).take (aF.cellsOf 3))=xs[2]?:=av 2 _ rfl;have f3:hv enc aF W 0 spare held n 3 (([c0,cp,c2,c3].drop 3).take (aF.cellsOf 3))=xs[3]?:=av 3 _ rfl;simp only[xl,zQ,List.drop,List.take]at f0 f1 f2 f3;rw[cB Ω]at f0 f1 f2 f3;obtain⟨s,v0,w0,eb,hQ⟩:=CG f0;obtain⟨b5,v1,aj,dr⟩:=qc f1;obtain⟨cE,v2,aR,eO⟩:=qc f2;obtain⟨fA,v3,bm,gO⟩:=qc f3;simp only[tb,and_true]at eb aj aR bm;subst eb aj aR bm;refine⟨⟨s,b5,cE,fA⟩,w0,uB ?_⟩;simp only[bW];exact⟨_,_,rfl,⟨hQ.1,hQ.2.1⟩,_,_,rfl,⟨dr.1,dr.2.1⟩,_,_,rfl,⟨eO.1,eO.2.1⟩,_,_,rfl,⟨gO.1,gO.2.1⟩,rfl⟩
theorem Lf(h:hv enc aF W 0 spare held fuel 25 cs=some x):∃r:lv,r.wf/\qm W r.e cs:=by obtain⟨xs,n,rfl,_,hlen,h2,av⟩:=DataW.trod_struct Tryz.underlying25 h;rw[Kz]at hlen;obtain⟨c0,cp,rfl⟩:=Qi hlen;have yc:xs.length=2:=h2;have f0:hv enc aF W 0 spare held n 22 (([c0,cp].drop 0).take (aF.cellsOf 22))=xs[0]?:=av 0 _ rfl;have f1:hv enc aF W 0 spare held n 23 (([c0,cp].drop 1).take (aF.cellsOf 23))=xs[1]?:=av 1 _ rfl;simp only[KC,KA,List.drop,List.take]at f0 f1;rw[cB Ω]at f0 f1;obtain⟨d0,w0,v0,eb,hQ⟩:=wO gn.e (fun b=>b.g.wf) Tryz.underlying22 EJ Ω (fun _ _ _ _ bS=>PN bS) f0;obtain⟨d1,nA,v1,aj,dr⟩:=wO gm.e (fun b=>b.s.wf) Tryz.underlying23 EI Ω (fun _ _ _ _ bS=>Lr bS) f1;simp only[tb,and_true]at eb aj;subst eb aj;refine⟨⟨d0,d1⟩,⟨w0,nA⟩,uB ?_⟩;simp only[bW];exact⟨_,_,rfl,⟨hQ.1,hQ.2.1⟩,_,_,rfl,⟨dr.1,dr.2.1⟩,rfl⟩
end
end
section
open Go Go.Pv
end
section
open Go Go.Pv
def Kd(k:IntKind)(a b:Int):Int:=k.wrap (BitVec.ofInt k.bits a&&& BitVec.ofInt k.bits b).toNat
def Uk(k:IntKind)(a b:Int):Int:=k.wrap (BitVec.ofInt k.bits a ^^^ BitVec.ofInt k.bits b).toNat
def SP(k:IntKind)(a b:Int):Int:=a.fdiv (2 ^ (min b.toNat k.bits))
section
variable (a b:Int)
@[simp]theorem UT:j3 .add true (.int .i64 a) (.int .i64 b)=some (True,.int .i64 (mQ.wrap (a+b))):=rfl
@[simp]theorem U1:j3 .mul true (.int .i64 a) (.int .i64 b)=some (True,.int .i64 (mQ.wrap (a*b))):=rfl
@[simp]theorem U3:j3 .quo false (.int .i64 a) (.int .i64 b)=some (b≠0,.int .i64 (mQ.wrap (a.tdiv b))):=rfl
@[simp]theorem U4:j3 .rem false (.int .i64 a) (.int .i64 b)=some (b≠0,.int .i64 (a.tmod b)):=rfl
@[simp]theorem UW:j3 .eql false (.int .i64 a) (.int .i64 b)=some (True,.bool (a==b)):=rfl
@[simp]theorem U2:j3 .neq false (.int .i64 a) (.int .i64 b)=some (True,.bool (a !=b)):=rfl
@[simp]theorem U0:j3 .lss false (.int .i64 a) (.int .i64 b)=some (True,.bool (decide (a<b))):=rfl
@[simp]theorem UZ:j3 .leq false (.int .i64 a) (.int .i64 b)=some (True,.bool (decide (a<=b))):=rfl
@[simp]theorem UY:j3 .gtr false (.int .i64 a) (.int .i64 b)=some (True,.bool (decide (b<a))):=rfl
@[simp]theorem UX:j3 .geq false (.int .i64 a) (.int .i64 b)=some (True,.bool (decide (b<=a))):=rfl
@[simp]theorem UU:j3 .and false (.int .i64 a) (.int .i64 b)=some (True,.int .i64 (Kd .i64 a b)):=rfl
@[simp]theorem U6:j3 .xor false (.int .i64 a) (.int .i64 b)=some (True,.int .i64 (Uk .i64 a b)):=rfl
@[simp]theorem U5(k:IntKind):j3 .shr false (.int .i64 a) (.int k b)=some (0<=b,.int .i64 (SP .i64 a b)):=rfl
end
end
end Go.Proofs.YtlnndmgfngfeiaaGreatDoor
namespace Go.Proofs
section
open Go.Shelf
end
end Go.Proofs
namespace Go.Proofs.YtlnndmgfngfeiaaGreatDoor
section
open Go Go.Pv Go.ChangeShapes Go.WideShapes Go.ChangeAt Go.RowKit
theorem Sw:ownKnob aF.godebug=none:=by kernel_rfl
theorem Sv:laidOutB aF=true:=by kernel_rfl
def NT(b o:Nat):Prop:= ∃x∈tG,x.1=b/\x.2.1=o
def vr(w:World):Prop:= ∀x∈tG,(∃v,w.cell? ⟨x.1,x.2.1,none⟩=some v/\x.2.2.2 v)/\∃el,Pv.shape w x.1=some (x.2.2.1,el)
theorem vr.gl{w:World}(h:vr w){ν:aM}(aY:∀b o,NT b o->ν.A b o):k0 w ν:=fun x ab=>⟨aY _ _ ⟨x,ab,rfl,rfl⟩,h x ab⟩
theorem Ue{w:World}{n:String}{g:Nat}{cs:Array Value}(aT:aF.globalNamed n=some g)(h:w.var? aF n=some cs):∃el,Pv.shape w g=some (cs.size,el):=by
 simp only[World.var?,aT,Option.bind_some]at h;unfold Pv.shape;split at h
 ·rename_i c t fz e;cases h;rw[e];exact⟨_,rfl⟩
 ·cases h
theorem NV{w:World}(aG:Lib.TabIs aF w "internal/strconv.uint64pow10" .u64 Lib.pow10Tab):vr w:=by
 have g0:aF.globalNamed "internal/strconv.uint64pow10" =some 0:=by kernel_rfl
 intro x ab;unfold tG at ab;rw[List.append_nil]at ab;obtain⟨i,aq,rfl⟩:=List.mem_map.1 ab;have aq:=List.mem_range.1 aq;refine⟨⟨_,aG.cell g0 i (by simpa[Lib.pow10Tab]using aq),?_⟩,?_⟩
 ·show kY .u64 _=_;rw[Lib.pow10Tab_at i aq]
 ·obtain⟨el,h⟩:=Ue g0 aG;exact⟨el,by simpa[Lib.pow10Tab]using h⟩
theorem ug(w:World)(A:Nat->Nat->Prop)(b:Nat):∀(us:List Value) (off:Nat),(∀i u,us[i]? =some u->A b (off+i)/\w.cell? ⟨b,off+i,none⟩=some u)->ik w A b off us
 |[],_,_=>trivial
 |u::us,off,h=>⟨by simpa using h 0 u rfl,ug w A b us (off+1) fun i dZ hu=>by have:=h (i+1) dZ (by simpa using hu);rwa[show off+(i+1)=off+1+i from by omega]at this⟩
theorem Kp{f:FuncId}{fn:Func}(hZ:aF.funcs[f]? =some fn)(Lo:∀args w,(callFunc f args).run aF w= .ok (.enter f args) w){w:World}{ν:aM}{args:List ae}{vs:Array Value}(gl:k0 w ν)(h:bF aF f args (.bool true))(aG:∀k j b,¬ν.tr k j b)(aY:∀b o,ν.A b o->b<w.heap.size)(af:∀k,ν.bx k=none)(ah:∀k,ν.ow k=none)(ao:b4 w ν args vs.toList):
  Calls aF f vs w fun e w'=>e= .returned (.bool true)/\Below w.heap.size w w':=by
 have aT:Pv.Good (fy ν ⟨[],[]⟩) w ν [] []:=⟨aY,fun k cs aa=>by simp[Pv.look]at aa,fun k be bl I=>by simp[Pv.look]at I,fun g o aa=>by simp[Pv.look]at aa,fun g du n n' v v' bl I=>by simp[Pv.look]at I,fun g k n v bl I=>by simp[Pv.look]at I,fun k=>.inl (af k),fun _ _ k j=>aG k j _⟩;rcases h w ν vs gl aT (fun k=>⟨fun _=>af k,fun _=>ah k,aG k⟩) ao with⟨_,aQ⟩|⟨v,w',aQ,_⟩
 ·refine aQ.mono ?_;rintro e w' ⟨v,r,aE,ν',rfl,⟨rfl,rfl⟩,jx,_,_,_,ml⟩;simp only[aJ]at jx;subst jx;refine⟨rfl,ml.os,ml.tape,ml.output,ml.size,fun k aa=>ml.block k aa ?_⟩;simp[fy,Pv.look]
 ·rw[Lo]at aQ;cases aQ
theorem Lt{W:World}{b o:Nat}(h:(ma W).A b o):b<W.heap.size:=by
 obtain⟨u,hu⟩:=h;rcases ko b W.heap.size with h|h
 ·exact h
 ·simp[World.cell?,Array.getElem?_eq_none h]at hu
theorem Ls{W:World}(h:vr W):k0 W (ma W):=h.gl fun b o aT=>by obtain⟨x,ab,rfl,rfl⟩:=aT;obtain⟨⟨v,ba,_⟩,_⟩:=h x ab;exact⟨v,ba⟩
theorem Ss{W:World}{bD:List ae}{us:Array Value}(h:qm W (.agg bD) us.toList):aJ W (ma W) (.agg bD) (.agg us):=by
 obtain⟨v,I,J,_⟩:=h;have ak:=J;simp only[aJ]at ak;obtain⟨ws,rfl,_⟩:=ak;have:ws=us:=by
  have:ws.toList=us.toList:=by simpa[km]using I
  exact Array.toList_inj.1 this
 rw[<-this];exact J
theorem Le{H:Type}{enc:eZ×Value->H}{W:World}{spare:Nat->Bool}{held:Bool}{us:Array Value}{x:DataW H×List MemPlace}{fuel:Nat}(h:hv enc aF W 0 spare held fuel 25 us.toList=some x):∃r:lv,r.wf/\aJ W (ma W) r.e (.agg us):=by obtain⟨r,ao,Po⟩:=Lf h;exact⟨r,ao,Ss Po⟩
end
section
open Go
theorem gI{a b:Bool}(I:a=true)(J:b=true):(a&&b)=true:=by rw[I,J];rfl
theorem KE:(hx.wf (OpenSpec.ofChange mR))=true:=by kernel_rfl
theorem KF:(laidOutB aF)=true:=by kernel_rfl
theorem KQ:(mapsRowed aF)=true:=by kernel_rfl
theorem K1:(h9.params.all (aF.readableRec ·))=true:=by kernel_rfl
theorem K4:(namedTie aF hx.named mR.vars)=true:=by kernel_rfl
theorem K5:((hx.stops==[]))=true:=by kernel_rfl
theorem K6:((aF.stops==[]))=true:=by kernel_rfl
theorem K7:((hx.knobs==[]))=true:=by kernel_rfl
theorem K8:((aF.stopKnobs==[]))=true:=by kernel_rfl
theorem K9:((hx.inPlace==aF.inPlace 3))=true:=by kernel_rfl
theorem KG:((hx.unfollowed==aF.unfollowed 3))=true:=by kernel_rfl
theorem KH:((hx.recurses==aF.recurses 3))=true:=by kernel_rfl
theorem KI:((hx.named==aF.varsNamed 3))=true:=by kernel_rfl
theorem KJ:((hx.maps==(h9.params.toList++mR.plain.varTypes aF).any (aF.mapsRec ·)))=true:=by kernel_rfl
theorem KK:((hx.ifaces==(h9.params.toList++mR.plain.varTypes aF).any (aF.ifacesRec ·)))=true:=by kernel_rfl
theorem KL:((hx.mapsOut==aF.mapsAmong h9.resultTypes.toList))=true:=by kernel_rfl
theorem KM:((hx.loops==(h9.params.toList++mR.plain.varTypes aF).any (aF.loopsFrom ·)))=true:=by kernel_rfl
theorem KN:((hx.wideKeys==(h9.params.toList++mR.plain.varTypes aF++h9.resultTypes.toList).any (aF.wideKeysFrom ·)))=true:=by kernel_rfl
theorem KO:(mR.vars.all (aF.varReadable ·))=true:=by kernel_rfl
theorem KP:(h9.resultTypes.all (fun t=>aF.readableRec t&&decide (t<aF.types.size)))=true:=by kernel_rfl
theorem KR:((hx.ifacesOut==h9.resultTypes.toList.any (aF.ifacesRec ·)))=true:=by kernel_rfl
theorem KS:((hx.loopsOut==h9.resultTypes.toList.any (aF.loopsFrom ·)))=true:=by kernel_rfl
theorem KT:((hx.plainKeys==aF.plainKeys))=true:=by kernel_rfl
theorem KU:(hx.shortTexts.isNone)=true:=by kernel_rfl
theorem KV:(aF.stopsHeard)=true:=by kernel_rfl
theorem KW:(aF.mayEnter)=true:=by kernel_rfl
theorem KX:((hx.lifted==aF.liftsFinal))=true:=by kernel_rfl
theorem KY:((aF.make==some hx.make))=true:=by kernel_rfl
theorem KZ:((hx.kinds==(if hx.domain.isEmpty then []else h9.params.toList.map fun t=>match aF.underlying t with|some (.int k)=>some k|_=>none)))=true:=by kernel_rfl
theorem K0:((hx.pinned==hx.pinnedBy))=true:=by kernel_rfl
theorem K2:((hx.veiled==(h9.params.toList++mR.plain.varTypes aF++h9.resultTypes.toList).any (aF.veiledRec ·)))=true:=by kernel_rfl
theorem K3:(hx.veiledFits aF h9.params.toList (h9.params.toList++mR.plain.varTypes aF++h9.resultTypes.toList))=true:=by kernel_rfl
set_option maxRecDepth 100000 in
theorem La:joinedFacts aF 3 h9 mR hx=true:=(gI (gI (gI (gI (gI (gI (gI (gI (gI (gI (gI (gI (gI (gI (gI (gI (gI (gI (gI (gI (gI (gI (gI (gI (gI (gI (gI (gI (gI (gI (gI KE KF) KQ) K1) K4) K5) K6) K7) K8) K9) KG) KH) KI) KJ) KK) KL) KM) KN) KO) KP) KR) KS) KT) KU) KV) KW) KX) KY) KZ) K0) K2) K3)
end
end Go.Proofs.YtlnndmgfngfeiaaGreatDoor
