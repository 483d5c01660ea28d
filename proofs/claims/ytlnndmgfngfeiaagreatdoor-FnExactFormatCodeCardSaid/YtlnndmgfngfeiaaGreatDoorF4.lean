/- The closed facts of a card, one theorem each. -/
import Derived.Test.YtlnndmgfngfeiaaGreatDoorProg
import Derived.ProofKit
import Derived.Carry
import Derived.WalkKit
import Derived.Deep.Slices
import Derived.Shelf.SlSortFuncK.WholeK
import Derived.Shelf.GgSortFunc.Tiny
import Derived.Ground.GgsProg
import Derived.Lib.LaidTab
import Derived.Stop.LaidErr
import Derived.Lib.ItoaNum
import Derived.Test.YtlnndmgfngfeiaaGreatDoorRows
import Derived.Test.YtlnndmgfngfeiaaGreatDoorTie
import Derived.Test.YtlnndmgfngfeiaaGreatDoorCards
import Derived.LaidMore
import Derived.SevenTiedAt
import Derived.Test.YtlnndmgfngfeiaaGreatDoorF3
set_option linter.all false
set_option maxHeartbeats 4000000
set_option maxRecDepth 4000
open Bool renaming and_eq_true->bE
open Go renaming Program->bM,TypeId->eZ
open Go.DataW renaming trod->hv
open Go.IntKind renaming i64->mQ
open Go.Lib renaming itoa->br
open Go.Proofs.Tryz renaming f3->h9,prog->aF
open Go.Proofs.YtlnndmgfngfeiaaGreatDoor.Rows renaming fnExactFormatCodeRow->hx,fnExactFormatCodeSpec->mR
open Go.Value renaming cells->km,int->kY
open List renaming cons_append->oA,getElem?_append_left->nC,getElem?_eq_getElem->cB,getElem?_eq_some_iff->dw,length_append->dh,length_cons->hy,length_map->kn,length_nil->l5,length_pos_iff->oB,map_cons->ez,map_nil->mS,mem_cons->hT,mem_of_getElem?->e9,take_length->jY
open List.cons renaming injEq->tb
open Nat renaming le_refl->c7,lt_or_ge->ko
open Option.some renaming inj->fo,injEq->dt
open _root_ renaming False->dz,Option->bf,UInt8->bt,beq_eq_false_iff_ne->fN,beq_iff_eq->cD,decide_eq_false->ha,decide_eq_true->j0,decide_eq_true_eq->fY,if_neg->bu
namespace Go.Proofs.YtlnndmgfngfeiaaGreatDoor
section
open Go Go.Pv
theorem Lq(c:Cd)(s:List bt)(n:Int):(decide (0<=kL c.es s)&&(match c.es[(kL c.es s).toNat]? with|some f=>n==f.ar|none=>false))=true↔∃(k:Nat) (f:Ey),kL c.es s=(k:Nat)/\c.es[k]? =some f/\n=f.ar:=by
 constructor
 ·intro h;rw[bE,fY]at h;obtain⟨a1,h⟩:=h;split at h
  ·rename_i f av;exact⟨_,f,Ω,av,by simpa using h⟩
  ·cases h
 ·rintro⟨k,f,I,J,ak⟩;rw[I];simp only[Int.toNat_natCast,J,ak];simp
theorem NU(c:Cd)(x:Ix)(vars:Int):tF c x vars=true↔Au c x vars:=by
 unfold tF Au;by_cases pW:x.op≠0/\x.op≠5
 ·rw[if_pos pW];exact⟨fun h=>⟨fun _ _=>h,fun bS=>Ω⟩,fun h=>h.1 pW.1 pW.2⟩
 rw[bu pW];have gM:x.op=0\/x.op=5:=Ω
 rcases gM with a1|bn
 ·rw[if_pos a1];simp[a1,wV,and_assoc]
 ·rw[bu Ω];have e:=Lq c x.g.name x.g.ts.length;rw[bE,bE,bE];refine(and_congr Iff.rfl (and_congr Iff.rfl e)).trans ?_;simp[bn,wV,and_assoc]
def gq(c:Cd)(e:Ey)(N:Nat)(k:Nat):a6:=⟨[(2,.int .i64 N),(3,.ptr (.loc 0) 0),(4,.ptr (.loc 1) 0),(7,.int .i64 k)],[(.loc 0,[.slice 7 .no (c.is.map Ix.e),.slice 4 .no (c.es.map Ey.e)]),(.loc 1,[.str e.name,.int .i64 e.pos,.int .i64 e.ar,.int .i64 e.vars])],[],2,[]⟩
open Classical in
set_option maxRecDepth 8000 in
theorem JG(c:Cd)(jN:c.es.length<=100000000)(jO:c.is.length<=100000000)(e:Ey)(A N:Nat)(aY:e.pos=A)(N9:A<=N)(gR:N<=c.is.length):bF aF 130 [c.e,e.e,.int .i64 N] (.bool (decide (u4 c e N))):=by
 generalize aW:decide (u4 c e N)=R;refine bq kl Ni RB fun aO=>?_;unfold Ex;clear aO;simp;(with_reducible repeat' first|refine aP ?_|simp);refine pR (gq c e N) (fun k=>N-k) (fun k=>A<=k/\k<=N/\∀(m:Nat) x,A<=m->m<k->c.is[m]? =some x->q4 c e N m x) A (by simp[gq];exact⟨by simp[fresh,aB,aH,bV,aK,Pv.look,aY],dW (by simp[fresh,aB,aH,bV,aK,Pv.look,aY]),dY (by simp[fresh,aB,aH,dJ,aK,Pv.look,aY]),Ψ⟩) ⟨c7 _,N9,fun m x I J=>Ω⟩ ?_;rintro k ⟨gy,jw,nZ⟩ _;rcases Nat.eq_or_lt_of_le jw with rfl|hk4
 ·have:R=true:=by rw[<-aW];exact j0 fun m x I J ab=>nZ m x Ω Ω ab
  subst this;clear aW nZ;simp[gq];exact bY
 have dC:k<c.is.length:=Ω
 obtain⟨x,ab,bL⟩:=eM dC;have fh:bs ((k:Int)+1):=by unfold bs;omega
 have ig:bs ((N:Int)-1):=by unfold bs;omega
 have ev:=dn x.op 0 6;have cc:=TR c jN x e.vars;have b1:=dn x.a (k+1) (N-1);have dp:=dn x.b 0 7;have aT:=NU c x e.vars;by_cases af:q4 c e N k x
 ·have lK:∀(m:Nat) z,A<=m->m<k+1->c.is[m]? =some z->q4 c e N m z:=fun m z I ak dS=>by
   rcases ko m k with h|h
   ·exact nZ m z I h dS
   ·obtain rfl:m=k:=Ω
    rw[ab]at dS;cases dS;exact af
  obtain⟨bH,bR,ea,ic,jl,ir,lB,pK⟩:=af;rw[aT.2 ea]at cc;clear aW nZ aT ea aY;have cK:x.a=0->(x.a !=0)=false:=fun h=>by simpa using h
  have uX:x.b=0->(x.b !=0)=false:=fun h=>by simpa using h
  have aA:((k:Int)==(N:Int)-1)=(x.op==6):=by
   by_cases h:x.op=6
   ·have:=bR.1 h;rw[cD.2 h];simp;omega
   ·rw[fN.2 h];exact fN.2 fun e=>h (bR.2 e)
  have xU:((x.op==6) !=(x.op==6))=false:=by simp
  clear bR;by_cases fT:x.op=1
  ·obtain⟨y,bG,mx,h3⟩:=pK fT;have ao:=ic (.inl fT);have Az:=ir (.inl fT);have jt:x.a.toNat<c.is.length:=Ω
   have xQ:0<=x.a:=Ω
   have xR:x.a<c.is.length:=Ω
   have gg:∀h,(c.is[x.a.toNat]'h)=y:=fun h=>by rw[cB jt]at bG;exact fo bG
   have tL:bs (x.b+1):=by unfold bs;omega
   have bK:(x.op==1)=true:=cD.2 fT;clear ic jl ir lB pK fT cK uX;rcases mx with mx|mx;all_goals
    simp[gq]
    (with_reducible repeat' first|refine aP ?_|refine aC ev ?_|refine aD ev ?_|refine aC cc ?_|refine aD cc ?_|refine aC b1 ?_|refine aD b1 ?_|refine aC dp ?_|refine aD dp ?_|simp[hk4,dC,bL,ig,fh,bH,aA,xU,bK,ao,Az,jt,xQ,xR,gg,bG,tL,mx,h3])
    refine cj.whl (k+1) Ω ⟨Ω,Ω,lK⟩ (by simp only[gq];exact cq)
  have bK:(x.op==1)=false:=fN.2 fT;by_cases gX:x.op=2
  ·have bU:=cK (jl Ω);have Az:=ir (.inr gX);have b6:(x.op==2)=true:=cD.2 gX;have cH:(x.op==3)=false:=fN.2 Ω;clear ic jl ir lB pK fT gX cK uX;simp[gq];(with_reducible repeat' first|refine aP ?_|refine aC ev ?_|refine aD ev ?_|refine aC cc ?_|refine aD cc ?_|refine aC b1 ?_|refine aD b1 ?_|refine aC dp ?_|refine aD dp ?_|simp[hk4,dC,bL,ig,fh,bH,aA,xU,bK,b6,cH,bU,Az]);refine cj.whl (k+1) Ω ⟨Ω,Ω,lK⟩ (by simp only[gq];exact cq)
  have b6:(x.op==2)=false:=fN.2 gX;have sb:=uX (lB Ω);by_cases lO:x.op=3
  ·have ao:=ic (.inr lO);have cH:(x.op==3)=true:=cD.2 lO;clear ic jl ir lB pK fT gX lO cK uX;simp[gq];(with_reducible repeat' first|refine aP ?_|refine aC ev ?_|refine aD ev ?_|refine aC cc ?_|refine aD cc ?_|refine aC b1 ?_|refine aD b1 ?_|refine aC dp ?_|refine aD dp ?_|simp[hk4,dC,bL,ig,fh,bH,aA,xU,bK,b6,cH,ao,sb]);refine cj.whl (k+1) Ω ⟨Ω,Ω,lK⟩ (by simp only[gq];exact cq)
  have cH:(x.op==3)=false:=fN.2 lO;have bU:=cK (jl Ω);clear ic jl ir lB pK fT gX lO cK uX;simp[gq];(with_reducible repeat' first|refine aP ?_|refine aC ev ?_|refine aD ev ?_|refine aC cc ?_|refine aD cc ?_|refine aC b1 ?_|refine aD b1 ?_|refine aC dp ?_|refine aD dp ?_|simp[hk4,dC,bL,ig,fh,bH,aA,xU,bK,b6,cH,bU,sb]);refine cj.whl (k+1) Ω ⟨Ω,Ω,lK⟩ (by simp only[gq];exact cq)
 ·have:R=false:=by rw[<-aW];exact ha fun h=>af (h k x Ω Ω ab)
  subst this;unfold q4 at af;rw[<-aT]at af;clear aW nZ aT aY;generalize tF c x e.vars=gb at af cc;have aA:((k:Int)==(N:Int)-1)=decide (k+1=N):=by
   by_cases h:k+1=N
   ·rw[j0 h];simp;omega
   ·rw[ha h];exact fN.2 Ω
  by_cases fT:x.op=1
  ·have bK:(x.op==1)=true:=cD.2 fT;by_cases e5:0<=x.op/\x.op<=6;rotate_left
   ·clear af;rw[ha e5]at ev;clear e5;simp[gq];((with_reducible repeat' first|refine aP ?_|refine aC ev ?_|refine aD ev ?_|refine aC cc ?_|refine aD cc ?_|refine aC b1 ?_|refine aD b1 ?_|refine aC dp ?_|refine aD dp ?_|simp[hk4,dC,bL,ig,fh,bK]|((first|apply b7|apply b9|apply b8)<;>intro h<;>try simp at h))<;>(try exact cn));simp[bJ,jd,bp,bz,bo]
   by_cases er:x.op=6↔(k:Int)=(N:Int)-1;rotate_left
   ·have gL:((x.op==6) !=decide (k+1=N))=true:=by
     by_cases h:x.op=6
     ·have J:¬k+1=N:=fun e=>er ⟨fun _=>Ω,fun _=>h⟩;rw[cD.2 h,ha J];rfl
     ·have J:k+1=N:=by
       by_cases e:k+1=N
       ·exact e
       ·exact absurd ⟨fun bS=>absurd bS h,fun bS=>Ω⟩ er
      rw[fN.2 h,j0 J];rfl
    clear af er;simp[gq];((with_reducible repeat' first|refine aP ?_|refine aC ev ?_|refine aD ev ?_|refine aC cc ?_|refine aD cc ?_|refine aC b1 ?_|refine aD b1 ?_|refine aC dp ?_|refine aD dp ?_|simp[hk4,dC,bL,ig,fh,bK,e5,aA,gL]|((first|apply b7|apply b9|apply b8)<;>intro h<;>try simp at h))<;>(try exact cn));simp[bJ,jd,bp,bz,bo]
   have gL:((x.op==6) !=((k:Int)==(N:Int)-1))=false:=by
    by_cases h:x.op=6
    ·rw[cD.2 h,cD.2 (er.1 h)];rfl
    ·rw[fN.2 h,fN.2 fun e=>h (er.2 e)];rfl
   cases gb
   ·clear af er;simp[gq];((with_reducible repeat' first|refine aP ?_|refine aC ev ?_|refine aD ev ?_|refine aC cc ?_|refine aD cc ?_|refine aC b1 ?_|refine aD b1 ?_|refine aC dp ?_|refine aD dp ?_|simp[hk4,dC,bL,ig,fh,bK,e5,gL]|((first|apply b7|apply b9|apply b8)<;>intro h<;>try simp at h))<;>(try exact cn));simp[bJ,jd,bp,bz,bo]
   by_cases bU:(k:Int)+1<=x.a/\x.a<=(N:Int)-1;rotate_left
   ·have av:=bU;clear af er;simp[gq];((with_reducible repeat' first|refine aP ?_|refine aC ev ?_|refine aD ev ?_|refine aC cc ?_|refine aD cc ?_|refine aC b1 ?_|refine aD b1 ?_|refine aC dp ?_|refine aD dp ?_|simp[hk4,dC,bL,ig,fh,bK,e5,gL,av]|((first|apply b7|apply b9|apply b8)<;>intro h<;>try simp at h))<;>(try exact cn));simp[bJ,jd,bp,bz,bo]
   have bB:=bU;by_cases ba:0<=x.b/\x.b<=7;rotate_left
   ·have av:=ba;clear af er;simp[gq];((with_reducible repeat' first|refine aP ?_|refine aC ev ?_|refine aD ev ?_|refine aC cc ?_|refine aD cc ?_|refine aC b1 ?_|refine aD b1 ?_|refine aC dp ?_|refine aD dp ?_|simp[hk4,dC,bL,ig,fh,bK,e5,gL,bB,av]|((first|apply b7|apply b9|apply b8)<;>intro h<;>try simp at h))<;>(try exact cn));simp[bJ,jd,bp,bz,bo]
   have jt:x.a.toNat<c.is.length:=Ω
   have xQ:0<=x.a:=Ω
   have xR:x.a<c.is.length:=Ω
   obtain⟨y,bG⟩:∃y,c.is[x.a.toNat]? =some y:=⟨_,cB jt⟩;have gg:∀h,(c.is[x.a.toNat]'h)=y:=fun h=>by rw[cB jt]at bG;exact fo bG
   have tL:bs (x.b+1):=by unfold bs;omega
   by_cases mx:y.op=1\/y.op=2
   ·have h3:¬y.b=x.b+1:=fun h=>af ⟨e5,er,rfl,fun _=>bU,fun h=>Ω,fun _=>ba,fun h=>Ω,fun _=>⟨y,bG,mx,h⟩⟩;have PG:(y.b !=x.b+1)=true:=by simpa using h3
    clear af er fT h3;rcases mx with mx|mx;all_goals
     simp[gq]
     ((with_reducible repeat' first|refine aP ?_|refine aC ev ?_|refine aD ev ?_|refine aC cc ?_|refine aD cc ?_|refine aC b1 ?_|refine aD b1 ?_|refine aC dp ?_|refine aD dp ?_|simp[hk4,dC,bL,ig,fh,e5,gL,bK,bU,ba,jt,xQ,xR,gg,bG,tL,mx,PG]|((first|apply b7|apply b9|apply b8)<;>intro h<;>try simp at h))<;>(try exact cn))
     simp[bJ,jd,bp,bz,bo]
   ·have w1:(y.op !=1)=true:=by simpa using fun h=>mx (.inl h)
    have w2:(y.op !=2)=true:=by simpa using fun h=>mx (.inr h)
    clear af er fT mx;simp[gq];((with_reducible repeat' first|refine aP ?_|refine aC ev ?_|refine aD ev ?_|refine aC cc ?_|refine aD cc ?_|refine aC b1 ?_|refine aD b1 ?_|refine aC dp ?_|refine aD dp ?_|simp[hk4,dC,bL,ig,fh,e5,gL,bK,bU,ba,jt,xQ,xR,gg,bG,tL,w1,w2]|((first|apply b7|apply b9|apply b8)<;>intro h<;>try simp at h))<;>(try exact cn));simp[bJ,jd,bp,bz,bo]
  have bK:(x.op==1)=false:=fN.2 fT;have cK:x.a=0->(x.a !=0)=false:=fun h=>by simpa using h
  have uX:x.b=0->(x.b !=0)=false:=fun h=>by simpa using h
  have mP:¬x.a=0->(x.a !=0)=true:=fun h=>by simpa using h
  have dL:¬x.b=0->(x.b !=0)=true:=fun h=>by simpa using h
  by_cases gX:x.op=2
  ·have b6:(x.op==2)=true:=cD.2 gX;have cH:(x.op==3)=false:=fN.2 Ω;by_cases e5:0<=x.op/\x.op<=6;rotate_left
   ·clear af;rw[ha e5]at ev;clear e5;simp[gq];((with_reducible repeat' first|refine aP ?_|refine aC ev ?_|refine aD ev ?_|refine aC cc ?_|refine aD cc ?_|refine aC b1 ?_|refine aD b1 ?_|refine aC dp ?_|refine aD dp ?_|simp[hk4,dC,bL,ig,fh,bK,b6,cH]|((first|apply b7|apply b9|apply b8)<;>intro h<;>try simp at h))<;>(try exact cn));simp[bJ,jd,bp,bz,bo]
   by_cases er:x.op=6↔(k:Int)=(N:Int)-1;rotate_left
   ·have gL:((x.op==6) !=decide (k+1=N))=true:=by
     by_cases h:x.op=6
     ·have J:¬k+1=N:=fun e=>er ⟨fun _=>Ω,fun _=>h⟩;rw[cD.2 h,ha J];rfl
     ·have J:k+1=N:=by
       by_cases e:k+1=N
       ·exact e
       ·exact absurd ⟨fun bS=>absurd bS h,fun bS=>Ω⟩ er
      rw[fN.2 h,j0 J];rfl
    clear af er;simp[gq];((with_reducible repeat' first|refine aP ?_|refine aC ev ?_|refine aD ev ?_|refine aC cc ?_|refine aD cc ?_|refine aC b1 ?_|refine aD b1 ?_|refine aC dp ?_|refine aD dp ?_|simp[hk4,dC,bL,ig,fh,bK,b6,cH,e5,aA,gL]|((first|apply b7|apply b9|apply b8)<;>intro h<;>try simp at h))<;>(try exact cn));simp[bJ,jd,bp,bz,bo]
   have gL:((x.op==6) !=((k:Int)==(N:Int)-1))=false:=by
    by_cases h:x.op=6
    ·rw[cD.2 h,cD.2 (er.1 h)];rfl
    ·rw[fN.2 h,fN.2 fun e=>h (er.2 e)];rfl
   cases gb
   ·clear af er;simp[gq];((with_reducible repeat' first|refine aP ?_|refine aC ev ?_|refine aD ev ?_|refine aC cc ?_|refine aD cc ?_|refine aC b1 ?_|refine aD b1 ?_|refine aC dp ?_|refine aD dp ?_|simp[hk4,dC,bL,ig,fh,bK,b6,cH,e5,gL]|((first|apply b7|apply b9|apply b8)<;>intro h<;>try simp at h))<;>(try exact cn));simp[bJ,jd,bp,bz,bo]
   by_cases bU:x.a=0;rotate_left
   ·have av:=mP bU;clear af er;simp[gq];((with_reducible repeat' first|refine aP ?_|refine aC ev ?_|refine aD ev ?_|refine aC cc ?_|refine aD cc ?_|refine aC b1 ?_|refine aD b1 ?_|refine aC dp ?_|refine aD dp ?_|simp[hk4,dC,bL,ig,fh,bK,b6,cH,e5,gL,av]|((first|apply b7|apply b9|apply b8)<;>intro h<;>try simp at h))<;>(try exact cn));simp[bJ,jd,bp,bz,bo]
   have bB:=cK bU;by_cases ba:0<=x.b/\x.b<=7;rotate_left
   ·have av:=ba;clear af er;simp[gq];((with_reducible repeat' first|refine aP ?_|refine aC ev ?_|refine aD ev ?_|refine aC cc ?_|refine aD cc ?_|refine aC b1 ?_|refine aD b1 ?_|refine aC dp ?_|refine aD dp ?_|simp[hk4,dC,bL,ig,fh,bK,b6,cH,e5,gL,bB,av]|((first|apply b7|apply b9|apply b8)<;>intro h<;>try simp at h))<;>(try exact cn));simp[bJ,jd,bp,bz,bo]
   exact(af ⟨e5,er,rfl,Ω,Ω,Ω,Ω,fun h=>absurd h fT⟩).elim
  have b6:(x.op==2)=false:=fN.2 gX;by_cases lO:x.op=3
  ·have cH:(x.op==3)=true:=cD.2 lO;by_cases e5:0<=x.op/\x.op<=6;rotate_left
   ·clear af;rw[ha e5]at ev;clear e5;simp[gq];((with_reducible repeat' first|refine aP ?_|refine aC ev ?_|refine aD ev ?_|refine aC cc ?_|refine aD cc ?_|refine aC b1 ?_|refine aD b1 ?_|refine aC dp ?_|refine aD dp ?_|simp[hk4,dC,bL,ig,fh,bK,b6,cH]|((first|apply b7|apply b9|apply b8)<;>intro h<;>try simp at h))<;>(try exact cn));simp[bJ,jd,bp,bz,bo]
   by_cases er:x.op=6↔(k:Int)=(N:Int)-1;rotate_left
   ·have gL:((x.op==6) !=decide (k+1=N))=true:=by
     by_cases h:x.op=6
     ·have J:¬k+1=N:=fun e=>er ⟨fun _=>Ω,fun _=>h⟩;rw[cD.2 h,ha J];rfl
     ·have J:k+1=N:=by
       by_cases e:k+1=N
       ·exact e
       ·exact absurd ⟨fun bS=>absurd bS h,fun bS=>Ω⟩ er
      rw[fN.2 h,j0 J];rfl
    clear af er;simp[gq];((with_reducible repeat' first|refine aP ?_|refine aC ev ?_|refine aD ev ?_|refine aC cc ?_|refine aD cc ?_|refine aC b1 ?_|refine aD b1 ?_|refine aC dp ?_|refine aD dp ?_|simp[hk4,dC,bL,ig,fh,bK,b6,cH,e5,aA,gL]|((first|apply b7|apply b9|apply b8)<;>intro h<;>try simp at h))<;>(try exact cn));simp[bJ,jd,bp,bz,bo]
   have gL:((x.op==6) !=((k:Int)==(N:Int)-1))=false:=by
    by_cases h:x.op=6
    ·rw[cD.2 h,cD.2 (er.1 h)];rfl
    ·rw[fN.2 h,fN.2 fun e=>h (er.2 e)];rfl
   cases gb
   ·clear af er;simp[gq];((with_reducible repeat' first|refine aP ?_|refine aC ev ?_|refine aD ev ?_|refine aC cc ?_|refine aD cc ?_|refine aC b1 ?_|refine aD b1 ?_|refine aC dp ?_|refine aD dp ?_|simp[hk4,dC,bL,ig,fh,bK,b6,cH,e5,gL]|((first|apply b7|apply b9|apply b8)<;>intro h<;>try simp at h))<;>(try exact cn));simp[bJ,jd,bp,bz,bo]
   by_cases bU:(k:Int)+1<=x.a/\x.a<=(N:Int)-1;rotate_left
   ·have av:=bU;clear af er;simp[gq];((with_reducible repeat' first|refine aP ?_|refine aC ev ?_|refine aD ev ?_|refine aC cc ?_|refine aD cc ?_|refine aC b1 ?_|refine aD b1 ?_|refine aC dp ?_|refine aD dp ?_|simp[hk4,dC,bL,ig,fh,bK,b6,cH,e5,gL,av]|((first|apply b7|apply b9|apply b8)<;>intro h<;>try simp at h))<;>(try exact cn));simp[bJ,jd,bp,bz,bo]
   have bB:=bU;by_cases ba:x.b=0;rotate_left
   ·have av:=dL ba;clear af er;simp[gq];((with_reducible repeat' first|refine aP ?_|refine aC ev ?_|refine aD ev ?_|refine aC cc ?_|refine aD cc ?_|refine aC b1 ?_|refine aD b1 ?_|refine aC dp ?_|refine aD dp ?_|simp[hk4,dC,bL,ig,fh,bK,b6,cH,e5,gL,bB,av]|((first|apply b7|apply b9|apply b8)<;>intro h<;>try simp at h))<;>(try exact cn));simp[bJ,jd,bp,bz,bo]
   exact(af ⟨e5,er,rfl,Ω,Ω,Ω,Ω,fun h=>absurd h fT⟩).elim
  have cH:(x.op==3)=false:=fN.2 lO;by_cases e5:0<=x.op/\x.op<=6;rotate_left
  ·clear af;rw[ha e5]at ev;clear e5;simp[gq];exact bY
  by_cases er:x.op=6↔(k:Int)=(N:Int)-1;rotate_left
  ·have gL:((x.op==6) !=decide (k+1=N))=true:=by
    by_cases h:x.op=6
    ·have J:¬k+1=N:=fun e=>er ⟨fun _=>Ω,fun _=>h⟩;rw[cD.2 h,ha J];rfl
    ·have J:k+1=N:=by
      by_cases e:k+1=N
      ·exact e
      ·exact absurd ⟨fun bS=>absurd bS h,fun bS=>Ω⟩ er
     rw[fN.2 h,j0 J];rfl
   clear af er;simp[gq];exact bY
  have gL:((x.op==6) !=((k:Int)==(N:Int)-1))=false:=by
   by_cases h:x.op=6
   ·rw[cD.2 h,cD.2 (er.1 h)];rfl
   ·rw[fN.2 h,fN.2 fun e=>h (er.2 e)];rfl
  cases gb
  ·clear af er;simp[gq];((with_reducible repeat' first|refine aP ?_|refine aC ev ?_|refine aD ev ?_|refine aC cc ?_|refine aD cc ?_|refine aC b1 ?_|refine aD b1 ?_|refine aC dp ?_|refine aD dp ?_|simp[hk4,dC,bL,ig,fh,bK,b6,cH,e5,gL]|((first|apply b7|apply b9|apply b8)<;>intro h<;>try simp at h))<;>(try exact cn));simp[bJ,jd,bp,bz,bo]
  by_cases bU:x.a=0;rotate_left
  ·have av:=mP bU;clear af er;simp[gq];((with_reducible repeat' first|refine aP ?_|refine aC ev ?_|refine aD ev ?_|refine aC cc ?_|refine aD cc ?_|refine aC b1 ?_|refine aD b1 ?_|refine aC dp ?_|refine aD dp ?_|simp[hk4,dC,bL,ig,fh,bK,b6,cH,e5,gL,av]|((first|apply b7|apply b9|apply b8)<;>intro h<;>try simp at h))<;>(try exact cn));simp[bJ,jd,bp,bz,bo]
  have bB:=cK bU;by_cases ba:x.b=0;rotate_left
  ·have av:=dL ba;clear af er;simp[gq];((with_reducible repeat' first|refine aP ?_|refine aC ev ?_|refine aD ev ?_|refine aC cc ?_|refine aD cc ?_|refine aC b1 ?_|refine aD b1 ?_|refine aC dp ?_|refine aD dp ?_|simp[hk4,dC,bL,ig,fh,bK,b6,cH,e5,gL,bB,av]|((first|apply b7|apply b9|apply b8)<;>intro h<;>try simp at h))<;>(try exact cn));simp[bJ,jd,bp,bz,bo]
  exact(af ⟨e5,er,rfl,Ω,Ω,Ω,Ω,fun h=>absurd h fT⟩).elim
def Dq(c:Cd)(i:Nat)(_:Unit):Prop:= ∀(k:Nat) (e:Ey),k<i->c.es[k]? =some e->zr c k e
def mU(c:Cd)(i:Nat)(_:Unit):a6:=⟨[(1,.ptr (.loc 0) 0),(3,.int .i64 ((c.es.length:Int)-1)),(40,.slice 4 .no (c.es.map Ey.e)),(41,.int .i64 c.es.length),(42,.int .i64 i)],[(.loc 0,[.slice 7 .no (c.is.map Ix.e),.slice 4 .no (c.es.map Ey.e)])],[],1,[]⟩
open Classical in
set_option maxRecDepth 8000 in
theorem TT(c:Cd)(jO:c.is.length<=100000000)(jN:c.es.length<=100000000):bF aF 56 [c.e] (.bool (decide (l9 c))):=by
 generalize aW:decide (l9 c)=R;have kP:bs ((c.es.length:Int)-1):=by unfold bs;omega
 by_cases a1:c.es=[]
 ·have:R=false:=by rw[<-aW];refine ha ?_;rintro⟨⟨e,he,_⟩,_⟩;rw[a1]at he;cases he
  subst this;clear aW;refine bq kl Aj B1 fun aO=>?_;unfold xi;clear aO;exact bY
 have eS:0<c.es.length:=oB.2 a1;have Gr:¬(c.es.length:Int)-1<0:=Ω
 have Gl:(0:Int)<=(c.es.length:Int)-1:=Ω
 have Gn:((c.es.length:Int)-1).toNat=c.es.length-1:=Ω
 have ij:c.es.length-1<c.es.length:=Ω
 obtain⟨eb,iN⟩:∃e,c.es[0]? =some e:=⟨_,cB eS⟩;have qP:∀h,(c.es[0]'h)=eb:=fun h=>by rw[cB eS]at iN;exact fo iN
 obtain⟨el,o2⟩:∃e,c.es[c.es.length-1]? =some e:=⟨_,cB ij⟩;have AG:∀h,(c.es[c.es.length-1]'h)=el:=fun h=>by rw[cB ij]at o2;exact fo o2
 by_cases bB:eb.pos=0/\el.name=[]/\el.ar=0;rotate_left
 ·have:R=false:=by rw[<-aW];refine ha ?_;rintro⟨⟨e,he,h⟩,⟨f,av,J⟩,_⟩;rw[iN]at he;cases he;rw[o2]at av;cases av;exact bB ⟨h,J⟩
  subst this;clear aW;refine bq kl Aj B1 fun aO=>?_;unfold xi;clear aO;simp;((with_reducible repeat' first|refine aP ?_|simp[kP,Gr,Gl,Gn,eS,ij,qP,iN,o2,AG]|((first|apply b7|apply b9|apply b8)<;>intro h<;>try simp at h))<;>(try exact cn));all_goals first|(simp[bJ,sK,bp,bz,bo];done)|(exfalso;grind)
 obtain⟨hr,gA,ru⟩:=bB;refine bq kl Aj B1 fun aO=>?_;unfold xi;clear aO;simp;(with_reducible repeat' first|refine aP ?_|simp[kP,Gr,Gl,Gn,eS,ij,qP,iN,o2,AG,hr,gA,ru]);refine fv (mU c) c.es.length (Dq c) () (by simp[mU];exact cq) (fun k e aa=>Ω) (fun _ ai _=>?_) (fun i _ aq ai _=>?_)
 ·have:R=true:=by rw[<-aW];exact j0 ⟨⟨eb,iN,hr⟩,⟨el,o2,gA,ru⟩,fun i e he=>ai i e (dw.1 he).1 he⟩
  subst this;clear aW ai;simp[mU];exact bY
 obtain⟨e,he,cP⟩:=eM aq;have cS:bs ((i:Int)+1):=by unfold bs;omega
 have lK:zr c i e->Dq c (i+1) ():=fun dB k f aa av=>by
  rcases ko k i with h|h
  ·exact ai k f h av
  ·obtain rfl:k=i:=Ω
   rw[he]at av;cases av;exact dB
 clear iN qP o2 AG;by_cases mn:i+1<c.es.length
 ·have cM:(i:Int)<(c.es.length:Int)-1:=Ω
  obtain⟨f,av⟩:∃f,c.es[i+1]? =some f:=⟨_,cB mn⟩;have o3:∀h,(c.es[i+1]'h)=f:=fun h=>by rw[cB mn]at av;exact fo av
  have x1:(0:Int)<=(i:Int)+1:=Ω
  have tS:((i:Int)+1).toNat=i+1:=Ω
  have fF:(i:Int)+1<c.es.length:=Ω
  have eR:=Cd.fin_of av;generalize qN:f.pos=F at eR;have b1:=dn e.ar 0 4;have eN:=dn e.vars e.ar 100000;by_cases aQ:e.pos<F/\0<=e.pos/\F<=c.is.length/\(0<=e.ar/\e.ar<=4)/\(e.ar<=e.vars/\e.vars<=100000);rotate_left
  ·have:R=false:=by rw[<-aW];exact ha fun h=>aQ (by have:=(h.2.2 i e he).1;rw[eR]at this;exact this)
   subst this;clear aW ai;simp[mU,aq,cP];((with_reducible repeat' first|refine aP ?_|refine aC b1 ?_|refine aD b1 ?_|refine aC eN ?_|refine aD eN ?_|simp[aq,cP,cS,kP,cM,mn,av,o3,x1,tS,fF,qN]|((first|apply b7|apply b9|apply b8)<;>intro h<;>try simp at h))<;>(try exact cn));all_goals first|(simp[bJ,sK,bp,bz,bo];done)|(exfalso;clear b1 eN;grind)
  obtain⟨N,gR⟩:∃N:Nat,F=N:=⟨F.toNat,Ω⟩;obtain⟨A,aY⟩:∃A:Nat,e.pos=A:=⟨e.pos.toNat,Ω⟩;subst gR;obtain⟨cp,c2,c3,⟨c4,c5⟩,⟨hp,lD⟩⟩:=aQ;have dj:=JG c jN jO e A N aY Ω Ω;have e6:¬(N:Int)<=e.pos:=Ω
  have ey:¬e.pos<0:=Ω
  have fJ:¬(c.is.length:Int)<N:=Ω
  have yH:¬c.is.length<N:=Ω
  have cQ:=JH e.name;have hi:=JF c jN e.name;by_cases ao:h4 e.name=true/\kL c.es e.name=i;rotate_left
  ·have:R=false:=by rw[<-aW];exact ha fun h=>ao ((h.2.2 i e he).2.1 mn)
   subst this;clear aW ai;clear dj;generalize h4 e.name=ot at cQ ao;generalize kL c.es e.name=m at hi ao;simp[mU,aq,cP];((with_reducible repeat' first|refine aP ?_|refine aC b1 ?_|refine aD b1 ?_|refine aC eN ?_|refine aD eN ?_|refine aC cQ ?_|refine aD cQ ?_|refine aC hi ?_|refine aD hi ?_|simp[aq,cP,cS,kP,cM,mn,av,o3,x1,tS,fF,qN,e6,ey,fJ,yH,c4,c5,hp,lD]|((first|apply b7|apply b9|apply b8)<;>intro h<;>try simp at h))<;>(try exact cn));all_goals first|(simp[bJ,sK,bp,bz,bo];done)|(exfalso;clear b1 eN cQ hi;grind)
  obtain⟨dr,eO⟩:=ao;rw[dr]at cQ;rw[eO]at hi;by_cases J:u4 c e N;rotate_left
  ·have:R=false:=by rw[<-aW];exact ha fun h=>J (by have:=(h.2.2 i e he).2.2;rw[eR]at this;exact this)
   subst this;clear aW ai;rw[ha J]at dj;simp[mU,aq,cP];(with_reducible repeat' first|refine aP ?_|refine aC b1 ?_|refine aD b1 ?_|refine aC eN ?_|refine aD eN ?_|refine aC cQ ?_|refine aD cQ ?_|refine aC hi ?_|refine aD hi ?_|refine aC dj ?_|refine aD dj ?_|simp[aq,cP,cS,kP,cM,mn,av,o3,x1,tS,fF,qN,e6,ey,fJ,yH,c4,c5,hp,lD]);simp[bJ,sK,bp,bz,bo]
  rw[j0 J]at dj;have gK:=lK ⟨by rw[eR];exact⟨cp,c2,c3,⟨c4,c5⟩,⟨hp,lD⟩⟩,fun _=>⟨dr,eO⟩,by rw[eR];exact J⟩;clear lK ai aW;simp[mU,aq,cP];(with_reducible repeat' first|refine aP ?_|refine aC b1 ?_|refine aD b1 ?_|refine aC eN ?_|refine aD eN ?_|refine aC cQ ?_|refine aD cQ ?_|refine aC hi ?_|refine aD hi ?_|refine aC dj ?_|refine aD dj ?_|simp[aq,cP,cS,kP,cM,mn,av,o3,x1,tS,fF,qN,e6,ey,fJ,yH,c4,c5,hp,lD]);refine cj.rng () aq gK (by simp only[mU];exact cq)
 ·have cM:¬(i:Int)<(c.es.length:Int)-1:=Ω
  have eR:=Cd.fin_last (c:=c) (i:=i) Ω;generalize qN:(c.is.length:Int)=F at eR;have b1:=dn e.ar 0 4;have eN:=dn e.vars e.ar 100000;by_cases aQ:e.pos<F/\0<=e.pos/\F<=c.is.length/\(0<=e.ar/\e.ar<=4)/\(e.ar<=e.vars/\e.vars<=100000);rotate_left
  ·have:R=false:=by rw[<-aW];exact ha fun h=>aQ (by have:=(h.2.2 i e he).1;rw[eR]at this;exact this)
   subst this;clear aW ai;simp[mU,aq,cP];((with_reducible repeat' first|refine aP ?_|refine aC b1 ?_|refine aD b1 ?_|refine aC eN ?_|refine aD eN ?_|simp[aq,cP,cS,kP,cM,qN]|((first|apply b7|apply b9|apply b8)<;>intro h<;>try simp at h))<;>(try exact cn));all_goals first|(simp[bJ,sK,bp,bz,bo];done)|(exfalso;clear b1 eN;grind)
  obtain⟨N,gR⟩:∃N:Nat,F=N:=⟨F.toNat,Ω⟩;obtain⟨A,aY⟩:∃A:Nat,e.pos=A:=⟨e.pos.toNat,Ω⟩;subst gR;obtain⟨cp,c2,c3,⟨c4,c5⟩,⟨hp,lD⟩⟩:=aQ;have dj:=JG c jN jO e A N aY Ω Ω;have e6:¬(N:Int)<=e.pos:=Ω
  have ey:¬e.pos<0:=Ω
  have fJ:¬(c.is.length:Int)<N:=Ω
  have yH:¬c.is.length<N:=Ω
  by_cases J:u4 c e N;rotate_left
  ·have:R=false:=by rw[<-aW];exact ha fun h=>J (by have:=(h.2.2 i e he).2.2;rw[eR]at this;exact this)
   subst this;clear aW ai;rw[ha J]at dj;simp[mU,aq,cP];(with_reducible repeat' first|refine aP ?_|refine aC b1 ?_|refine aD b1 ?_|refine aC eN ?_|refine aD eN ?_|refine aC dj ?_|refine aD dj ?_|simp[aq,cP,cS,kP,cM,qN,e6,ey,c4,c5,hp,lD]);simp[bJ,sK,bp,bz,bo]
  rw[j0 J]at dj;have gK:=lK ⟨by rw[eR];exact⟨cp,c2,c3,⟨c4,c5⟩,⟨hp,lD⟩⟩,fun h=>Ω,by rw[eR];exact J⟩;clear lK ai aW;simp[mU,aq,cP];(with_reducible repeat' first|refine aP ?_|refine aC b1 ?_|refine aD b1 ?_|refine aC eN ?_|refine aD eN ?_|refine aC dj ?_|refine aD dj ?_|simp[aq,cP,cS,kP,cM,qN,e6,ey,c4,c5,hp,lD]);refine cj.rng () aq gK (by simp only[mU];exact cq)
theorem A4{es:List Ey}{j:Nat}{e:Ey}(he:es[j]? =some e)(k:Nat):gW (es.take (j+1)) k=gW (es.take j) k++(if e.pos=k then hJ e else []):=by
 unfold gW;rw[List.take_add_one,he];simp only[Option.toList_some,List.filter_append,List.map_append,List.flatten_append];congr 1;by_cases h:e.pos=k
 ·simp[h]
 ·simp[h]
theorem Nl(c:Cd){m n:Nat}(h:m<=n):(gF c m).length<=(gF c n).length:=by
 induction n with
 |zero=>rw[show m=0 by omega];exact c7 _
 |succ n bb=>
  rcases Nat.eq_or_lt_of_le h with rfl|h
  ·exact c7 _
  ·have:=bb Ω;simp only[gF,dh];omega
theorem Pt(es:List Ey)(k j:Nat):(gW (es.take j) k).length<=(gW es k).length:=by
 conv=>rhs;rw[<-List.take_append_drop j es]
 unfold gW;simp only[List.filter_append,List.map_append,List.flatten_append,dh];omega
theorem EF{c:Cd}(h:l9 c){i:Nat}{x:Ix}(ab:c.is[i]? =some x):∃e N,N<=(c.is.length:Int)/\q4 c e N i x:=by
 obtain⟨⟨eb,a1,I⟩,⟨l,aA,_⟩,ak⟩:=h;have jO:=(dw.1 ab).1;have hlen:=(dw.1 aA).1;have key:∀j e,c.es[j]? =some e->(i:Int)<c.fin j->∃e N,N<=(c.is.length:Int)/\q4 c e N i x:=by
  intro j;induction j with
  |zero=>intro e he av;rw[a1]at he;cases he;obtain⟨⟨_,_,b,_⟩,_,r⟩:=ak 0 eb a1;exact⟨eb,c.fin 0,b,r i x Ω av ab⟩
  |succ j bb=>
   intro e he av;obtain⟨⟨_,_,b,_⟩,_,r⟩:=ak _ e he;by_cases bB:e.pos<=i
   ·exact⟨e,c.fin (j+1),b,r i x bB av ab⟩
   ·have ai:=(dw.1 he).1;obtain⟨f,xW⟩:∃f,c.es[j]? =some f:=⟨_,cB Ω⟩;exact bb f xW (by rw[Cd.fin_of he];omega)
 exact key _ l aA (by rw[Cd.fin_last Ω];omega)
def ie(c:Cd):List (aw×List ae):=[(.loc 0,[.slice 7 .no (c.is.map Ix.e),.slice 4 .no (c.es.map Ey.e)])]
def nH(c:Cd)(i:Nat)(s:List bt):a6:=⟨[(1,.ptr (.loc 0) 0),(3,.str s),(13,.slice 7 .no (c.is.map Ix.e)),(14,.int .i64 c.is.length),(15,.int .i64 i)],ie c,[],1,[]⟩
def l7(c:Cd)(i:Nat)(x:Ix)(j:Nat)(s:List bt):a6:=⟨[(1,.ptr (.loc 0) 0),(3,.str s),(4,.int .i64 i),(5,.ptr (.loc 1) 0),(13,.slice 7 .no (c.is.map Ix.e)),(14,.int .i64 c.is.length),(15,.int .i64 i),(21,.slice 4 .no (c.es.map Ey.e)),(22,.int .i64 c.es.length),(23,.int .i64 j)],ie c++[(.loc 1,cells x.e)],[],2,[]⟩
open Classical in
set_option maxRecDepth 8000 in
theorem TU(c:Cd)(jO:c.is.length<=100000000)(jN:c.es.length<=100000000)(hw:∀x∈c.is,x.g.w<=100000000)(aA:l9 c->(gF c c.is.length).length<=aX):bF aF 11 [c.e] (.str (if l9 c then gF c c.is.length else [])):=by
 have lQ:=TT c jO jN;by_cases aQ:l9 c;rotate_left
 ·rw[bu aQ];rw[ha aQ]at lQ;clear aA;refine bq kl Fq HU fun aO=>?_;unfold zK;clear aO;exact bY
 rw[if_pos aQ];rw[j0 aQ]at lQ;replace aA:=aA aQ;refine bq kl Fq HU fun aO=>?_;unfold zK;clear aO;simp;(with_reducible repeat' first|refine aP ?_|refine aC lQ ?_|refine aD lQ ?_|simp);refine fv (nH c) c.is.length (fun i s=>s=gF c i) [] (by simp[nH,ie];exact cq) rfl (fun s ai _=>?_) (fun i s aq ai _=>?_)
 ·subst ai;simp[nH,ie];exact bY
 obtain⟨x,ab,bL⟩:=eM aq;have cS:bs ((i:Int)+1):=by unfold bs;omega
 have hle:=Nl c (m:=i+1) (n:=c.is.length) aq;rw[gF,ab,<-ai]at hle;simp only[dh]at hle;simp[nH,ie,aq,bL];(with_reducible repeat' first|refine aP ?_|simp[aq,bL]);refine fv (l7 c i x) c.es.length (fun j aE=>aE=s++gW (c.es.take j) i) s (by simp[l7,ie];exact cq) (by simp[gW]) (fun aE hL _=>?_) (fun j aE fF hL _=>?_)
 ·rw[jY]at hL;have hZ:gF c (i+1)=s++(gW c.es i++eT i x):=by rw[gF,ab,<-ai]
  have cQ:=rH (i:Int) (by unfold bs;omega);obtain⟨gD,N',hN',⟨bH,rR⟩,bR,ea,ic,jl,ir,lB,pK⟩:=EF aQ ab;have kz:aE.length=s.length+(gW c.es i).length:=by rw[hL,dh]
  rcases(by omega:x.op=0\/x.op=1\/x.op=2\/x.op=3\/x.op=4\/x.op=5\/x.op=6)with h|h|h|h|h|h|h;all_goals simp[eT,hC,h]at hle
  ·have al:x.g.shape=true:=by have:=(ea.2 (.inl h)).1;unfold Gm.fits at this;rw[bE]at this;exact this.1
   have fq:=JE x.g.sz x.g (c7 _) al (hw x (e9 ab));have fB:=qx ([br i,[114,101,113,117,105,114,101],c6 x.g]) [32] (by simp[b0];omega);have dy:aE.length+(b0 [32] ([br i,[114,101,113,117,105,114,101],c6 x.g])).length<=aX:=by simp[b0];omega
   have et:aE.length+(b0 [32] ([br i,[114,101,113,117,105,114,101],c6 x.g])).length+1<=aX:=by simp[b0];omega
   simp only[e8,ez,mS]at fB;have aS:aE++(b0 [32] ([br i,[114,101,113,117,105,114,101],c6 x.g])++[10])=gF c (i+1):=by rw[hZ,hL];simp[eT,hC,h,b0]
   clear ai hL hZ;generalize jL:b0 [32] ([br i,[114,101,113,117,105,114,101],c6 x.g])=W at fB dy et aS;clear jL;simp[l7,ie];(with_reducible repeat' first|refine aP ?_|refine aC cQ ?_|refine aD cQ ?_|refine aC fq ?_|refine aD fq ?_|refine aC fB ?_|refine aD fB ?_|simp[h,dy,et,cS]);refine cj.rng (aE++(W++[10])) aq aS (by simp[nH,ie];exact cq)
  ·have b1:=rH x.a (by have:=ic (.inl h);unfold bs;omega);have dp:=rH x.b (by have:=ir (.inl h);unfold bs;omega);have fB:=qx ([br i,[116,114,121],br x.a,br x.b]) [32] (by simp[b0];omega);have dy:aE.length+(b0 [32] ([br i,[116,114,121],br x.a,br x.b])).length<=aX:=by simp[b0];omega
   have et:aE.length+(b0 [32] ([br i,[116,114,121],br x.a,br x.b])).length+1<=aX:=by simp[b0];omega
   simp only[e8,ez,mS]at fB;have aS:aE++(b0 [32] ([br i,[116,114,121],br x.a,br x.b])++[10])=gF c (i+1):=by rw[hZ,hL];simp[eT,hC,h,b0]
   clear ai hL hZ;generalize jL:b0 [32] ([br i,[116,114,121],br x.a,br x.b])=W at fB dy et aS;clear jL;simp[l7,ie];(with_reducible repeat' first|refine aP ?_|refine aC cQ ?_|refine aD cQ ?_|refine aC b1 ?_|refine aD b1 ?_|refine aC dp ?_|refine aD dp ?_|refine aC fB ?_|refine aD fB ?_|simp[h,dy,et,cS]);refine cj.rng (aE++(W++[10])) aq aS (by simp[nH,ie];exact cq)
  ·have dp:=rH x.b (by have:=ir (.inr h);unfold bs;omega);have fB:=qx ([br i,[112,105,99,107],br x.b]) [32] (by simp[b0];omega);have dy:aE.length+(b0 [32] ([br i,[112,105,99,107],br x.b])).length<=aX:=by simp[b0];omega
   have et:aE.length+(b0 [32] ([br i,[112,105,99,107],br x.b])).length+1<=aX:=by simp[b0];omega
   simp only[e8,ez,mS]at fB;have aS:aE++(b0 [32] ([br i,[112,105,99,107],br x.b])++[10])=gF c (i+1):=by rw[hZ,hL];simp[eT,hC,h,b0]
   clear ai hL hZ;generalize jL:b0 [32] ([br i,[112,105,99,107],br x.b])=W at fB dy et aS;clear jL;simp[l7,ie];(with_reducible repeat' first|refine aP ?_|refine aC cQ ?_|refine aD cQ ?_|refine aC dp ?_|refine aD dp ?_|refine aC fB ?_|refine aD fB ?_|simp[h,dy,et,cS]);refine cj.rng (aE++(W++[10])) aq aS (by simp[nH,ie];exact cq)
  ·have b1:=rH x.a (by have:=ic (.inr h);unfold bs;omega);have fB:=qx ([br i,[106,117,109,112],br x.a]) [32] (by simp[b0];omega);have dy:aE.length+(b0 [32] ([br i,[106,117,109,112],br x.a])).length<=aX:=by simp[b0];omega
   have et:aE.length+(b0 [32] ([br i,[106,117,109,112],br x.a])).length+1<=aX:=by simp[b0];omega
   simp only[e8,ez,mS]at fB;have aS:aE++(b0 [32] ([br i,[106,117,109,112],br x.a])++[10])=gF c (i+1):=by rw[hZ,hL];simp[eT,hC,h,b0]
   clear ai hL hZ;generalize jL:b0 [32] ([br i,[106,117,109,112],br x.a])=W at fB dy et aS;clear jL;simp[l7,ie];(with_reducible repeat' first|refine aP ?_|refine aC cQ ?_|refine aD cQ ?_|refine aC b1 ?_|refine aD b1 ?_|refine aC fB ?_|refine aD fB ?_|simp[h,dy,et,cS]);refine cj.rng (aE++(W++[10])) aq aS (by simp[nH,ie];exact cq)
  ·have fB:=qx ([br i,[102,97,105,108]]) [32] (by simp[b0];omega);have dy:aE.length+(b0 [32] ([br i,[102,97,105,108]])).length<=aX:=by simp[b0];omega
   have et:aE.length+(b0 [32] ([br i,[102,97,105,108]])).length+1<=aX:=by simp[b0];omega
   simp only[e8,ez,mS]at fB;have aS:aE++(b0 [32] ([br i,[102,97,105,108]])++[10])=gF c (i+1):=by rw[hZ,hL];simp[eT,hC,h,b0]
   clear ai hL hZ;generalize jL:b0 [32] ([br i,[102,97,105,108]])=W at fB dy et aS;clear jL;simp[l7,ie];(with_reducible repeat' first|refine aP ?_|refine aC cQ ?_|refine aD cQ ?_|refine aC cQ ?_|refine aD cQ ?_|refine aC fB ?_|refine aD fB ?_|simp[h,dy,et,cS]);refine cj.rng (aE++(W++[10])) aq aS (by simp[nH,ie];exact cq)
  ·have al:x.g.shape=true:=by have:=(ea.2 (.inr h)).1;unfold Gm.fits at this;rw[bE]at this;exact this.1
   have fq:=JE x.g.sz x.g (c7 _) al (hw x (e9 ab));have fB:=qx ([br i,[99,97,108,108],c6 x.g]) [32] (by simp[b0];omega);have dy:aE.length+(b0 [32] ([br i,[99,97,108,108],c6 x.g])).length<=aX:=by simp[b0];omega
   have et:aE.length+(b0 [32] ([br i,[99,97,108,108],c6 x.g])).length+1<=aX:=by simp[b0];omega
   simp only[e8,ez,mS]at fB;have aS:aE++(b0 [32] ([br i,[99,97,108,108],c6 x.g])++[10])=gF c (i+1):=by rw[hZ,hL];simp[eT,hC,h,b0]
   clear ai hL hZ;generalize jL:b0 [32] ([br i,[99,97,108,108],c6 x.g])=W at fB dy et aS;clear jL;simp[l7,ie];(with_reducible repeat' first|refine aP ?_|refine aC cQ ?_|refine aD cQ ?_|refine aC fq ?_|refine aD fq ?_|refine aC fB ?_|refine aD fB ?_|simp[h,dy,et,cS]);refine cj.rng (aE++(W++[10])) aq aS (by simp[nH,ie];exact cq)
  ·have fB:=qx ([br i,[114,101,116,117,114,110]]) [32] (by simp[b0];omega);have dy:aE.length+(b0 [32] ([br i,[114,101,116,117,114,110]])).length<=aX:=by simp[b0];omega
   have et:aE.length+(b0 [32] ([br i,[114,101,116,117,114,110]])).length+1<=aX:=by simp[b0];omega
   simp only[e8,ez,mS]at fB;have aS:aE++(b0 [32] ([br i,[114,101,116,117,114,110]])++[10])=gF c (i+1):=by rw[hZ,hL];simp[eT,hC,h,b0]
   clear ai hL hZ;generalize jL:b0 [32] ([br i,[114,101,116,117,114,110]])=W at fB dy et aS;clear jL;simp[l7,ie];(with_reducible repeat' first|refine aP ?_|refine aC cQ ?_|refine aD cQ ?_|refine aC cQ ?_|refine aD cQ ?_|refine aC fB ?_|refine aD fB ?_|simp[h,dy,et,cS]);refine cj.rng (aE++(W++[10])) aq aS (by simp[nH,ie];exact cq)
 ·obtain⟨e,he,cP⟩:=eM fF;have qT:bs ((j:Int)+1):=by unfold bs;omega
  have AS:=Pt c.es i (j+1);rw[A4 he]at AS;by_cases bB:e.pos=i
  ·have aS:aE++hJ e=s++gW (c.es.take (j+1)) i:=by rw[hL,A4 he,if_pos bB,List.append_assoc]
   rw[if_pos bB]at AS;have Oe:bs e.ar:=by have:=(aQ.2.2 j e he).1;unfold bs;omega
   have fq:=rH e.ar Oe;simp only[hJ,dh,hy,l5]at AS;have vG:aE.length+(e.name.length+(1+((br e.ar).length+2)))<=aX:=by rw[hL,dh];omega
   have I:aE.length+e.name.length<=aX:=Ω
   have J:aE.length+e.name.length+1<=aX:=Ω
   have ak:aE.length+e.name.length+1+(br e.ar).length<=aX:=Ω
   have aV:aE.length+e.name.length+1+(br e.ar).length+1<=aX:=Ω
   have bn:aE.length+e.name.length+1+(br e.ar).length+1+1<=aX:=Ω
   simp[l7,ie,fF,cP];(with_reducible repeat' first|refine aP ?_|refine aC fq ?_|refine aD fq ?_|simp[fF,cP,bB,qT]);refine cj.rng (aE++hJ e) fF aS (by simp[l7,ie,hJ];exact cq)
  ·have aS:aE=s++gW (c.es.take (j+1)) i:=by rw[hL,A4 he,bu bB,List.append_nil]
   have AY:(e.pos==(i:Int))=false:=fN.2 bB;simp[l7,ie,fF,cP];(with_reducible repeat' first|refine aP ?_|simp[fF,cP,AY,qT]);refine cj.rng aE fF aS (by simp[l7,ie];exact cq)
theorem I2(p:Int)(L:Nat):∀n:Nat,((List.range n).map fun k=>if p=((k:Nat):Int)then L else 0).sum<=L/\((n:Int)<=p->((List.range n).map fun k=>if p=((k:Nat):Int)then L else 0).sum=0)
 |0=>by simp
 |n+1=>by
  obtain⟨I,J⟩:=I2 p L n;rw[List.range_succ,List.map_append,List.sum_append];simp only[ez,mS,List.sum_cons,List.sum_nil,Nat.add_zero];refine⟨?_,fun h=>?_⟩
  ·by_cases bB:p=n
   ·rw[J Ω,if_pos bB];omega
   ·rw[bu bB];omega
  ·rw[J Ω,bu Ω]
theorem Ps(e:Ey)(es:List Ey)(k:Nat):(gW (e::es) k).length=(if e.pos=((k:Nat):Int)then(hJ e).length else 0)+(gW es k).length:=by
 unfold gW;by_cases h:e.pos=k
 ·simp[h]
 ·simp[h]
theorem Qr(l:List Nat)(f g:Nat->Nat):(l.map fun k=>f k+g k).sum=(l.map f).sum+(l.map g).sum:=by
 induction l with
 |nil=>rfl
 |cons x l bb=>simp only[ez,List.sum_cons,bb];omega
theorem GG(n:Nat):∀es:List Ey,((List.range n).map fun k=>(gW es k).length).sum<=(es.map fun e=>(hJ e).length).sum
 |[]=>by
  have:((List.range n).map fun k=>(gW [] k).length)=(List.range n).map fun _=>0:=List.map_congr_left fun k _=>by simp[gW]
  rw[this];have:∀l:List Nat,(l.map fun _=>0).sum=0:=fun l=>by induction l<;>simp_all
  rw[this];exact Nat.zero_le _
 |e::es=>by have I:=GG n es;have J:=(I2 e.pos (hJ e).length n).1;have:((List.range n).map fun k=>(gW (e::es) k).length)=(List.range n).map fun k=>(if e.pos=((k:Nat):Int)then(hJ e).length else 0)+(gW es k).length:=List.map_congr_left fun k _=>Ps e es k;rw[this,Qr,ez,List.sum_cons];omega
theorem Qk{c:Cd}(h:l9 c){k:Nat}{x:Ix}(ab:c.is[k]? =some x)(aS:c.is.length<=1048576):(eT k x).length<=72+30*x.g.w:=by
 obtain⟨e,N,gR,⟨bH,rR⟩,bR,ea,ic,jl,ir,lB,pK⟩:=EF h ab;have aa:=(dw.1 ab).1;have I:=ym (n:=(k:Int)) (by unfold bs;omega);have al:x.op=0\/x.op=5->(c6 x.g).length+1<=30*x.g.w:=fun h=>by have J:=(ea.2 h).1;unfold Gm.fits at J;rw[bE]at J;exact vk x.g.sz x.g (c7 _) J.1
 have bU:x.op=1\/x.op=3->(br x.a).length<=20:=fun h=>ym (by have:=ic h;unfold bs;omega);have af:x.op=1\/x.op=2->(br x.b).length<=20:=fun h=>ym (by have:=ir h;unfold bs;omega);have V3:(hC x).length<=49+30*x.g.w:=by
  unfold hC;split
  ·rename_i h;have:=al (.inl h);simp;omega
  split
  ·rename_i h;have:=bU (.inl h);have:=af (.inl h);simp;omega
  split
  ·rename_i h;have:=af (.inr h);simp;omega
  split
  ·rename_i h;have:=bU (.inr h);simp;omega
  split
  ·simp;omega
  split
  ·rename_i h;have:=al (.inr h);simp;omega
  split
  ·simp;omega
  ·simp
 unfold eT;simp;omega
theorem Fv{c:Cd}(h:l9 c)(aS:c.is.length<=1048576):∀n:Nat,n<=c.is.length->(gF c n).length<=((List.range n).map fun k=>(gW c.es k).length).sum+72*n+30*((c.is.take n).map fun x=>x.g.w).sum
 |0,_=>by simp[gF]
 |n+1,aA=>by have bb:=Fv h aS n Ω;obtain⟨x,ab⟩:∃x,c.is[n]? =some x:=⟨_,cB aA⟩;have J:=Qk h ab aS;rw[gF,ab,List.range_succ,List.take_add_one,ab];simp only[dh,List.map_append,List.sum_append,ez,mS,List.sum_cons,List.sum_nil,Option.toList_some];omega
theorem OC{es:List Ey}(h:∀e∈es,0<=e.ar/\e.ar<=4):(es.map fun e=>(hJ e).length).sum<=(es.map fun e=>e.name.length).sum+23*es.length:=by
 induction es with
 |nil=>simp
 |cons e es bb=>
  have I:=h e Ψ;have J:=bb fun f av=>h f (by simp[av]);have ak:=ym (n:=e.ar) (by unfold bs;omega);have aV:(hJ e).length=e.name.length+(1+((br e.ar).length+2)):=by simp[hJ];omega
  simp only[ez,List.sum_cons,hy];omega
theorem Nn{c:Cd}(h:l9 c)(I:c.is.length<=1048576)(J:c.es.length<=1048576)(ak:(c.is.map fun x=>x.g.w).sum<=1048576)(aV:(c.es.map fun x=>x.name.length).sum<=1048576):(gF c c.is.length).length<=aX:=by
 have bQ:=Fv h I c.is.length (c7 _);have a2:=GG c.is.length c.es;have a3:=OC (es:=c.es) fun e he=>by obtain⟨i,aq⟩:=List.getElem?_of_mem he;exact(h.2.2 i e aq).1.2.2.2.1
 rw[jY]at bQ;unfold aX;omega
def zB:C:=(ag [dL 1 0,bI 2 (.mov (.c (.str [])))] (.seq (ag [bT 9 2 1,cK 10 34 9,e7 11 10] (bg 11 (ag [bI 2 (.mov (.c (.str [])))] .ret) .skip)) (ag [bI 12 (.build [.nilp,.slice 1 .nil []] []),dm (.box 13 (some 861) (.t 12)),ad 3 13] (.seq (ag [aL 14 1 1 1,aN 15 1 14,cw 16 15,cl 17 0] (jG 18 17 16 (.seq (.block 1 (ag [ad 19 17,dk 20 4 15 17,bT 21 4 20,dm (.alloc 5 none (.agg [.str [],.int .i64 0,.int .i64 0,.int .i64 0])),ad 4 19,cI 4 5 21] (.seq (.drawnW [862] 98 [ad 22 3,aL 23 0 1 5,aN 24 1 23,bI 25 (.bin .add false (.t 24) (.c (.str [47]))),aL 26 2 1 5,aN 27 1 26,cK 28 63 27,b2 29 .add 25 28,bI 30 (.bin .add false (.t 29) (.c (.str [58,10]))),en 31 62 22 30]) (ag [aL 32 1 1 5,aN 33 1 32,ad 6 33] (.block 2 (.loop (.seq (ag [ad 34 6,bT 35 2 1,ad 36 4,en 37 64 35 36,b2 38 .lss 34 37] (bg 38 .skip (.exit 2))) (.seq (.block 3 (ag [aL 41 0 1 1,aN 42 1 41,ad 43 6,dk 44 7 42 43,bT 45 7 44,dm (.alloc 7 none (.agg [.int .i64 0,.int .i64 0,.int .i64 0,.int .i64 0,.str [],.slice 4 .nil [],.slice 4 .nil []])),cI 7 7 45] (ag [bI 8 (.mov (.c (.str [])))] (.seq (ag [aL 46 0 1 7,aN 47 1 46] (.block 4 (ag [aZ 49 .eql 47 0,ad 48 49] (bg 48 (.region [h7 50 3 4 7,bT 51 4 50,cK 52 65 51,bI 53 (.bin .add false (.c (.str [114,101,113,117,105,114,101,32])) (.t 52)),ad 8 53]) (ag [aZ 55 .eql 47 1,ad 54 55] (bg 54 (.drawn true 98 [aL 56 1 1 7,aN 57 1 56,cK 58 63 57,bI 59 (.bin .add false (.c (.str [116,114,121,32])) (.t 58)),bI 60 (.bin .add false (.t 59) (.c (.str [32]))),aL 61 2 1 7,aN 62 1 61,cK 63 63 62,b2 64 .add 60 63,ad 8 64]) (ag [aZ 66 .eql 47 2,ad 65 66] (bg 65 (.region [aL 67 2 1 7,aN 68 1 67,cK 69 63 68,bI 70 (.bin .add false (.c (.str [112,105,99,107,32])) (.t 69)),ad 8 70]) (ag [aZ 72 .eql 47 3,ad 71 72] (bg 71 (.region [aL 73 1 1 7,aN 74 1 73,cK 75 63 74,bI 76 (.bin .add false (.c (.str [106,117,109,112,32])) (.t 75)),ad 8 76]) (ag [aZ 78 .eql 47 4,ad 77 78] (bg 77 (.region [bI 8 (.mov (.c (.str [102,97,105,108])))]) (ag [aZ 80 .eql 47 5,ad 79 80] (bg 79 (.region [h7 81 3 4 7,bT 82 4 81,cK 83 65 82,bI 84 (.bin .add false (.c (.str [99,97,108,108,32])) (.t 83)),ad 8 84]) (ag [aZ 86 .eql 47 6,ad 85 86] (bg 85 (.region [bI 8 (.mov (.c (.str [114,101,116,117,114,110])))]) .skip)))))))))))))))) (.region [ad 87 3,ad 88 6,cK 89 63 88,bI 90 (.bin .add false (.t 89) (.c (.str [32]))),ad 91 8,b2 92 .add 90 91,bI 93 (.bin .add false (.t 92) (.c (.str [10]))),en 94 62 87 93]))))) (.region [ad 39 6,aZ 40 .add 39 1,ad 6 40]))))))))) (.region [aZ 95 .add 17 1,ad 17 95])))) (ag [ad 96 3,⟨none,.opn (some 97) (.c (.func 66 [])) [.t 96]⟩,ad 2 97] .ret)))))
@[simp] def Ia:List cr:=[.tmp 2]
def xe:C:=(ag [dL 1 0,b3 2 false] (.seq (ag [aL 10 1 1 1,aN 11 1 10,cw 12 11,aZ 13 .eql 12 0,ad 14 13,au 14 false (aL 15 1 1 1),au 14 false (aN 16 1 15),au 14 false (jF 17 4 16 0),au 14 false (aL 18 1 1 17),au 14 false (aN 19 1 18),au 14 false (aZ 20 .neq 19 0),dq 21 14 20] (bg 21 (ag [b3 2 false] .ret) .skip)) (.seq (ag [aL 22 1 1 1,aN 23 1 22,cw 24 23,cl 25 0] (jG 26 25 24 (.seq (.block 1 (ag [ad 27 25,dk 28 4 23 25,bT 29 4 28,dm (.alloc 4 none (.agg [.str [],.int .i64 0,.int .i64 0,.int .i64 0])),ad 3 27,cI 4 4 29] (ag [ad 30 3,aL 31 1 1 1,aN 32 1 31,cw 33 32,aZ 34 .sub 33 1,b2 35 .eql 30 34,ad 5 35] (.seq (ag [ad 36 5,ad 37 36,au 37 true (aL 38 0 1 4),au 37 true (aN 39 1 38),pC 37 true 40 (.bin .neq false (.t 39) (.c (.str []))),cZ 37 true 41 40,au 41 false (aL 42 2 1 4),au 41 false (aN 43 1 42),au 41 false (aZ 44 .neq 43 0),au 37 true (dq 45 41 44),dT 46 37 45,ad 47 46,cZ 47 false 48 5,au 47 false (e7 49 48),cZ 47 false 50 49,au 50 true (aL 51 0 1 4),au 50 true (aN 52 1 51),au 50 true (cK 53 103 52),au 50 true (e7 54 53),cZ 50 true 55 54,au 55 false (bT 56 2 1),au 55 false (aL 57 0 1 4),au 55 false (aN 58 1 57),au 55 false (en 59 104 56 58),cZ 55 false 60 3,au 55 false (b2 61 .neq 59 60),au 50 true (dq 62 55 61),au 47 false (dT 63 50 62),dq 64 47 63] (bg 64 (ag [b3 2 false] .ret) .skip)) (.seq (.drawn true 147 (aL 65 2 1 4::aN 66 1 65::aZ 67 .lss 66 0::ad 68 67::au 68 false (aL 69 2 1 4)::au 68 false (aN 70 1 69)::au 68 false (aZ 71 .gtr 70 4)::dq 72 68 71::ad 73 72::au 73 false (aL 74 3 1 4)::au 73 false (aN 75 1 74)::au 73 false (aL 76 2 1 4)::au 73 false (aN 77 1 76)::au 73 false (b2 78 .lss 75 77)::dq 79 73 78::ad 80 79::au 80 false (aL 81 3 1 4)::au 80 false (aN 82 1 81)::au 80 false (aZ 83 .gtr 82 100000)::dq 84 80 83::ad 85 84::au 85 false (aL 86 1 1 4)::au 85 false (aN 87 1 86)::au 85 false (aZ 88 .lss 87 0)::dq 89 85 88::ad 90 89::au 90 false (aL 91 1 1 4)::au 90 false (aN 92 1 91)::au 90 false (aL 93 0 1 1)::au 90 false (aN 94 1 93)::au 90 false (cw 95 94)::au 90 false (b2 96 .geq 92 95)::dq 97 90 96::ad 98 97::cZ 98 false 99 3::au 98 false (aZ 100 .gtr 99 0)::cZ 98 false 101 100::au 101 true (aL 102 1 1 1)::au 101 true (aN 103 1 102)::cZ 101 true 104 3::au 101 true (aZ 105 .sub 104 1)::au 101 true (dk 106 4 103 105)::au 101 true (aL 107 1 1 106)::au 101 true (aN 108 1 107)::au 101 true (aL 109 1 1 4)::au 101 true (aN 110 1 109)::au 101 true (b2 111 .geq 108 110)::au 98 false (dT 112 101 111)::dq 113 98 112::[])) (bg 113 (ag [b3 2 false] .ret) .skip)))))) (.region [aZ 114 .add 25 1,ad 25 114])))) (.seq (ag [aL 115 1 1 1,aN 116 1 115,cw 117 116,cl 118 0] (.block 2 (.loop (ag [b2 119 .lss 118 117] (.seq (bg 119 .skip (.exit 2)) (.seq (.block 3 (ag [ad 120 118,dk 121 4 116 118,bT 122 4 121,dm (.alloc 7 none (.agg [.str [],.int .i64 0,.int .i64 0,.int .i64 0])),ad 6 120,cI 4 7 122] (ag [bT 123 2 1,ad 124 6,en 125 64 123 124,ad 8 125] (.seq (ag [aL 126 0 1 1,aN 127 1 126,ad 128 8,aZ 129 .sub 128 1,dk 130 7 127 129,aL 131 0 1 130,aN 132 1 131,aZ 133 .neq 132 6] (bg 133 (ag [b3 2 false] .ret) .skip)) (ag [aL 134 1 1 7,aN 135 1 134,ad 9 135] (.block 4 (.loop (.seq (ag [ad 136 9,ad 137 8,b2 138 .lss 136 137] (bg 138 .skip (.exit 4))) (.seq (.block 5 (ag [bT 141 2 1,ad 142 9,ad 143 6,iV 144 105 [.t 141,.t 142,.t 143],e7 145 144] (bg 145 (ag [b3 2 false] .ret) .skip))) (.region [ad 139 9,aZ 140 .add 139 1,ad 9 140])))))))))) (.region [aZ 146 .add 118 1,ad 118 146]))))))) (ag [b3 2 true] .ret)))))
@[simp] def wC:List cr:=[.tmp 2]
def zD:C:=(ag [dL 2 0,cl 4 0] (.seq (ag [ad 5 1,aZ 6 .add 5 1,aL 7 1 1 2,aN 8 1 7,cw 9 8,b2 10 .lss 6 9] (bg 10 (ag [aL 11 1 1 2,aN 12 1 11,ad 13 1,aZ 14 .add 13 1,dk 15 4 12 14,aL 16 1 1 15,aN 17 1 16,ad 4 17] .ret) .skip)) (ag [aL 18 0 1 2,aN 19 1 18,cw 20 19,ad 4 20] .ret)))
@[simp] def RS:List cr:=[.tmp 4]
def DR:C:=(ag [dL 2 0,cl 4 0] (.seq (ag [aL 7 1 1 2,aN 8 1 7,cw 9 8,cl 10 0] (jG 11 10 9 (.seq (.block 1 (ag [ad 12 10,dk 13 4 8 10,bT 14 4 13,dm (.alloc 6 none (.agg [.str [],.int .i64 0,.int .i64 0,.int .i64 0])),ad 5 12,cI 4 6 14] (ag [aL 15 0 1 6,aN 16 1 15,ad 17 1,b2 18 .eql 16 17] (bg 18 (ag [ad 19 5,ad 4 19] .ret) .skip)))) (.region [aZ 20 .add 10 1,ad 10 20])))) (ag [cl 4 (-1)] .ret)))
@[simp] def RR:List cr:=[.tmp 4]
def lE:C:=(ag [dL 3 0,b3 6 false] (ag [aL 14 0 1 3,aN 15 1 14,ad 16 1,dk 17 7 15 16,bT 18 7 17,dm (.alloc 7 none (.agg [.int .i64 0,.int .i64 0,.int .i64 0,.int .i64 0,.str [],.slice 4 .nil [],.slice 4 .nil []])),cI 7 7 18] (ag [aL 19 1 1 3,aN 20 1 19,ad 21 2,dk 22 4 20 21,aL 23 1 1 22,aN 24 1 23,ad 8 24] (ag [bT 25 2 3,ad 26 2,en 27 64 25 26,ad 9 27] (ag [aL 28 1 1 3,aN 29 1 28,ad 30 2,dk 31 4 29 30,aL 32 3 1 31,aN 33 1 32,ad 10 33] (.seq (ag [aL 34 0 1 7,aN 35 1 34,aZ 36 .neq 35 0,ad 37 36,au 37 true (aL 38 0 1 7),au 37 true (aN 39 1 38),au 37 true (aZ 40 .neq 39 5),dT 41 37 40,ad 42 41,au 42 true (h7 43 3 4 7),au 42 true (bT 44 4 43),au 42 true (cK 45 171 44),au 42 true (e7 46 45),dT 47 42 46] (bg 47 (ag [b3 6 false] .ret) .skip)) (ag [aL 48 1 1 7,aN 49 1 48,ad 50 1,b2 51 .gtr 49 50,ad 52 51,au 52 true (aL 53 1 1 7),au 52 true (aN 54 1 53),cZ 52 true 55 8,au 52 true (b2 56 .geq 54 55),dT 57 52 56,ad 58 57,au 58 true (aL 59 1 1 7),au 58 true (aN 60 1 59),cZ 58 true 61 9,au 58 true (b2 62 .lss 60 61),dT 63 58 62,ad 11 63] (.seq (ag [aL 64 0 1 7,aN 65 1 64] (.block 0 (ag [aZ 67 .eql 65 0,ad 66 67] (bg 66 (ag (aL 68 1 1 7::aN 69 1 68::aZ 70 .eql 69 0::ad 71 70::au 71 true (aL 72 2 1 7)::au 71 true (aN 73 1 72)::au 71 true (aZ 74 .eql 73 0)::dT 75 71 74::ad 76 75::au 76 true (h7 77 3 4 7)::au 76 true (bT 78 4 77)::au 76 true (cK 79 115 78)::dT 80 76 79::ad 81 80::au 81 true (h7 82 3 4 7)::au 81 true (aL 83 0 1 82)::au 81 true (aN 84 1 83)::au 81 true (aZ 85 .geq 84 2)::dT 86 81 85::ad 87 86::au 87 true (h7 88 3 4 7)::au 87 true (aL 89 0 1 88)::au 87 true (aN 90 1 89)::au 87 true (aZ 91 .leq 90 6)::dT 92 87 91::ad 93 92::au 93 true (h7 94 3 4 7)::au 93 true (bT 95 4 94)::cZ 93 true 96 10::au 93 true (en 97 120 95 96)::dT 98 93 97::ad 6 98::[]) .ret) (ag [aZ 100 .eql 65 5,ad 99 100] (bg 99 (.seq (ag [aL 101 1 1 7,aN 102 1 101,aZ 103 .neq 102 0,ad 104 103,au 104 false (aL 105 2 1 7),au 104 false (aN 106 1 105),au 104 false (aZ 107 .neq 106 0),dq 108 104 107,ad 109 108,au 109 false (h7 110 3 4 7),au 109 false (bT 111 4 110),au 109 false (cK 112 115 111),au 109 false (e7 113 112),dq 114 109 113,ad 115 114,au 115 false (h7 116 3 4 7),au 115 false (aL 117 0 1 116),au 115 false (aN 118 1 117),au 115 false (aZ 119 .neq 118 9),dq 120 115 119,ad 121 120,au 121 false (h7 122 3 4 7),au 121 false (bT 123 4 122),cZ 121 false 124 10,au 121 false (en 125 120 123 124),au 121 false (e7 126 125),dq 127 121 126] (bg 127 (ag [b3 6 false] .ret) .skip)) (ag [bT 128 2 3,h7 129 3 4 7,aL 130 1 1 129,aN 131 1 130,en 132 104 128 131,ad 12 132] (.seq (.drawn true 233 [ad 133 12,aZ 134 .geq 133 0,ad 135 134,au 135 true (aL 136 1 1 3),au 135 true (aN 137 1 136),cZ 135 true 138 12,au 135 true (dk 139 4 137 138),au 135 true (aL 140 2 1 139),au 135 true (aN 141 1 140),au 135 true (h7 142 3 4 7),au 135 true (aL 143 2 1 142),au 135 true (aN 144 1 143),au 135 true (cw 145 144),au 135 true (b2 146 .eql 141 145),dT 147 135 146,ad 6 147]) .ret))) (ag [aZ 149 .eql 65 1,ad 148 149] (bg 148 (.seq (ag [ad 150 11,e7 151 150,ad 152 151,au 152 false (aL 153 2 1 7),au 152 false (aN 154 1 153),au 152 false (aZ 155 .lss 154 0),dq 156 152 155,ad 157 156,au 157 false (aL 158 2 1 7),au 157 false (aN 159 1 158),au 157 false (aZ 160 .gtr 159 7),dq 161 157 160] (bg 161 (ag [b3 6 false] .ret) .skip)) (ag [aL 162 0 1 3,aN 163 1 162,aL 164 1 1 7,aN 165 1 164,dk 166 7 163 165,bT 167 7 166,dm (.alloc 13 none (.agg [.int .i64 0,.int .i64 0,.int .i64 0,.int .i64 0,.str [],.slice 4 .nil [],.slice 4 .nil []])),cI 7 13 167] (ag [aL 168 0 1 13,aN 169 1 168,aZ 170 .eql 169 1,ad 171 170,au 171 false (aL 172 0 1 13),au 171 false (aN 173 1 172),au 171 false (aZ 174 .eql 173 2),dq 175 171 174,ad 176 175,au 176 true (aL 177 2 1 13),au 176 true (aN 178 1 177),au 176 true (aL 179 2 1 7),au 176 true (aN 180 1 179),au 176 true (aZ 181 .add 180 1),au 176 true (b2 182 .eql 178 181),dT 183 176 182,ad 6 183] .ret))) (ag [aZ 185 .eql 65 2,ad 184 185] (bg 184 (ag [aL 186 1 1 7,aN 187 1 186,aZ 188 .eql 187 0,ad 189 188,au 189 true (aL 190 2 1 7),au 189 true (aN 191 1 190),au 189 true (aZ 192 .geq 191 0),dT 193 189 192,ad 194 193,au 194 true (aL 195 2 1 7),au 194 true (aN 196 1 195),au 194 true (aZ 197 .leq 196 7),dT 198 194 197,ad 6 198] .ret) (ag [aZ 200 .eql 65 3,ad 199 200] (bg 199 (ag [ad 201 11,ad 202 201,au 202 true (aL 203 2 1 7),au 202 true (aN 204 1 203),au 202 true (aZ 205 .eql 204 0),dT 206 202 205,ad 6 206] .ret) (ag [aZ 208 .eql 65 4,ad 207 208] (bg 207 (ag [aL 209 1 1 7,aN 210 1 209,aZ 211 .eql 210 0,ad 212 211,au 212 true (aL 213 2 1 7),au 212 true (aN 214 1 213),au 212 true (aZ 215 .eql 214 0),dT 216 212 215,ad 6 216] .ret) (ag [aZ 218 .eql 65 6,ad 217 218] (bg 217 (ag [aL 219 1 1 7,aN 220 1 219,aZ 221 .eql 220 0,ad 222 221,au 222 true (aL 223 2 1 7),au 222 true (aN 224 1 223),au 222 true (aZ 225 .eql 224 0),dT 226 222 225,ad 227 226,cZ 227 true 228 1,cZ 227 true 229 9,au 227 true (aZ 230 .sub 229 1),au 227 true (b2 231 .eql 228 230),dT 232 227 231,ad 6 232] .ret) .skip)))))))))))))))) (ag [b3 6 false] .ret)))))))))
@[simp] def lU:List cr:=[.tmp 6]
def uL:List (Nat×cR):=[
 (3,⟨1,8,.int .i64,.int .i64 0⟩),
 (9,⟨1,16,.str,.str []⟩),
 (28,⟨1,24,.slice 74,.slice 7 .nil []⟩),
 (29,⟨1,24,.slice 99,.slice 4 .nil []⟩),
 (31,⟨2,48,.struct [(0,28),(1,29)],.agg [.slice 7 .nil [],.slice 4 .nil []]⟩),
 (35,⟨1,24,.slice 5,.slice 1 .nil []⟩),
 (38,⟨1,24,.slice 40,.slice 4 .nil []⟩),
 (65,⟨4,72,.struct [(0,3),(1,9),(2,38),(3,63)],.agg [.int .i64 0,.str [],.slice 4 .nil [],.slice 4 .nil []]⟩),
 (74,⟨7,96,.struct [(0,3),(1,3),(2,3),(3,65)],.agg [.int .i64 0,.int .i64 0,.int .i64 0,.int .i64 0,.str [],.slice 4 .nil [],.slice 4 .nil []]⟩),
 (99,⟨4,40,.struct [(0,9),(1,3),(2,3),(3,3)],.agg [.str [],.int .i64 0,.int .i64 0,.int .i64 0]⟩),
 (104,⟨1,8,.other,.nilp⟩),
 (106,⟨2,32,.struct [(0,104),(1,35)],.agg [.nilp,.slice 1 .nil []]⟩)]
theorem jh:fm aF uL=true:=by kernel_rfl
theorem HL:cG uL zB Ia 1 Tryz.f13=true:=by kernel_rfl
theorem Fg:aF.funcs[(13:Nat)]? =some Tryz.f13:=Tryz.func13
theorem BX:cG uL xe wC 1 Tryz.f34=true:=by kernel_rfl
theorem Af:aF.funcs[(34:Nat)]? =some Tryz.f34:=Tryz.func34
theorem HN:cG uL zD RS 2 Tryz.f64=true:=by kernel_rfl
theorem Fi:aF.funcs[(64:Nat)]? =some Tryz.f64:=Tryz.func64
theorem QV:cG uL DR RR 2 Tryz.f104=true:=by kernel_rfl
theorem MC:aF.funcs[(104:Nat)]? =some Tryz.f104:=Tryz.func104
theorem mE:cG uL lE lU 3 Tryz.f105=true:=by kernel_rfl
theorem mf:aF.funcs[(105:Nat)]? =some Tryz.f105:=Tryz.func105
def GX(es:List Ey)(s:List bt)(i:Nat):Prop:= ∀(k:Nat) (e:Ey),k<i->es[k]? =some e->e.name≠s
theorem JB(c:Cd)(s:List bt):bF aF 104 [c.e,.str s] (.int .i64 (hc c.es s)):=by
 generalize aW:hc c.es s=R;refine bq jh MC QV fun aO=>?_;unfold DR;have ee:c.es.length<=68719476736:=by simp[Cd.e_eq,-zz,fb,eQ,e0,aX]at aO;omega
 clear aO;simp;refine fv (fun i (_:Unit)=>⟨[(1,.str s),(8,.slice 4 .no (c.es.map Ey.e)),(9,.int .i64 c.es.length),(10,.int .i64 i)],[],[],0,[]⟩) c.es.length (fun i _=>GX c.es s i) () (by simp;exact cq) (fun k b aa=>Ω) (fun _ ai _=>?_) (fun i _ aq ai _=>?_)
 ·have:R= -1:=by rw[<-aW];exact E4 fun j f av=>ai j f (dw.1 av).1 av
  subst this;clear ai aW;exact bY
 ·obtain⟨e,he,cP⟩:=eM aq;have cS:bs ((i:Int)+1):=by unfold bs;omega
  by_cases aS:e.name=s
  ·have:R=i:=by rw[<-aW];exact xu he aS ai
   subst this;clear ai aW;subst aS;exact bY
  ·have h0:(e.name==s)=false:=by simpa using aS
   have gK:GX c.es s (i+1):=fun k f aa av=>by
    rcases ko k i with h|h
    ·exact ai k f h av
    ·obtain rfl:k=i:=Ω
     rw[he]at av;cases av;exact aS
   clear ai aW;exact nq
theorem pw(c:Cd)(i:Nat)(aq:i<c.es.length):bF aF 64 [c.e,.int .i64 i] (.int .i64 (c.fin i)):=by
 by_cases h:i+1<c.es.length
 ·obtain⟨e,he⟩:∃e,c.es[i+1]? =some e:=⟨_,cB h⟩;have cP:∀h,(c.es[i+1]'h)=e:=fun bS=>by rw[cB h]at he;exact fo he
  rw[Cd.fin_of he];refine bq jh Fi HN fun aO=>?_;unfold zD;have ee:c.es.length<=68719476736:=by simp[Cd.e_eq,-zz,fb,eQ,e0,aX]at aO;omega
  have cS:bs ((i:Int)+1):=by unfold bs;omega
  have cM:(i:Int)+1<c.es.length:=Ω
  have O7:(0:Int)<=(i:Int)+1:=Ω
  have Wi:((i:Int)+1).toNat=i+1:=Ω
  clear aO;exact bY
 ·rw[Cd.fin_last Ω];refine bq jh Fi HN fun aO=>?_;unfold zD;have ee:c.es.length<=68719476736:=by simp[Cd.e_eq,-zz,fb,eQ,e0,aX]at aO;omega
  have cS:bs ((i:Int)+1):=by unfold bs;omega
  have cM:¬(i:Int)+1<c.es.length:=Ω
  clear aO;exact bY
def hq(c:Cd)(e:Ey)(gJ at':Int)(x:Ix):Bool:=
 if x.op=0 then x.a==0&&x.b==0&&x.g.fits 80&&decide (2<=x.g.kind)&&decide (x.g.kind<=6)&&pA x.g e.vars
 else if x.op=5 then x.a==0&&x.b==0&&x.g.fits 80&&x.g.kind==9&&pA x.g e.vars&&(decide (0<=hc c.es x.g.name)&&(match c.es[(hc c.es x.g.name).toNat]? with|some f=>f.ar==(x.g.ts.length:Int)|none=>false))
 else rl x.g&&(
  if x.op=1 then(decide (at'<x.a)&&decide (e.pos<=x.a)&&decide (x.a<gJ))&&(decide (0<=x.b)&&decide (x.b<=7))&&(match c.is[x.a.toNat]? with|some y=>(y.op==1||y.op==2)&&y.b==x.b+1|none=>false)
  else if x.op=2 then x.a==0&&decide (0<=x.b)&&decide (x.b<=7)
  else if x.op=3 then(decide (at'<x.a)&&decide (e.pos<=x.a)&&decide (x.a<gJ))&&x.b==0
  else if x.op=4 then x.a==0&&x.b==0
  else if x.op=6 then x.a==0&&x.b==0&&at'==gJ-1
  else false)
theorem Lp(es:List Ey)(s:List bt)(P:Ey->Prop)(B:Ey->Bool)(hB:∀f,B f=true↔P f):(decide (0<=hc es s)&&(match es[(hc es s).toNat]? with|some f=>B f|none=>false))=true↔∃(k:Nat) (f:Ey),hc es s=(k:Nat)/\es[k]? =some f/\P f:=by
 constructor
 ·intro h;rw[bE,fY]at h;obtain⟨a1,h⟩:=h;split at h
  ·rename_i f av;exact⟨_,f,Ω,av,(hB f).1 h⟩
  ·cases h
 ·rintro⟨k,f,I,J,ak⟩;rw[I];simp only[Int.toNat_natCast,J,(hB f).2 ak];simp
theorem NS(l:List Ix)(n:Nat)(P:Ix->Prop)(B:Ix->Bool)(hB:∀f,B f=true↔P f):(match l[n]? with|some f=>B f|none=>false)=true↔∃f,l[n]? =some f/\P f:=by
 cases h:l[n]? with
 |none=>simp
 |some f=>simp[hB]
theorem GV(c:Cd)(e:Ey)(gJ at':Int)(x:Ix):hq c e gJ at' x=true↔ua c e gJ at' x:=by
 unfold hq ua;by_cases a1:x.op=0
 ·simp[a1,wV,and_assoc]
 by_cases bn:x.op=5
 ·have e:=Lp c.es x.g.name (fun f=>f.ar=x.g.ts.length) (fun f=>f.ar==(x.g.ts.length:Int)) (fun f=>by simp);rw[bu a1,if_pos bn];rw[bE];refine(and_congr Iff.rfl e).trans ?_;simp[bn,wV,and_assoc]
 by_cases I:x.op=1
 ·have e:=NS c.is x.a.toNat (fun y=>(y.op=1\/y.op=2)/\y.b=x.b+1) (fun y=>(y.op==1||y.op==2)&&y.b==x.b+1) (fun f=>by simp);rw[bu a1,bu bn,if_pos I];rw[bE,bE];refine(and_congr Iff.rfl (and_congr Iff.rfl e)).trans ?_;simp[I,and_assoc]
 by_cases J:x.op=2
 ·simp[J,and_assoc]
 by_cases ak:x.op=3
 ·simp[ak,and_assoc]
 by_cases aV:x.op=4
 ·simp[aV,and_assoc]
 by_cases cb:x.op=6
 ·simp[cb,and_assoc]
 simp[a1,I,J,ak,aV,bn,cb];intro _ _;omega
end
section
open Go Go.Pv
section
variable (c:Cd) (k i:Nat) {x:Ix} {e:Ey} (ab:c.is[k]? =some x) (he:c.es[i]? =some e)
include ab he
set_option maxRecDepth 8000 in
theorem PU(a1:x.op=0):bF aF 105 [c.e,.int .i64 k,.int .i64 i] (.bool (hq c e (c.fin i) k x)):=by
 have ff:=(dw.1 ab).1;have eF:=(dw.1 he).1;have bL:∀h,(c.is[k]'h)=x:=fun h=>by rw[cB ff]at ab;exact fo ab
 have cP:∀h,(c.es[i]'h)=e:=fun h=>by rw[cB eF]at he;exact fo he
 have dK:=pw c i eF;generalize aW:hq c e (c.fin i) k x=R;unfold hq at aW;have cc:=Jw x.g;rw[if_pos a1]at aW;generalize c.fin i=gJ at dK;cases av:x.g.fits 80
 ·rw[av]at cc aW;simp at aW;refine bq jh mf mE fun aO=>?_;unfold lE;clear aO;simp[ff,eF,bL,cP,ab,he];((with_reducible repeat' first|refine aP ?_|refine aC dK ?_|refine aD dK ?_|refine aC cc ?_|refine aD cc ?_|simp[a1,ff,eF,bL,cP,ab,he]|((first|apply b7|apply b9|apply b8)<;>intro h<;>try simp at h))<;>(try exact cn));all_goals(simp[bJ,lU,bp,bz,bo];simp_all;done)
 ·have eN:=JK x.g (by unfold Gm.fits at av;rw[bE]at av;exact av.1) e.vars;rw[av]at cc aW;refine bq jh mf mE fun aO=>?_;unfold lE;clear aO;simp[ff,eF,bL,cP,ab,he];((with_reducible repeat' first|refine aP ?_|refine aC dK ?_|refine aD dK ?_|refine aC cc ?_|refine aD cc ?_|refine aC eN ?_|refine aD eN ?_|simp[a1,ff,eF,bL,cP,ab,he]|((first|apply b7|apply b9|apply b8)<;>intro h<;>try simp at h))<;>(try exact cn));all_goals simp[bJ,lU,bp,bz,bo]
  all_goals clear dK cc eN
  all_goals first|(simp_all;done)|grind
end
end
section
open Go Go.Pv
section
variable (c:Cd) (k i:Nat) {x:Ix} {e:Ey} (ab:c.is[k]? =some x) (he:c.es[i]? =some e)
include ab he
set_option maxRecDepth 8000 in
theorem PZ(a1:x.op=5):bF aF 105 [c.e,.int .i64 k,.int .i64 i] (.bool (hq c e (c.fin i) k x)):=by
 have ff:=(dw.1 ab).1;have eF:=(dw.1 he).1;have bL:∀h,(c.is[k]'h)=x:=fun h=>by rw[cB ff]at ab;exact fo ab
 have cP:∀h,(c.es[i]'h)=e:=fun h=>by rw[cB eF]at he;exact fo he
 have dK:=pw c i eF;generalize aW:hq c e (c.fin i) k x=R;unfold hq at aW;have cc:=Jw x.g;have hi:=JB c x.g.name;rw[bu Ω,if_pos a1]at aW;generalize c.fin i=gJ at dK;cases av:x.g.fits 80
 ·rw[av]at cc aW;simp at aW;refine bq jh mf mE fun aO=>?_;unfold lE;clear aO;simp[ff,eF,bL,cP,ab,he];((with_reducible repeat' first|refine aP ?_|refine aC dK ?_|refine aD dK ?_|refine aC cc ?_|refine aD cc ?_|simp[a1,ff,eF,bL,cP,ab,he]|((first|apply b7|apply b9|apply b8)<;>intro h<;>try simp at h))<;>(try exact cn));all_goals(simp[bJ,lU,bp,bz,bo];simp_all;done)
 ·have eN:=JK x.g (by unfold Gm.fits at av;rw[bE]at av;exact av.1) e.vars;rw[av]at cc aW;have aa:hc c.es x.g.name= -1\/ ∃j f,hc c.es x.g.name=(j:Nat)/\c.es[j]? =some f:=by
   by_cases h:0<=hc c.es x.g.name
   ·obtain⟨j,ai⟩:∃j:Nat,hc c.es x.g.name=j:=⟨(hc c.es x.g.name).toNat,Ω⟩;obtain⟨f,I,_⟩:=xv ai;exact .inr ⟨j,f,ai,I⟩
   ·left;unfold hc at h⊢;split at h
    ·omega
    ·rfl
  rcases aa with aa|⟨j,f,ai,gS⟩
  ·rw[aa]at aW hi;simp at aW;refine bq jh mf mE fun aO=>?_;unfold lE;clear aO;simp[ff,eF,bL,cP,ab,he];((with_reducible repeat' first|refine aP ?_|refine aC dK ?_|refine aD dK ?_|refine aC cc ?_|refine aD cc ?_|refine aC eN ?_|refine aD eN ?_|refine aC hi ?_|refine aD hi ?_|simp[a1,ff,eF,bL,cP,ab,he]|((first|apply b7|apply b9|apply b8)<;>intro h<;>try simp at h))<;>(try exact cn));all_goals simp[bJ,lU,bp,bz,bo]
   all_goals clear dK cc eN
   all_goals first|(simp_all;done)|grind
  ·have fF:=(dw.1 gS).1;have vD:∀h,(c.es[j]'h)=f:=fun h=>by rw[cB fF]at gS;exact fo gS
   rw[ai]at aW hi;simp[gS]at aW;refine bq jh mf mE fun aO=>?_;unfold lE;clear aO;simp[ff,eF,bL,cP,ab,he];((with_reducible repeat' first|refine aP ?_|refine aC dK ?_|refine aD dK ?_|refine aC cc ?_|refine aD cc ?_|refine aC eN ?_|refine aD eN ?_|refine aC hi ?_|refine aD hi ?_|simp[a1,ff,eF,bL,cP,ab,he,fF,vD,gS]|((first|apply b7|apply b9|apply b8)<;>intro h<;>try simp at h))<;>(try exact cn));all_goals simp[bJ,lU,bp,bz,bo]
   all_goals clear dK cc eN
   all_goals first|(simp_all;done)|grind
end
end
section
open Go Go.Pv
section
variable (c:Cd) (k i:Nat) {x:Ix} {e:Ey} (ab:c.is[k]? =some x) (he:c.es[i]? =some e)
include ab he
set_option maxRecDepth 8000 in
theorem PV(a1:x.op=1)(qQ:c.fin i<=c.is.length)(iN:0<=e.pos):bF aF 105 [c.e,.int .i64 k,.int .i64 i] (.bool (hq c e (c.fin i) k x)):=by
 have ff:=(dw.1 ab).1;have eF:=(dw.1 he).1;have bL:∀h,(c.is[k]'h)=x:=fun h=>by rw[cB ff]at ab;exact fo ab
 have cP:∀h,(c.es[i]'h)=e:=fun h=>by rw[cB eF]at he;exact fo he
 have dK:=pw c i eF;generalize aW:hq c e (c.fin i) k x=R;unfold hq at aW;have c8:=uO x.g;rw[bu Ω,bu Ω,if_pos a1]at aW;generalize c.fin i=gJ at dK aW qQ;by_cases lJ:(k:Int)<x.a/\e.pos<=x.a/\x.a<gJ
 ·obtain⟨y,bG⟩:∃y,c.is[x.a.toNat]? =some y:=⟨_,cB Ω⟩;obtain⟨a,bU⟩:∃a:Nat,x.a=a:=⟨x.a.toNat,Ω⟩;rw[bU]at bG lJ aW;simp only[Int.toNat_natCast]at bG aW;have jt:=(dw.1 bG).1;have GL:∀h,(c.is[a]'h)=y:=fun h=>by rw[cB jt]at bG;exact fo bG
  obtain⟨i1,i2,i3⟩:=lJ;simp[bG,i1,i2,i3]at aW;by_cases af:0<=x.b/\x.b<=7
  ·obtain⟨bH,bR⟩:=af;have tL:bs (x.b+1):=by unfold bs;omega
   simp[bH,bR]at aW;have QD:¬x.b<0:=Ω
   have QE:¬7<x.b:=Ω
   refine bq jh mf mE fun aO=>?_;unfold lE;clear aO;simp[ff,eF,bL,cP,ab,he];((with_reducible repeat' first|refine aP ?_|refine aC dK ?_|refine aD dK ?_|refine aC c8 ?_|refine aD c8 ?_|simp[a1,ff,eF,bL,cP,ab,he,bU,jt,GL,bG,i1,i2,i3,QD,QE,tL]|((first|apply b7|apply b9|apply b8)<;>intro h<;>try simp at h))<;>(try exact cn));all_goals simp[bJ,lU,bp,bz,bo]
   all_goals clear dK c8
   all_goals first|(simp_all;done)|grind
  ·have Ax:R=false:=by rw[<-aW];simp;intro _ I J;exact absurd ⟨I,J⟩ af
   clear aW;subst Ax;refine bq jh mf mE fun aO=>?_;unfold lE;clear aO;simp[ff,eF,bL,cP,ab,he];((with_reducible repeat' first|refine aP ?_|refine aC dK ?_|refine aD dK ?_|refine aC c8 ?_|refine aD c8 ?_|simp[a1,ff,eF,bL,cP,ab,he,bU,jt,GL,bG,i1,i2,i3]|((first|apply b7|apply b9|apply b8)<;>intro h<;>try simp at h))<;>(try exact cn));all_goals simp[bJ,lU,bp,bz,bo]
   all_goals clear dK c8
   all_goals first|(simp_all;done)|grind
 ·have Ax:R=false:=by rw[<-aW];simp;intro _ I J ak;exact absurd ⟨I,J,ak⟩ lJ
  clear aW;subst Ax;refine bq jh mf mE fun aO=>?_;unfold lE;clear aO;simp[ff,eF,bL,cP,ab,he];((with_reducible repeat' first|refine aP ?_|refine aC dK ?_|refine aD dK ?_|refine aC c8 ?_|refine aD c8 ?_|simp[a1,ff,eF,bL,cP,ab,he]|((first|apply b7|apply b9|apply b8)<;>intro h<;>try simp at h))<;>(try exact cn));all_goals simp[bJ,lU,bp,bz,bo]
  all_goals clear dK c8
  all_goals first|(simp_all;done)|grind
end
end
section
open Go Go.Pv
section
variable (c:Cd) (k i:Nat) {x:Ix} {e:Ey} (ab:c.is[k]? =some x) (he:c.es[i]? =some e)
include ab he
set_option maxRecDepth 8000 in
theorem PW(a1:x.op=2):bF aF 105 [c.e,.int .i64 k,.int .i64 i] (.bool (hq c e (c.fin i) k x)):=by
 have ff:=(dw.1 ab).1;have eF:=(dw.1 he).1;have bL:∀h,(c.is[k]'h)=x:=fun h=>by rw[cB ff]at ab;exact fo ab
 have cP:∀h,(c.es[i]'h)=e:=fun h=>by rw[cB eF]at he;exact fo he
 have dK:=pw c i eF;generalize aW:hq c e (c.fin i) k x=R;unfold hq at aW;have c8:=uO x.g;rw[bu Ω,bu Ω,bu Ω,if_pos a1]at aW;generalize c.fin i=gJ at dK aW;refine bq jh mf mE fun aO=>?_;unfold lE;clear aO;simp[ff,eF,bL,cP,ab,he];((with_reducible repeat' first|refine aP ?_|refine aC dK ?_|refine aD dK ?_|refine aC c8 ?_|refine aD c8 ?_|simp[a1,ff,eF,bL,cP,ab,he]|((first|apply b7|apply b9|apply b8)<;>intro h<;>try simp at h))<;>(try exact cn));all_goals simp[bJ,lU,bp,bz,bo]
 all_goals clear dK c8
 all_goals first|(simp_all;done)|grind
set_option maxRecDepth 8000 in
theorem PX(a1:x.op=3):bF aF 105 [c.e,.int .i64 k,.int .i64 i] (.bool (hq c e (c.fin i) k x)):=by
 have ff:=(dw.1 ab).1;have eF:=(dw.1 he).1;have bL:∀h,(c.is[k]'h)=x:=fun h=>by rw[cB ff]at ab;exact fo ab
 have cP:∀h,(c.es[i]'h)=e:=fun h=>by rw[cB eF]at he;exact fo he
 have dK:=pw c i eF;generalize aW:hq c e (c.fin i) k x=R;unfold hq at aW;have c8:=uO x.g;rw[bu Ω,bu Ω,bu Ω,bu Ω,if_pos a1]at aW;generalize c.fin i=gJ at dK aW;refine bq jh mf mE fun aO=>?_;unfold lE;clear aO;simp[ff,eF,bL,cP,ab,he];((with_reducible repeat' first|refine aP ?_|refine aC dK ?_|refine aD dK ?_|refine aC c8 ?_|refine aD c8 ?_|simp[a1,ff,eF,bL,cP,ab,he]|((first|apply b7|apply b9|apply b8)<;>intro h<;>try simp at h))<;>(try exact cn));all_goals simp[bJ,lU,bp,bz,bo]
 all_goals clear dK c8
 all_goals first|(simp_all;done)|grind
set_option maxRecDepth 8000 in
theorem PY(a1:x.op=4):bF aF 105 [c.e,.int .i64 k,.int .i64 i] (.bool (hq c e (c.fin i) k x)):=by
 have ff:=(dw.1 ab).1;have eF:=(dw.1 he).1;have bL:∀h,(c.is[k]'h)=x:=fun h=>by rw[cB ff]at ab;exact fo ab
 have cP:∀h,(c.es[i]'h)=e:=fun h=>by rw[cB eF]at he;exact fo he
 have dK:=pw c i eF;generalize aW:hq c e (c.fin i) k x=R;unfold hq at aW;have c8:=uO x.g;rw[bu Ω,bu Ω,bu Ω,bu Ω,bu Ω,if_pos a1]at aW;generalize c.fin i=gJ at dK aW;refine bq jh mf mE fun aO=>?_;unfold lE;clear aO;simp[ff,eF,bL,cP,ab,he];((with_reducible repeat' first|refine aP ?_|refine aC dK ?_|refine aD dK ?_|refine aC c8 ?_|refine aD c8 ?_|simp[a1,ff,eF,bL,cP,ab,he]|((first|apply b7|apply b9|apply b8)<;>intro h<;>try simp at h))<;>(try exact cn));all_goals simp[bJ,lU,bp,bz,bo]
 all_goals clear dK c8
 all_goals first|(simp_all;done)|grind
end
end
end Go.Proofs.YtlnndmgfngfeiaaGreatDoor
