/- Own contracts: the parts of a goal read. -/
import Derived.Test.YtlnndmgfngfeiaaGreatDoorProg
import Derived.Test.YtlnndmgfngfeiaaGreatDoorZp7
set_option linter.all false
set_option maxHeartbeats 4000000
set_option maxRecDepth 4000
open Bool renaming and_eq_true->bM,false_eq_true->kk
open Go.IntKind renaming i64->kD
open Go.IntWalk renaming i64_in->ng
open Go.Proofs.Tryz renaming prog->aQ
open List renaming all_eq_true->jy,cons_append->dm,drop_eq_getElem_cons->pd,drop_length->jN,getElem?_eq_getElem->cF,getElem?_eq_some_iff->e3,length_cons->lx,length_drop->hg,length_pos_iff->q2,map_cons->gY,mem_append->hv,mem_cons->gp,mem_map->lZ,mem_of_getElem?->fJ,take_add_one->k3,take_length->j4,take_succ_cons->sB
open Nat renaming eq_or_lt_of_le->iX,le_refl->cq,lt_or_ge->ly
open Option renaming getD_some->pf,isSome_none->sD,map_none->tG,map_some->kF
open Option.some renaming inj->gq,injEq->dZ
open Prod.mk renaming injEq->gA
open _root_ renaming False->cZ,Option->aT,UInt8->al,beq_eq_false_iff_ne->jm,decide_eq_true->nM,decide_eq_true_eq->fK,if_neg->bq
namespace Go.Proofs.YtlnndmgfngfeiaaGreatDoor
section
open Go Go.Pv
def zC(o:aT Int):ae:= .tuple [.int .i64 (o.getD 0),.bool o.isSome]
def ks(l:List al):Int:=l.foldl (fun a c=>a*10+((c.toNat:Int)-48)) 0
def tV(l:List al):Prop:= ∀c∈l,48<=c.toNat/\c.toNat<=57
theorem yD(l:List al)(c:al):ks (l++[c])=ks l*10+((c.toNat:Int)-48):=by simp[ks]
theorem rj(u:Nat):ks (Lib.decDigits u)=u:=by
 induction u using Nat.strongRecOn with
 |_ u bo=>
  by_cases hu:u<10
  ·rw[sM hu];simp only[ks,List.foldl_cons,List.foldl_nil,AO hu];omega
  ·rw[vn Ω,yD,bo _ Ω,AO (Nat.mod_lt _ Ω)];omega
theorem rh(u:Nat):tV (Lib.decDigits u):=AN u
theorem AQ{l:List al}(h:tV l):∀k,0<=ks (l.take k)/\ks (l.take k)<=ks (l.take (k+1)):=by
 intro k;induction k with
 |zero=>
  cases l with
  |nil=>simp[ks]
  |cons c r=>have:=h c Ψ;simp[ks];omega
 |succ k bo=>
  rcases ly (k+1) l.length with aa|aa
  ·obtain⟨c,aE⟩:∃c,l[k+1]? =some c:=⟨_,cF aa⟩;have aF:=h c (fJ aE);have e:l.take (k+1+1)=l.take (k+1)++[c]:=by rw[k3,aE];rfl
   rw[e,yD];omega
  ·rw[List.take_of_length_le (by omega:l.length<=k+1+1),List.take_of_length_le aa]at*;omega
theorem Dj{l:List al}(h:tV l){k m:Nat}(oT:k<=m):ks (l.take k)<=ks (l.take m):=by
 induction m with
 |zero=>rw[show k=0 by omega];exact Int.le_refl _
 |succ m bo=>
  rcases iX oT with rfl|bS
  ·exact Int.le_refl _
  ·have:=bo Ω;have:=(AQ h m).2;omega
def wA(s:List al):Bool:=match s with|c::_=>c==45|[]=>false
def zr(s:List al):List al:=if wA s then s.drop 1 else s
theorem qQ{s:List al}{n:Int}(h:Lib.itoa n=s):zr s=Lib.decDigits n.natAbs/\(wA s=true↔n<0):=by
 subst h;unfold Lib.itoa;by_cases aK:n<0
 ·rw[if_pos aK];have:wA (45::Lib.decDigits n.natAbs)=true:=rfl;simp[zr,this,aK]
 ·rw[bq aK,show n.natAbs=n.toNat by omega];have:wA (Lib.decDigits n.toNat)=false:=by
   cases aF:Lib.decDigits n.toNat with
   |nil=>rfl
   |cons c r=>have:=AN n.toNat c (by rw[aF];simp);simp only[wA,jm];rintro rfl;revert this;decide
  simp[zr,this,aK]
theorem re{u:Nat}(h:u<=9223372036854775808):(Lib.decDigits u).length<=19:=by have:=Db 19 u Ω;omega
def mD(s t:List al)(neg:Bool)(k:Nat)(acc:Int):aS:=⟨[(0,.str s),(4,.bool neg),(5,.str t),(6,.int .i64 acc),(7,.int .i64 k)],[],[],0,[]⟩
theorem Kz(s:List al):b6 aQ 221 [.str s] (zC (fQ s)):=by
 generalize bu:zC (fQ s)=R;have pG:kin (fun _=>cZ) R:=by rw[<-bu];simp[zC,kin,kinL]
 cases mS:wA s
 ·have qx:zr s=s:=by unfold zr;rw[mS];rfl
  have On:(s=[]->cZ)->∃c r,s=c::r/\((c.toNat:Int)==45)=false:=by
   cases s with
   |nil=>intro h;exact absurd rfl h
   |cons c r=>exact fun _=>⟨c,r,rfl,pa (d:=45) (by simpa[wA]using mS)⟩
  by_cases um:s.length<1
  ·have aq:s=[]:=List.length_eq_zero_iff.1 Ω;have aU:fQ s=none:=r6 fun m hm hit=>by
    obtain⟨aj,aJ⟩:=qQ hit;have iv:¬m<0:=fun h=>by rw[aJ.2 h]at mS;cases mS
    rw[qx]at aj;have fX:=hm;unfold aY at fX;have fL:=rh m.natAbs;have kN:=rj m.natAbs;have kJ:=re (u:=m.natAbs) Ω;have b4:=n1 m.natAbs;rw[<-aj]at fL kN kJ b4;exact b4 aq
   have:R= .tuple [.int .i64 0,.bool false]:=by rw[<-bu,aU];rfl
   subst this;subst aq;clear bu;refine bQ hs yO zz (fun aN=>?_);unfold w2;clear aN;exact cw
  have gS:0<s.length:=Ω
  have s4:(0:Int)<s.length:=Ω
  have HA:¬(s.length:Int)<1:=Ω
  obtain⟨c0,zG,Oi,XL⟩:=On (fun h=>by rw[h]at gS;simp at gS);have uf:s[0]? =some c0:=by rw[Oi];rfl
  have X1:∀h,(s[0]'h)=c0:=fun h=>by rw[cF gS]at uf;exact gq uf
  clear On Oi;by_cases iM:19<s.length
  ·have aU:fQ s=none:=r6 fun m hm hit=>by
    obtain⟨aj,aJ⟩:=qQ hit;have iv:¬m<0:=fun h=>by rw[aJ.2 h]at mS;cases mS
    rw[qx]at aj;have fX:=hm;unfold aY at fX;have fL:=rh m.natAbs;have kN:=rj m.natAbs;have kJ:=re (u:=m.natAbs) Ω;have b4:=n1 m.natAbs;rw[<-aj]at fL kN kJ b4;omega
   have:R= .tuple [.int .i64 0,.bool false]:=by rw[<-bu,aU];rfl
   subst this;have Bm:(19:Int)<s.length:=Ω
   clear bu aU;refine bQ hs yO zz (fun aN=>?_);unfold w2;clear aN;exact cw
  have Bm:¬(19:Int)<s.length:=Ω
  refine bQ hs yO zz (fun aN=>?_) (hr:=pG);unfold w2;clear aN;simp;(with_reducible repeat' first|refine aA ?_|simp[gS,s4,uf,X1,XL,HA,Bm,iM]);refine gu (mD s s false) s.length (fun k acc=>acc= -ks (s.take k)/\tV (s.take k)/\ -9223372036854775808<=acc) 0 (by simp[mD];exact dw) ⟨by simp[ks],by simp[tV],Ω⟩ (fun acc aw _=>?_) (fun k acc aa aw _=>?_)
  ·obtain⟨kP,hA,Bi⟩:=aw;rw[j4]at kP hA;have nq:0<=ks s:=by have:=(AQ hA 0).1;have:=Dj hA (Nat.zero_le s.length);rw[j4]at this;omega
   by_cases D3:acc= -9223372036854775808
   ·have aU:fQ s=none:=r6 fun m hm hit=>by
     obtain⟨aj,aJ⟩:=qQ hit;have iv:¬m<0:=fun h=>by rw[aJ.2 h]at mS;cases mS
     rw[qx]at aj;have fX:=hm;unfold aY at fX;have fL:=rh m.natAbs;have kN:=rj m.natAbs;have kJ:=re (u:=m.natAbs) Ω;have b4:=n1 m.natAbs;rw[<-aj]at fL kN kJ b4;omega
    have:R= .tuple [.int .i64 0,.bool false]:=by rw[<-bu,aU];rfl
    subst this;clear bu aU kP hA;simp[mD];exact cw
   ·have eV:aY (-acc):=by unfold aY;omega
    have OA:(acc== -9223372036854775808)=false:=jm.2 D3;have Ef:kD.wrap (-acc)= -acc:=ng _ Ω;have dz:=yf (-acc) eV;by_cases he:Lib.itoa (-acc)=s
    ·have:R= .tuple [.int .i64 (-acc),.bool true]:=by rw[<-bu,xV.2 ⟨eV,he⟩];rfl
     subst this;rw[he]at dz;clear bu kP hA;simp[mD];((with_reducible repeat' first|refine aA ?_|refine a8 dz ?_|refine ba dz ?_|simp[OA,Ef,eV]|((first|apply dG|apply dJ|apply dI)<;>intro h<;>try simp at h))<;>(try exact ev));simp[cg,E8,a1,be,aV]
    ·have aU:fQ s=none:=r6 fun m hm hit=>by
      obtain⟨aj,aJ⟩:=qQ hit;have iv:¬m<0:=fun h=>by rw[aJ.2 h]at mS;cases mS
      rw[qx]at aj;have fX:=hm;unfold aY at fX;have fL:=rh m.natAbs;have kN:=rj m.natAbs;have kJ:=re (u:=m.natAbs) Ω;have b4:=n1 m.natAbs;rw[<-aj]at fL kN kJ b4;exact he (by have:m= -acc:=Ω;rw[<-this];exact hit)
     have:R= .tuple [.int .i64 0,.bool false]:=by rw[<-bu,aU];rfl
     subst this;have Bd:(Lib.itoa (-acc) !=s)=true:=by simpa using he
     clear bu aU kP hA;simp[mD];((with_reducible repeat' first|refine aA ?_|refine a8 dz ?_|refine ba dz ?_|simp[OA,Ef,eV,Bd]|((first|apply dG|apply dJ|apply dI)<;>intro h<;>try simp at h))<;>(try exact ev));simp[cg,E8,a1,be,aV]
  ·obtain⟨kP,hA,Bi⟩:=aw;obtain⟨c,aE,fq⟩:=hj aa;have vG:=c.toNat_lt;have hw:kD.wrap (c.toNat:Int)=c.toNat:=ng _ Ω;have Hm:aY ((c.toNat:Int)-48):=by unfold aY;omega
   have kQ:aY ((k:Int)+1):=by unfold aY;omega
   have eG:=eB ((c.toNat:Int)-48) 0 9;have e:s.take (k+1)=s.take k++[c]:=by rw[k3,aE];rfl
   by_cases Bc:48<=c.toNat/\c.toNat<=57
   ·have nq:=(AQ hA k).1;rw[List.take_take,Nat.min_self]at nq;have mO:aY (-9223372036854775808+((c.toNat:Int)-48)):=by unfold aY;omega
    have bn:(-9223372036854775808+((c.toNat:Int)-48)).tdiv 10= -((9223372036854775808-((c.toNat:Int)-48))/10):=by rw[show(-9223372036854775808+((c.toNat:Int)-48))= -(9223372036854775808-((c.toNat:Int)-48)) by omega,Int.neg_tdiv,Int.tdiv_eq_ediv_of_nonneg Ω]
    rw[nM Ω]at eG;have HQ:kD.wrap ((-9223372036854775808+((c.toNat:Int)-48)).tdiv 10)= -((9223372036854775808-((c.toNat:Int)-48))/10):=by rw[bn];exact ng _ Ω
    by_cases lJ:acc< -((9223372036854775808-((c.toNat:Int)-48))/10)
    ·have Hh:9223372036854775808<ks (s.take (k+1)):=by rw[e,yD];omega
     have aU:fQ s=none:=r6 fun m hm hit=>by
      obtain⟨aj,aJ⟩:=qQ hit;have iv:¬m<0:=fun h=>by rw[aJ.2 h]at mS;cases mS
      rw[qx]at aj;have fX:=hm;unfold aY at fX;have fL:=rh m.natAbs;have kN:=rj m.natAbs;have kJ:=re (u:=m.natAbs) Ω;have b4:=n1 m.natAbs;rw[<-aj]at fL kN kJ b4;have:=Dj fL (show k+1<=s.length by omega);rw[j4]at this;omega
     have:R= .tuple [.int .i64 0,.bool false]:=by rw[<-bu,aU];rfl
     subst this;clear bu aU kP hA Hh bn;simp[mD,aa,fq,aE];exact cw
    ·have I:aY (acc*10):=by unfold aY;omega
     have J:aY (acc*10-((c.toNat:Int)-48)):=by unfold aY;omega
     have jB:acc*10-((c.toNat:Int)-48)= -ks (s.take (k+1))/\tV (s.take (k+1))/\ -9223372036854775808<=acc*10-((c.toNat:Int)-48):=by
      refine⟨by rw[e,yD];omega,fun x af=>?_,Ω⟩;rw[e]at af;rcases hv.1 af with af|af
      ·exact hA x af
      ·simp at af;subst af;exact Bc
     clear bu kP hA bn;simp[mD,aa,fq,aE];(with_reducible repeat' first|refine aA ?_|refine a8 eG ?_|refine ba eG ?_|simp[aa,fq,aE,hw,Hm,mO,HQ,lJ,I,J,kQ]);refine b9.rng (acc*10-((c.toNat:Int)-48)) aa jB (by simp[mD];exact dw)
   ·rw[decide_eq_false Ω]at eG;have aU:fQ s=none:=r6 fun m hm hit=>by
     obtain⟨aj,aJ⟩:=qQ hit;have iv:¬m<0:=fun h=>by rw[aJ.2 h]at mS;cases mS
     rw[qx]at aj;have fX:=hm;unfold aY at fX;have fL:=rh m.natAbs;have kN:=rj m.natAbs;have kJ:=re (u:=m.natAbs) Ω;have b4:=n1 m.natAbs;rw[<-aj]at fL kN kJ b4;exact Bc (fL c (fJ aE))
    have:R= .tuple [.int .i64 0,.bool false]:=by rw[<-bu,aU];rfl
    subst this;clear bu aU kP hA;simp[mD,aa,fq,aE];exact cw
 ·obtain⟨t,rfl⟩:∃t',s=45::t':=by
   cases s with
   |nil=>cases mS
   |cons c r=>exact⟨r,by simp[wA]at mS;rw[mS]⟩
  have qx:zr (45::t)=t:=rfl;by_cases um:t.length<1
  ·have aD:t=[]:=List.length_eq_zero_iff.1 Ω;have aU:fQ (45::t)=none:=r6 fun m hm hit=>by obtain⟨aj,aJ⟩:=qQ hit;have iv:m<0:=aJ.1 rfl;rw[qx]at aj;have fX:=hm;unfold aY at fX;have fL:=rh m.natAbs;have kN:=rj m.natAbs;have kJ:=re (u:=m.natAbs) Ω;have b4:=n1 m.natAbs;rw[<-aj]at fL kN kJ b4;exact b4 aD
   have:R= .tuple [.int .i64 0,.bool false]:=by rw[<-bu,aU];rfl
   subst this;subst aD;clear bu;refine bQ hs yO zz (fun aN=>?_);unfold w2;clear aN;exact cw
  have HA:¬(t.length:Int)<1:=Ω
  have YO:¬t=[]:=fun h=>by rw[h]at um;simp at um
  have xC:(0:Int)<(t.length:Int)+1:=Ω
  have vR:(1:Int)<=(t.length:Int)+1:=Ω
  by_cases iM:19<t.length
  ·have aU:fQ (45::t)=none:=r6 fun m hm hit=>by obtain⟨aj,aJ⟩:=qQ hit;have iv:m<0:=aJ.1 rfl;rw[qx]at aj;have fX:=hm;unfold aY at fX;have fL:=rh m.natAbs;have kN:=rj m.natAbs;have kJ:=re (u:=m.natAbs) Ω;have b4:=n1 m.natAbs;rw[<-aj]at fL kN kJ b4;omega
   have:R= .tuple [.int .i64 0,.bool false]:=by rw[<-bu,aU];rfl
   subst this;have Bm:(19:Int)<t.length:=Ω
   clear bu aU;refine bQ hs yO zz (fun aN=>?_);unfold w2;clear aN;exact cw
  have Bm:¬(19:Int)<t.length:=Ω
  refine bQ hs yO zz (fun aN=>?_) (hr:=pG);unfold w2;clear aN;simp;(with_reducible repeat' first|refine aA ?_|simp[xC,vR,HA,YO,Bm,iM]);refine gu (mD (45::t) t true) t.length (fun k acc=>acc= -ks (t.take k)/\tV (t.take k)/\ -9223372036854775808<=acc) 0 (by simp[mD];exact dw) ⟨by simp[ks],by simp[tV],Ω⟩ (fun acc aw _=>?_) (fun k acc aa aw _=>?_)
  ·obtain⟨kP,hA,Bi⟩:=aw;rw[j4]at kP hA;have nq:0<=ks t:=by have:=(AQ hA 0).1;have:=Dj hA (Nat.zero_le t.length);rw[j4]at this;omega
   have eV:aY acc:=by unfold aY;omega
   have dz:=yf (acc) eV;by_cases he:Lib.itoa (acc)=(45::t)
   ·have:R= .tuple [.int .i64 (acc),.bool true]:=by rw[<-bu,xV.2 ⟨eV,he⟩];rfl
    subst this;rw[he]at dz;clear bu kP hA;simp[mD];exact cw
   ·have aU:fQ (45::t)=none:=r6 fun m hm hit=>by obtain⟨aj,aJ⟩:=qQ hit;have iv:m<0:=aJ.1 rfl;rw[qx]at aj;have fX:=hm;unfold aY at fX;have fL:=rh m.natAbs;have kN:=rj m.natAbs;have kJ:=re (u:=m.natAbs) Ω;have b4:=n1 m.natAbs;rw[<-aj]at fL kN kJ b4;exact he (by have:m=acc:=Ω;rw[<-this];exact hit)
    have:R= .tuple [.int .i64 0,.bool false]:=by rw[<-bu,aU];rfl
    subst this;have Bd:(Lib.itoa (acc) !=(45::t))=true:=by simpa using he
    clear bu aU kP hA;simp[mD];((with_reducible repeat' first|refine aA ?_|refine a8 dz ?_|refine ba dz ?_|simp[eV,Bd]|((first|apply dG|apply dJ|apply dI)<;>intro h<;>try simp at h))<;>(try exact ev));simp[cg,E8,a1,be,aV]
  ·obtain⟨kP,hA,Bi⟩:=aw;obtain⟨c,aE,fq⟩:=hj aa;have vG:=c.toNat_lt;have hw:kD.wrap (c.toNat:Int)=c.toNat:=ng _ Ω;have Hm:aY ((c.toNat:Int)-48):=by unfold aY;omega
   have kQ:aY ((k:Int)+1):=by unfold aY;omega
   have eG:=eB ((c.toNat:Int)-48) 0 9;have e:t.take (k+1)=t.take k++[c]:=by rw[k3,aE];rfl
   by_cases Bc:48<=c.toNat/\c.toNat<=57
   ·have nq:=(AQ hA k).1;rw[List.take_take,Nat.min_self]at nq;have mO:aY (-9223372036854775808+((c.toNat:Int)-48)):=by unfold aY;omega
    have bn:(-9223372036854775808+((c.toNat:Int)-48)).tdiv 10= -((9223372036854775808-((c.toNat:Int)-48))/10):=by rw[show(-9223372036854775808+((c.toNat:Int)-48))= -(9223372036854775808-((c.toNat:Int)-48)) by omega,Int.neg_tdiv,Int.tdiv_eq_ediv_of_nonneg Ω]
    rw[nM Ω]at eG;have HQ:kD.wrap ((-9223372036854775808+((c.toNat:Int)-48)).tdiv 10)= -((9223372036854775808-((c.toNat:Int)-48))/10):=by rw[bn];exact ng _ Ω
    by_cases lJ:acc< -((9223372036854775808-((c.toNat:Int)-48))/10)
    ·have Hh:9223372036854775808<ks (t.take (k+1)):=by rw[e,yD];omega
     have aU:fQ (45::t)=none:=r6 fun m hm hit=>by obtain⟨aj,aJ⟩:=qQ hit;have iv:m<0:=aJ.1 rfl;rw[qx]at aj;have fX:=hm;unfold aY at fX;have fL:=rh m.natAbs;have kN:=rj m.natAbs;have kJ:=re (u:=m.natAbs) Ω;have b4:=n1 m.natAbs;rw[<-aj]at fL kN kJ b4;have:=Dj fL (show k+1<=t.length by omega);rw[j4]at this;omega
     have:R= .tuple [.int .i64 0,.bool false]:=by rw[<-bu,aU];rfl
     subst this;clear bu aU kP hA Hh bn;simp[mD,aa,fq,aE];exact cw
    ·have I:aY (acc*10):=by unfold aY;omega
     have J:aY (acc*10-((c.toNat:Int)-48)):=by unfold aY;omega
     have jB:acc*10-((c.toNat:Int)-48)= -ks (t.take (k+1))/\tV (t.take (k+1))/\ -9223372036854775808<=acc*10-((c.toNat:Int)-48):=by
      refine⟨by rw[e,yD];omega,fun x af=>?_,Ω⟩;rw[e]at af;rcases hv.1 af with af|af
      ·exact hA x af
      ·simp at af;subst af;exact Bc
     clear bu kP hA bn;simp[mD,aa,fq,aE];(with_reducible repeat' first|refine aA ?_|refine a8 eG ?_|refine ba eG ?_|simp[aa,fq,aE,hw,Hm,mO,HQ,lJ,I,J,kQ]);refine b9.rng (acc*10-((c.toNat:Int)-48)) aa jB (by simp[mD];exact dw)
   ·rw[decide_eq_false Ω]at eG;have aU:fQ (45::t)=none:=r6 fun m hm hit=>by obtain⟨aj,aJ⟩:=qQ hit;have iv:m<0:=aJ.1 rfl;rw[qx]at aj;have fX:=hm;unfold aY at fX;have fL:=rh m.natAbs;have kN:=rj m.natAbs;have kJ:=re (u:=m.natAbs) Ω;have b4:=n1 m.natAbs;rw[<-aj]at fL kN kJ b4;exact Bc (fL c (fJ aE))
    have:R= .tuple [.int .i64 0,.bool false]:=by rw[<-bu,aU];rfl
    subst this;clear bu aU kP hA;simp[mD,aa,fq,aE];exact cw
def uY:List aX->Bool
 |[a,b]=>shp a&&shp b
 |_=>false
theorem adi(k n:Int)(s:List al)(args:List aX):shp ⟨k,n,s,args⟩=if k≠1/\k≠3/\n≠0 then false else if k≠2/\s≠[]then false else if k≠4/\args≠[]then false else if k=0 then true else if k=1 then decide (0<=n/\n<=100000)else if k=2 then fM s else if k=3 then decide (-1000000000<=n/\n<=1000000000)else if k=4 then uY args else false:=by
 by_cases eU:k=0
 ·subst eU;match args with
  |[]=>by_cases aK:n=0<;>by_cases aq:s=[]<;>simp[shp,kV,aK,aq]
  |[a]=>simp[shp]
  |[a,b]=>simp[shp]
  |_::_::_::_=>simp[shp]
 by_cases cI:k=1
 ·subst cI;match args with
  |[]=>by_cases aq:s=[]<;>simp[shp,kV,aq]
  |[a]=>simp[shp]
  |[a,b]=>simp[shp]
  |_::_::_::_=>simp[shp]
 by_cases dr:k=2
 ·subst dr;match args with
  |[]=>by_cases aK:n=0<;>simp[shp,kV,aK]
  |[a]=>simp[shp]
  |[a,b]=>simp[shp]
  |_::_::_::_=>simp[shp]
 by_cases gM:k=3
 ·subst gM;match args with
  |[]=>by_cases aq:s=[]<;>simp[shp,kV,aq]
  |[a]=>simp[shp]
  |[a,b]=>simp[shp]
  |_::_::_::_=>simp[shp]
 by_cases jF:k=4
 ·subst jF;match args with
  |[]=>simp[shp,kV,uY]
  |[a]=>simp[shp,uY]
  |[a,b]=>by_cases aK:n=0<;>by_cases aq:s=[]<;>simp[shp,uY,aK,aq]
  |_::_::_::_=>simp[shp,uY]
 ·match args with
  |[]=>simp[shp,kV,eU,cI,dr,gM,jF]
  |[a]=>simp[shp,eU,cI,dr,gM,jF]
  |[a,b]=>simp[shp,eU,cI,dr,gM,jF]
  |_::_::_::_=>simp[shp,eU,cI,dr,gM,jF]
set_option maxRecDepth 8000 in
theorem Kx(m:Nat):∀(t:aX),t.sz<=m->b6 aQ 270 [enc t] (.bool (shp t)):=by
 induction m with
 |zero=>intro t aD;cases t;simp[aX.sz]at aD
 |succ m bo=>
 rintro⟨k,n,s,args⟩ aD;generalize bu:shp ⟨k,n,s,args⟩=R;have cm:=adi k n s args;rw[bu]at cm;by_cases cb:k≠1/\k≠3/\n≠0
 ·rw[if_pos cb]at cm;obtain⟨cI,gM,n0⟩:=cb;have zh:(k !=1)=true:=by simp[cI]
  have zi:(k !=3)=true:=by simp[gM]
  have I6:(n !=0)=true:=by simp[n0]
  subst cm;refine bQ iV mb mu fun aN=>?_;unfold lB;simp[aX.kind,aX.num,aX.name,aX.args];(with_reducible repeat' first|refine aA ?_|refine a8 (eB _ _ _) ?_|refine ba (eB _ _ _) ?_|refine a8 (gX _) ?_|refine ba (gX _) ?_|simp[zh,zi,I6]);all_goals simp[cg,lq,a1,be,aV]
 rw[bq cb]at cm;have AA:(if k !=1 then k !=3 else false)=true->(n !=0)=false:=by intro h;simp at h⊢;exact Classical.byContradiction fun aK=>cb ⟨h.1,h.2,aK⟩
 by_cases cn:k≠2/\s≠[]
 ·rw[if_pos cn]at cm;have Ep:(k !=2)=true:=by simp[cn.1]
  have JW:s.isEmpty=false:=by simp[cn.2]
  by_cases cI:k=1
  ·subst cI;subst cm;refine bQ iV mb mu fun aN=>?_;unfold lB;simp[aX.kind,aX.num,aX.name,aX.args];(with_reducible repeat' first|refine aA ?_|refine a8 (eB _ _ _) ?_|refine ba (eB _ _ _) ?_|refine a8 (gX _) ?_|refine ba (gX _) ?_|simp[JW]);all_goals simp[cg,lq,a1,be,aV]
  by_cases gM:k=3
  ·subst gM;subst cm;refine bQ iV mb mu fun aN=>?_;unfold lB;simp[aX.kind,aX.num,aX.name,aX.args];(with_reducible repeat' first|refine aA ?_|refine a8 (eB _ _ _) ?_|refine ba (eB _ _ _) ?_|refine a8 (gX _) ?_|refine ba (gX _) ?_|simp[JW]);all_goals simp[cg,lq,a1,be,aV]
  have zh:(k !=1)=true:=by simp[cI]
  have zi:(k !=3)=true:=by simp[gM]
  have I6:(n !=0)=false:=AA (by simp[cI,gM]);subst cm;refine bQ iV mb mu fun aN=>?_;unfold lB;simp[aX.kind,aX.num,aX.name,aX.args];(with_reducible repeat' first|refine aA ?_|refine a8 (eB _ _ _) ?_|refine ba (eB _ _ _) ?_|refine a8 (gX _) ?_|refine ba (gX _) ?_|simp[zh,zi,I6,Ep,JW]);all_goals simp[cg,lq,a1,be,aV]
 rw[bq cn]at cm;by_cases eU:k=0
 ·subst eU;have n0:n=0:=by simpa using AA (by decide)
  have hW:s=[]:=Classical.byContradiction fun h=>cn ⟨Ω,h⟩;subst n0 hW;by_cases a0:args=[];rotate_left
  ·rw[if_pos ⟨Ω,a0⟩]at cm;have tN:(0:Int)<args.length:=by have:=q2.2 a0;omega
   subst cm;refine bQ iV mb mu fun aN=>?_;unfold lB;simp[aX.kind,aX.num,aX.name,aX.args];((with_reducible repeat' first|refine aA ?_|refine a8 (eB _ _ _) ?_|refine ba (eB _ _ _) ?_|refine a8 (gX _) ?_|refine ba (gX _) ?_|simp[Int.natCast_nonneg,tN]|((first|apply dG|apply dJ|apply dI)<;>intro h<;>try simp at h))<;>(try exact ev));all_goals simp[cg,lq,a1,be,aV]
  rw[bq (by simp[a0])]at cm;subst a0;simp at cm;subst cm;refine bQ iV mb mu fun aN=>?_;unfold lB;simp[aX.kind,aX.num,aX.name,aX.args];(with_reducible repeat' first|refine aA ?_|refine a8 (eB _ _ _) ?_|refine ba (eB _ _ _) ?_|refine a8 (gX _) ?_|refine ba (gX _) ?_|simp[Int.natCast_nonneg]);all_goals simp[cg,lq,a1,be,aV]
 by_cases cI:k=1
 ·subst cI;have hW:s=[]:=Classical.byContradiction fun h=>cn ⟨Ω,h⟩;subst hW;by_cases a0:args=[];rotate_left
  ·rw[if_pos ⟨Ω,a0⟩]at cm;have tN:(0:Int)<args.length:=by have:=q2.2 a0;omega
   subst cm;refine bQ iV mb mu fun aN=>?_;unfold lB;simp[aX.kind,aX.num,aX.name,aX.args];((with_reducible repeat' first|refine aA ?_|refine a8 (eB _ _ _) ?_|refine ba (eB _ _ _) ?_|refine a8 (gX _) ?_|refine ba (gX _) ?_|simp[Int.natCast_nonneg,tN]|((first|apply dG|apply dJ|apply dI)<;>intro h<;>try simp at h))<;>(try exact ev));all_goals simp[cg,lq,a1,be,aV]
  rw[bq (by simp[a0])]at cm;subst a0;simp at cm;subst cm;refine bQ iV mb mu fun aN=>?_;unfold lB;simp[aX.kind,aX.num,aX.name,aX.args];(with_reducible repeat' first|refine aA ?_|refine a8 (eB _ _ _) ?_|refine ba (eB _ _ _) ?_|refine a8 (gX _) ?_|refine ba (gX _) ?_|simp[Int.natCast_nonneg]);all_goals simp[cg,lq,a1,be,aV]
 by_cases dr:k=2
 ·subst dr;have n0:n=0:=by simpa using AA (by decide)
  subst n0;by_cases a0:args=[];rotate_left
  ·rw[if_pos ⟨Ω,a0⟩]at cm;have tN:(0:Int)<args.length:=by have:=q2.2 a0;omega
   subst cm;refine bQ iV mb mu fun aN=>?_;unfold lB;simp[aX.kind,aX.num,aX.name,aX.args];((with_reducible repeat' first|refine aA ?_|refine a8 (eB _ _ _) ?_|refine ba (eB _ _ _) ?_|refine a8 (gX _) ?_|refine ba (gX _) ?_|simp[Int.natCast_nonneg,tN]|((first|apply dG|apply dJ|apply dI)<;>intro h<;>try simp at h))<;>(try exact ev));all_goals simp[cg,lq,a1,be,aV]
  rw[bq (by simp[a0])]at cm;subst a0;simp at cm;subst cm;refine bQ iV mb mu fun aN=>?_;unfold lB;simp[aX.kind,aX.num,aX.name,aX.args];(with_reducible repeat' first|refine aA ?_|refine a8 (eB _ _ _) ?_|refine ba (eB _ _ _) ?_|refine a8 (gX _) ?_|refine ba (gX _) ?_|simp[Int.natCast_nonneg]);all_goals simp[cg,lq,a1,be,aV]
 by_cases gM:k=3
 ·subst gM;have hW:s=[]:=Classical.byContradiction fun h=>cn ⟨Ω,h⟩;subst hW;by_cases a0:args=[];rotate_left
  ·rw[if_pos ⟨Ω,a0⟩]at cm;have tN:(0:Int)<args.length:=by have:=q2.2 a0;omega
   subst cm;refine bQ iV mb mu fun aN=>?_;unfold lB;simp[aX.kind,aX.num,aX.name,aX.args];((with_reducible repeat' first|refine aA ?_|refine a8 (eB _ _ _) ?_|refine ba (eB _ _ _) ?_|refine a8 (gX _) ?_|refine ba (gX _) ?_|simp[Int.natCast_nonneg,tN]|((first|apply dG|apply dJ|apply dI)<;>intro h<;>try simp at h))<;>(try exact ev));all_goals simp[cg,lq,a1,be,aV]
  rw[bq (by simp[a0])]at cm;subst a0;simp at cm;subst cm;refine bQ iV mb mu fun aN=>?_;unfold lB;simp[aX.kind,aX.num,aX.name,aX.args];(with_reducible repeat' first|refine aA ?_|refine a8 (eB _ _ _) ?_|refine ba (eB _ _ _) ?_|refine a8 (gX _) ?_|refine ba (gX _) ?_|simp[Int.natCast_nonneg]);all_goals simp[cg,lq,a1,be,aV]
 by_cases jF:k=4
 ·subst jF;have n0:n=0:=by simpa using AA (by decide)
  have hW:s=[]:=Classical.byContradiction fun h=>cn ⟨Ω,h⟩;subst n0 hW;simp at cm;match args,cm with
  |[a,b],cm=>
   simp[aX.sz,aX.szL]at aD;have bF:=bo a Ω;have ah:=bo b Ω;simp only[uY]at cm;subst cm;refine bQ iV mb mu fun aN=>?_;unfold lB;simp[aX.kind,aX.num,aX.name,aX.args];cases q:shp a with
   |true=>rw[q]at bF;(with_reducible repeat' first|refine aA ?_|refine a8 bF ?_|refine ba bF ?_|refine a8 ah ?_|refine ba ah ?_|simp[Int.natCast_nonneg]);all_goals simp[cg,lq,a1,be,aV]
   |false=>rw[q]at bF;(with_reducible repeat' first|refine aA ?_|refine a8 bF ?_|refine ba bF ?_|refine a8 ah ?_|refine ba ah ?_|simp[Int.natCast_nonneg]);all_goals simp[cg,lq,a1,be,aV]
  |[],cm=>simp only[uY]at cm;subst cm;refine bQ iV mb mu fun aN=>?_;unfold lB;simp[aX.kind,aX.num,aX.name,aX.args];(with_reducible repeat' first|refine aA ?_|refine a8 (eB _ _ _) ?_|refine ba (eB _ _ _) ?_|refine a8 (gX _) ?_|refine ba (gX _) ?_|simp[Int.natCast_nonneg]);all_goals simp[cg,lq,a1,be,aV]
  |[_],cm=>simp only[uY]at cm;subst cm;refine bQ iV mb mu fun aN=>?_;unfold lB;simp[aX.kind,aX.num,aX.name,aX.args];(with_reducible repeat' first|refine aA ?_|refine a8 (eB _ _ _) ?_|refine ba (eB _ _ _) ?_|refine a8 (gX _) ?_|refine ba (gX _) ?_|simp[Int.natCast_nonneg]);all_goals simp[cg,lq,a1,be,aV]
  |_::_::_::l,cm=>
   simp only[uY]at cm;have aG:((l.length:Int)+1+1+1==2)=false:=by simp;omega
   subst cm;refine bQ iV mb mu fun aN=>?_;unfold lB;simp[aX.kind,aX.num,aX.name,aX.args];(with_reducible repeat' first|refine aA ?_|refine a8 (eB _ _ _) ?_|refine ba (eB _ _ _) ?_|refine a8 (gX _) ?_|refine ba (gX _) ?_|simp[aG]);all_goals simp[cg,lq,a1,be,aV]
 have n0:(n !=0)=false:=AA (by simp[cI,gM]);have hW:s=[]:=Classical.byContradiction fun h=>cn ⟨dr,h⟩;subst hW;have PB:(k==0)=false:=by simp[eU]
 have zh:(k==1)=false:=by simp[cI]
 have Ep:(k==2)=false:=by simp[dr]
 have zi:(k==3)=false:=by simp[gM]
 have PF:(k==4)=false:=by simp[jF]
 have PC:(k !=1)=true:=by simp[cI]
 have PD:(k !=2)=true:=by simp[dr]
 have PE:(k !=3)=true:=by simp[gM]
 have PG:(k !=4)=true:=by simp[jF]
 by_cases a0:args=[]
 ·subst a0;simp[eU,cI,dr,gM,jF]at cm;subst cm;refine bQ iV mb mu fun aN=>?_;unfold lB;simp[aX.kind,aX.num,aX.name,aX.args];(with_reducible repeat' first|refine aA ?_|refine a8 (eB _ _ _) ?_|refine ba (eB _ _ _) ?_|refine a8 (gX _) ?_|refine ba (gX _) ?_|simp[PB,zh,Ep,zi,PF,PC,PD,PE,PG,n0]);all_goals simp[cg,lq,a1,be,aV]
 ·rw[if_pos ⟨jF,a0⟩]at cm;have tN:(0:Int)<args.length:=by have:=q2.2 a0;omega
  subst cm;refine bQ iV mb mu fun aN=>?_;unfold lB;simp[aX.kind,aX.num,aX.name,aX.args];((with_reducible repeat' first|refine aA ?_|refine a8 (eB _ _ _) ?_|refine ba (eB _ _ _) ?_|refine a8 (gX _) ?_|refine ba (gX _) ?_|simp[tN,PB,zh,Ep,zi,PF,PC,PD,PE,PG,n0]|((first|apply dG|apply dJ|apply dI)<;>intro h<;>try simp at h))<;>(try exact ev));all_goals simp[cg,lq,a1,be,aV]
theorem aeu(t:aX):b6 aQ 271 [enc t] (.bool t.fits):=by
 rw[WR];have aE:=ad9 t 5000 Ω Ω;have aq:=Kx t.sz t (cq _);refine bQ iV Wy abB fun aN=>?_;unfold L1;simp;by_cases q:lC t 5000<=5000
 ·exact cw
 ·exact cw
def L8:C:=(ag [ht 2 cU] (ag [ab 3 0,kB 4 cU [(0,1,(da 2)),(2,1,(.t 3))],bE 4 2 4] .ret))
@[simp] def Rq:List cr:=[.cell 2 true 4]
def Sz:List (Nat×cJ):=[
 (3,⟨1,8,.int .i64,.int .i64 0⟩),
 (5,⟨1,1,.int .u8,.int .u8 0⟩),
 (9,⟨1,16,.str,.str []⟩),
 (35,⟨1,24,.slice 5,.slice 1 .nil []⟩),
 (38,⟨1,24,.slice 40,.slice 4 .nil []⟩),
 (40,⟨4,56,.struct [(0,3),(1,3),(2,9),(3,38)],.agg [.int .i64 0,.int .i64 0,.str [],.slice 4 .nil []]⟩),
 (70,⟨1,24,.slice 9,.slice 1 .nil []⟩),
 (208,⟨3,40,.struct [(0,35),(1,3),(2,3)],.agg [.slice 1 .nil [],.int .i64 0,.int .i64 0]⟩)]
theorem adM:ez aQ Sz=true:=by kernel_rfl
theorem abI:c8 Sz L8 Rq 1 Tryz.f195=true:=by kernel_rfl
theorem WG:aQ.funcs[(195:Nat)]? =some Tryz.f195:=Tryz.func195
end
section
open Go Go.Pv
def Tx(k:IntKind)(a b:Int):Int:=k.wrap (BitVec.ofInt k.bits a&&& BitVec.ofInt k.bits b).toNat
def aeH(k:IntKind)(a b:Int):Int:=k.wrap (BitVec.ofInt k.bits a ^^^ BitVec.ofInt k.bits b).toNat
def adk(k:IntKind)(a b:Int):Int:=a.fdiv (2 ^ (min b.toNat k.bits))
section
variable (a b:Int)
@[simp]theorem afr:k5 .add true (.int .i64 a) (.int .i64 b)=some (True,.int .i64 (kD.wrap (a+b))):=rfl
@[simp]theorem afy:k5 .mul true (.int .i64 a) (.int .i64 b)=some (True,.int .i64 (kD.wrap (a*b))):=rfl
@[simp]theorem afA:k5 .quo false (.int .i64 a) (.int .i64 b)=some (b≠0,.int .i64 (kD.wrap (a.tdiv b))):=rfl
@[simp]theorem afB:k5 .rem false (.int .i64 a) (.int .i64 b)=some (b≠0,.int .i64 (a.tmod b)):=rfl
@[simp]theorem aft:k5 .eql false (.int .i64 a) (.int .i64 b)=some (True,.bool (a==b)):=rfl
@[simp]theorem afz:k5 .neq false (.int .i64 a) (.int .i64 b)=some (True,.bool (a !=b)):=rfl
@[simp]theorem afx:k5 .lss false (.int .i64 a) (.int .i64 b)=some (True,.bool (decide (a<b))):=rfl
@[simp]theorem afw:k5 .leq false (.int .i64 a) (.int .i64 b)=some (True,.bool (decide (a<=b))):=rfl
@[simp]theorem afv:k5 .gtr false (.int .i64 a) (.int .i64 b)=some (True,.bool (decide (b<a))):=rfl
@[simp]theorem afu:k5 .geq false (.int .i64 a) (.int .i64 b)=some (True,.bool (decide (b<=a))):=rfl
@[simp]theorem afs:k5 .and false (.int .i64 a) (.int .i64 b)=some (True,.int .i64 (Tx .i64 a b)):=rfl
@[simp]theorem afD:k5 .xor false (.int .i64 a) (.int .i64 b)=some (True,.int .i64 (aeH .i64 a b)):=rfl
@[simp]theorem afC(k:IntKind):k5 .shr false (.int .i64 a) (.int k b)=some (0<=b,.int .i64 (adk .i64 a b)):=rfl
end
end
section
open Go Go.Pv
theorem aec(s:List al):b6 aQ 195 [.str s] (T.sym s).e:=by refine bQ adM WG abI fun aN=>?_;unfold L8;simp[-zf,-k5];simp[-zf,-k5,cg,Rq,a1,be,aV]
def F0(o:aT T):ae:= .tuple [(o.getD .nil).e,.bool o.isSome]
theorem aex(n:Int):b6 aQ 270 [(T.var n).e] (.bool (decide (0<=n/\n<=100000))):=by
 have h:=Kx 1 (aX.mk 1 n [] []) (by simp[aX.sz,aX.szL]);have e:shp (aX.mk 1 n [] [])=decide (0<=n/\n<=100000):=by have:=zY (.var n);simpa[T.tm,T.ok]using this
 rw[e]at h;exact h
theorem aew(n:Int):b6 aQ 270 [(T.num n).e] (.bool (T.ok (.num n))):=by have h:=Kx 1 (aX.mk 3 n [] []) (by simp[aX.sz,aX.szL]);have e:shp (aX.mk 3 n [] [])=T.ok (.num n):=zY (.num n);rw[e]at h;exact h
theorem TH(r:List al):hI (63::r)=match fQ r with|some n=>if 0<=n/\n<=100000 then some (.var n)else none|none=>none:=by
 unfold hI eg;simp only;cases fQ r with
 |none=>rfl
 |some n=>
  simp only;by_cases h:0<=n/\n<=100000
  ·rw[if_pos h];simp only;rw[if_pos (by simp[T.ok,h])]
  ·rw[bq h]
theorem TG{w:List al}(h:∀r,w≠63::r):hI w=if fM w then some (.sym w)else match fQ w with|some n=>if T.ok (.num n)then some (.num n)else none|none=>none:=by
 unfold hI;have:eg w=if fM w then some (.sym w)else(fQ w).map .num:=by
  unfold eg;split
  ·rename_i r;exact absurd rfl (h r)
  ·rfl
 rw[this];by_cases aK:fM w=true
 ·rw[if_pos aK,if_pos aK];simp[T.ok,aK]
 ·rw[bq aK,bq aK];cases fQ w with
  |none=>rfl
  |some n=>rfl
theorem aaM{r:List al}:fM (63::r)=false:=by
 cases h:fM (63::r)with
 |false=>rfl
 |true=>obtain⟨x,cE,e,I,_⟩:=BX h;cases e;revert I;decide
theorem aee(w:List al)(hw:w≠[]):b6 aQ 251 [.str w] (F0 (hI w)):=by
 have cD:=gX w;have rW:=aec w;unfold F0;obtain⟨c,r,rfl⟩:∃c r,w=c::r:=by
  cases w with
  |nil=>exact absurd rfl hw
  |cons c r=>exact⟨c,r,rfl⟩
 have xC:(0:Int)<(r.length:Int)+1:=Ω
 have vR:(1:Int)<=(r.length:Int)+1:=Ω
 by_cases yZ:c=63
 ·subst yZ;rw[aaM]at cD;have b8:=Kz r;rw[TH];unfold zC at b8;cases aU:fQ r with
  |none=>rw[aU]at b8;simp only[Option.getD_none,sD]at b8⊢;clear rW;refine bQ hs xc xT fun aN=>?_;unfold vk;clear aN;exact cw
  |some n=>
   rw[aU]at b8;have iP:=aex n;by_cases aK:0<=n/\n<=100000
   ·rw[nM aK]at iP;simp only[if_pos aK,pf,Option.isSome_some]at b8⊢;clear rW aK;refine bQ hs xc xT fun aN=>?_;unfold vk;clear aN;exact cw
   ·rw[decide_eq_false aK]at iP;simp only[bq aK,pf,Option.isSome_some,Option.getD_none,sD]at b8⊢;clear rW aK;refine bQ hs xc xT fun aN=>?_;unfold vk;clear aN;exact cw
 ·have ah:((c.toNat:Int)==63)=false:=pa (d:=63) yZ;rw[TG fun cE e=>yZ (by cases e;rfl)];cases ft:fM (c::r)
  ·rw[ft]at cD;have b8:=Kz (c::r);unfold zC at b8;rw[bq Ψ];cases aU:fQ (c::r)with
   |none=>rw[aU]at b8;simp only[Option.getD_none,sD]at b8⊢;clear rW;refine bQ hs xc xT fun aN=>?_;unfold vk;clear aN;exact cw
   |some n=>
    rw[aU]at b8;have iP:=aew n;cases ak:T.ok (.num n)
    ·rw[ak]at iP;simp only[ak,kk,if_false,pf,Option.isSome_some,Option.getD_none,sD]at b8⊢;clear rW;refine bQ hs xc xT fun aN=>?_;unfold vk;clear aN;exact cw
    ·rw[ak]at iP;simp only[ak,if_true,pf,Option.isSome_some]at b8⊢;clear rW;refine bQ hs xc xT fun aN=>?_;unfold vk;clear aN;exact cw
  ·rw[ft]at cD;rw[if_pos rfl];simp only[pf,Option.isSome_some];refine bQ hs xc xT fun aN=>?_;unfold vk;clear aN;exact cw
def As(l:List T)(j:Int)(t:T):aS:=⟨[(0,.slice 4 .no (l.map T.e)),(3,.ptr (.loc 0) 0),(4,.ptr (.loc 1) 0),(5,.int .i64 j)],[(.loc 0,cells t.e),(.loc 1,[.int .i64 0,.int .i64 0,.str [],.slice 4 .nil []])],[],2,[]⟩
theorem SO(l:List T)(t:T):b6 aQ 252 [.slice 4 .no (l.map T.e),t.e] (e9 l t).e:=by
 refine bQ hs WD abG fun aN=>?_;unfold L6;have ah:l.length<=bN:=by simp[iZ,js,ja]at aN;exact aN.1
 have sV:aY ((l.length:Int)-1):=by unfold aY;unfold bN at ah;omega
 clear aN;simp;(with_reducible repeat' first|refine aA ?_|simp[sV]);refine h1 (fun x:Int×T=>As l x.1 x.2) (fun x=>(x.1+1).toNat) (fun x=> -1<=x.1/\x.1<l.length/\e9 (l.take (x.1+1).toNat) x.2=e9 l t) ((l.length:Int)-1,t) (by simp[As];exact dw) ⟨by simp;omega,by simp;omega,Ψ⟩ ?_;rintro⟨j,u⟩ ⟨Ox,kP,hA⟩ _;simp only at Ox kP hA;by_cases il:0<=j
 ·obtain⟨n,rfl⟩:∃n:Nat,j=n:=⟨j.toNat,Ω⟩;have aK:n<l.length:=Ω
  obtain⟨x,af,fF⟩:=hj aK;have kQ:aY ((n:Int)-1):=by unfold aY;unfold bN at ah;omega
  have b8:=aeb x u;have fD: -1<=(n:Int)-1/\(n:Int)-1<l.length/\e9 (l.take ((n:Int)-1+1).toNat) (.pair x u)=e9 l t:=by refine⟨Ω,Ω,?_⟩;rw[<-hA,show((n:Int)-1+1).toNat=n by omega,show((n:Int)+1).toNat=n+1 by omega,k3,af,P4];rfl
  clear hA;simp[As];(with_reducible repeat' first|refine aA ?_|refine a8 b8 ?_|refine ba b8 ?_|simp[aK,fF,af,kQ]);refine b9.whl ((n:Int)-1,.pair x u) (by simp<;>omega) fD (by simp[As];exact dw)
 ·have:j= -1:=Ω
  subst this;have e:u=e9 l t:=by simpa[e9]using hA
  subst e;clear hA;simp[As];exact cw
theorem Fm{l rest:List (List al)}{j:Nat}(h:rest<:+l.drop j):rest=l.drop (l.length-rest.length)/\rest.length<=l.length-j:=by
 have I:rest<:+l:=h.trans (List.drop_suffix j l);have J:l.drop (l.length-rest.length)=rest:=by obtain⟨p,rfl⟩:=I;simp
 exact⟨J.symm,by have:=h.length_le;simpa using this⟩
def pX(l:List (List al))(i:Nat):Int:=match l[i]? with
 |some w=>if w=[40]\/w=[41]\/w=[46]then 0 else i+1
 |none=>0
def j0(l:List (List al))(k:Int)(o:aT (T×List (List al))):ae:=match o with
 |some (t,r)=>.tuple [t.e,.int .i64 (l.length-r.length:Nat),.bool true]
 |none=>.tuple [T.nil.e,.int .i64 k,.bool false]
def qi(l:List (List al))(x:List T×Nat×Nat):aS:=⟨[(0,.slice 1 .no (bZ l)),(1,.int .i64 x.2.1),(4,.ptr (.loc 0) 0),(9,.slice 4 (.own (.loc 1)) (x.1.map T.e))],[(.loc 0,[.int .i64 0,.int .i64 0,.str [],.slice 4 .nil []])],[(.loc 1,⟨x.1.length,40,4,none⟩)],2,[]⟩
theorem uL{a b:List al}(h:a≠b):(a==b)=false:=by simpa using h
theorem qH{a b:List al}(h:a≠b):(a !=b)=true:=by simpa using h
set_option maxRecDepth 8000 in
theorem aef(l:List (List al))(aG:l.length<=100000)(hw:∀w∈l,w≠[]):∀n i:Nat,i<=l.length->2*(l.length-i)+1<=n->b6 aQ 209 [.slice 1 .no (bZ l),.int .i64 i] (j0 l (pX l i) (rd hI n (l.drop i))):=by
 intro n;induction n using Nat.strongRecOn with
 |_ n bo=>
 intro i gZ aK;obtain⟨n,rfl⟩:∃m,n=m+1:=⟨n-1,Ω⟩;rcases iX gZ with rfl|az
 ·have e:j0 l (pX l l.length) (rd hI (n+1) (l.drop l.length))= .tuple [T.nil.e,.int .i64 0,.bool false]:=by rw[jN];simp[rd,j0,pX]
  rw[e];clear bo;refine bQ hs yQ zB fun aN=>?_;unfold w4;clear aN;exact cw
 obtain⟨w,af⟩:∃v,l[i]? =some v:=⟨_,cF az⟩;have eQ:∀h,((bZ l)[i]'h)= .str w:=fun h=>by rw[mx az];rw[cF az]at af;rw[gq af]
 have oW:=hw w (fJ af);have il:¬(l.length:Int)<=i:=Ω
 rw[fi af];by_cases eN:w=[41]
 ·subst eN;have e:j0 l (pX l i) (rd hI (n+1) ([41]::l.drop (i+1)))= .tuple [T.nil.e,.int .i64 0,.bool false]:=by simp[rd,j0,pX,af]
  rw[e];clear bo;refine bQ hs yQ zB fun aN=>?_;unfold w4;clear aN;exact cw
 by_cases lD:w=[46]
 ·subst lD;have e:j0 l (pX l i) (rd hI (n+1) ([46]::l.drop (i+1)))= .tuple [T.nil.e,.int .i64 0,.bool false]:=by simp[rd,j0,pX,af]
  rw[e];clear bo;refine bQ hs yQ zB fun aN=>?_;unfold w4;clear aN;exact cw
 have qG:=uL eN;have EH:=uL lD;have b1:aY ((i:Int)+1):=by unfold aY;omega
 by_cases n8:w=[40];rotate_left
 ·have r2:=qH n8;have fp:=aee w oW;have aj:pX l i=(i:Int)+1:=by unfold pX;rw[af];simp[n8,eN,lD]
  have aJ:rd hI (n+1) (w::l.drop (i+1))=(hI w).map fun t=>(t,l.drop (i+1)):=by simp[rd,n8,eN,lD]
  rw[aj,aJ];unfold F0 at fp;cases bF:hI w with
  |none=>rw[bF]at fp;simp only[tG,j0,Option.getD_none,sD]at fp⊢;clear bo;refine bQ hs yQ zB fun aN=>?_;unfold w4;clear aN;simp;((with_reducible repeat' first|refine aA ?_|refine a8 fp ?_|refine ba fp ?_|simp[il,az,eQ,af,r2,qG,EH,b1]|((first|apply dG|apply dJ|apply dI)<;>intro h<;>try simp at h))<;>(try exact ev));all_goals simp[cg,wv,a1,be,aV]
  |some t=>
   rw[bF]at fp;have aU:((l.length-(l.drop (i+1)).length:Nat):Int)=(i:Int)+1:=by rw[hg];omega
   simp only[kF,j0,pf,Option.isSome_some,aU]at fp⊢;clear bo aU;refine bQ hs yQ zB fun aN=>?_;unfold w4;clear aN;simp;((with_reducible repeat' first|refine aA ?_|refine a8 fp ?_|refine ba fp ?_|simp[il,az,eQ,af,r2,qG,EH,b1]|((first|apply dG|apply dJ|apply dI)<;>intro h<;>try simp at h))<;>(try exact ev));all_goals simp[cg,wv,a1,be,aV]
 subst n8;have aj:pX l i=0:=by unfold pX;rw[af];simp
 have aJ:rd hI (n+1) ([40]::l.drop (i+1))=bH hI n (l.drop (i+1)) []:=by simp[rd]
 rw[aj,aJ];obtain⟨R,bu⟩:∃R,R=j0 l 0 (bH hI n (l.drop (i+1)) []):=⟨_,rfl⟩;rw[<-bu];have pG:kin (fun _=>cZ) R:=by rw[bu];unfold j0;split<;>simp[kin,kinL]
 refine bQ hs yQ zB (fun aN=>?_) (hr:=pG);unfold w4;clear aN;simp;((with_reducible repeat' first|refine aA ?_|simp[il,az,eQ,af,qG,EH,b1]|((first|apply dG|apply dJ|apply dI)<;>intro h<;>try simp at h))<;>(try exact ev));refine h1 (qi l) (fun x=>l.length-x.2.1) (fun x=>x.2.1<=l.length/\2*(l.length-x.2.1)+2<=x.2.2/\x.2.2<=n/\j0 l 0 (bH hI x.2.2 (l.drop x.2.1) x.1)=R/\x.1.length<=x.2.1) ([],i+1,n) (by simp[qi];exact dw) ⟨az,by simp;omega,cq _,bu.symm,Ψ⟩ ?_;rintro⟨acc,j,k⟩ ⟨aw,aa,j7,dL,jd⟩ _;simp only at aw aa j7 dL jd;clear bu b1 eQ af oW il qG EH aj aJ eN lD;obtain⟨k,rfl⟩:∃m,k=m+1:=⟨k-1,Ω⟩;rcases iX aw with rfl|fs
 ·rw[jN]at dL;simp only[bH,j0]at dL;subst dL;clear bo;simp[qi];((with_reducible repeat' first|refine aA ?_|simp|((first|apply dG|apply dJ|apply dI)<;>intro h<;>try simp at h))<;>(try exact ev));all_goals simp[cg,wv,a1,be,aV]
 obtain⟨v,aM⟩:∃v,l[j]? =some v:=⟨_,cF fs⟩;have gj:∀h,((bZ l)[j]'h)= .str v:=fun h=>by rw[mx fs];rw[cF fs]at aM;rw[gq aM]
 have gI:aY ((j:Int)+1):=by unfold aY;omega
 have Bj:¬(l.length:Int)<=j:=Ω
 rw[fi aM]at dL;by_cases eN:v=[41]
 ·subst eN;have aU:((l.length-(l.drop (j+1)).length:Nat):Int)=(j:Int)+1:=by rw[hg];omega
  have he:bH hI (k+1) ([41]::l.drop (j+1)) acc=some (e9 acc .nil,l.drop (j+1)):=by simp[bH]
  rw[he]at dL;simp only[j0,aU]at dL;subst dL;have zl:=SO acc .nil;clear bo;simp[qi];exact cw
 have qG:=uL eN;have mV:=qH eN;by_cases lD:v=[46]
 ·subst lD;have dh:=bo k Ω (j+1) Ω Ω;have Hi:((j+1:Nat):Int)=(j:Int)+1:=Ω
  rw[Hi]at dh;cases db:rd hI k (l.drop (j+1))with
  |none=>
   rw[db]at dh;have he:bH hI (k+1) ([46]::l.drop (j+1)) acc=none:=by simp[bH,db]
   rw[he]at dL;simp only[j0]at dL dh;subst dL;clear bo;simp[qi];exact cw
  |some tr=>
   obtain⟨t,rest⟩:=tr;rw[db]at dh;obtain⟨fE,nz⟩:=Fm (pY k _ _ _ db).1;obtain⟨p,aU⟩:∃p,p=l.length-rest.length:=⟨_,rfl⟩;have fm:p<=l.length:=Ω
   simp only[j0,<-aU]at dh;rw[<-aU]at fE;by_cases y2:acc=[]
   ·have he:bH hI (k+1) ([46]::l.drop (j+1)) acc=none:=by simp[bH,y2]
    rw[he]at dL;simp only[j0]at dL;subst dL;subst y2;clear bo;simp[qi];((with_reducible repeat' first|refine aA ?_|refine a8 dh ?_|refine ba dh ?_|simp[fs,gj,aM,Bj,gI,mV]|((first|apply dG|apply dJ|apply dI)<;>intro h<;>try simp at h))<;>(try exact ev));all_goals simp[cg,wv,a1,be,aV]
   have Ob:((acc.length:Int)==0)=false:=jm.2 (by have:=q2.2 y2;omega);rcases iX fm with hpe|fm
   ·have he:bH hI (k+1) ([46]::l.drop (j+1)) acc=none:=by
     have:rest=[]:=by rw[fE,hpe,jN]
     simp[bH,db,y2,this]
    rw[he]at dL;simp only[j0]at dL;subst dL;rw[hpe]at dh;clear bo;simp[qi];exact cw
   obtain⟨u,hu⟩:∃v,l[p]? =some v:=⟨_,cF fm⟩;have lh:∀h,((bZ l)[p]'h)= .str u:=fun h=>by rw[mx fm];rw[cF fm]at hu;rw[gq hu]
   have OO:¬(l.length:Int)<=p:=Ω
   have OM:aY ((p:Int)+1):=by unfold aY;omega
   rw[fi hu]at fE;by_cases H4:u=[41]
   ·subst H4;have HN:((l.length-(l.drop (p+1)).length:Nat):Int)=(p:Int)+1:=by rw[hg];omega
    have he:bH hI (k+1) ([46]::l.drop (j+1)) acc=some (e9 acc t,l.drop (p+1)):=by simp[bH,db,y2,fE]
    rw[he]at dL;simp only[j0,HN]at dL;subst dL;have zl:=SO acc t;clear bo;simp[qi];((with_reducible repeat' first|refine aA ?_|refine a8 dh ?_|refine ba dh ?_|refine a8 zl ?_|refine ba zl ?_|simp[fs,gj,aM,Bj,gI,mV,Ob,fm,lh,hu,OO,OM]|((first|apply dG|apply dJ|apply dI)<;>intro h<;>try simp at h))<;>(try exact ev));all_goals simp[cg,wv,a1,be,aV]
   ·have aaJ:=qH H4;have he:bH hI (k+1) ([46]::l.drop (j+1)) acc=none:=by simp[bH,db,y2,fE,H4]
    rw[he]at dL;simp only[j0]at dL;subst dL;clear bo;simp[qi];((with_reducible repeat' first|refine aA ?_|refine a8 dh ?_|refine ba dh ?_|simp[fs,gj,aM,Bj,gI,mV,Ob,fm,lh,hu,OO,OM,aaJ]|((first|apply dG|apply dJ|apply dI)<;>intro h<;>try simp at h))<;>(try exact ev));all_goals simp[cg,wv,a1,be,aV]
 have P7:=qH lD;have dh:=bo k Ω j Ω Ω;rw[fi aM]at dh;have he:bH hI (k+1) (v::l.drop (j+1)) acc=match rd hI k (v::l.drop (j+1))with
   |some (t,cE)=>bH hI k cE (acc++[t])
   |none=>none:=by
  conv=>lhs;unfold bH
  rw[bq eN,bq lD];cases rd hI k (v::l.drop (j+1))<;>rfl
 rw[he]at dL;cases db:rd hI k (v::l.drop (j+1))with
 |none=>rw[db]at dh dL;simp only[j0]at dL dh;subst dL;clear bo he;generalize pX l j=q at dh;simp[qi];((with_reducible repeat' first|refine aA ?_|refine a8 dh ?_|refine ba dh ?_|simp[fs,gj,aM,Bj,mV,P7]|((first|apply dG|apply dJ|apply dI)<;>intro h<;>try simp at h))<;>(try exact ev));all_goals simp[cg,wv,a1,be,aV]
 |some tr=>
  obtain⟨t,rest⟩:=tr;rw[db]at dh dL;obtain⟨fE,nz⟩:=Fm (j:=j) (by rw[fi aM];exact(pY k _ _ _ db).1);have BA:=(pY k _ _ _ db).2;have OT:rest.length<l.length-j:=by simp at BA;omega
  obtain⟨p,aU⟩:∃p,p=l.length-rest.length:=⟨_,rfl⟩;simp only[j0,<-aU]at dh;simp only at dL;rw[<-aU]at fE;rw[fE]at dL;have hT:acc.length+1<=bN:=by unfold bN;omega
  clear bo he;simp[qi];((with_reducible repeat' first|refine aA ?_|refine a8 dh ?_|refine ba dh ?_|simp[fs,gj,aM,Bj,mV,P7,hT]|((first|apply dG|apply dJ|apply dI)<;>intro h<;>try simp at h))<;>(try exact ev));refine b9.whl (acc++[t],p,k) (by show l.length-p<l.length-j;omega) ⟨by show p<=l.length;omega,by show 2*(l.length-p)+2<=k;omega,by show k<=n;omega,dL,by simp;omega⟩ (by simp[qi];exact⟨by simp[fresh,kinL,kin,bt,au,Pv.look,cX],cR (by simp[fresh,kinL,kin,bt,au,Pv.look,cX]),cS (by simp[fresh,kinL,kin,cB,au,Pv.look,cX]),Ψ⟩)
theorem KA(l:List aX):b6 aQ 253 [.slice 4 .no (l.map enc)] (.bool (l.all aX.fits)):=by
 generalize bu:l.all aX.fits=R;refine bQ lu WA abD fun aN=>?_;unfold L3;have gJ:l.length<=68719476736:=by simp[iZ,js,ja,bN]at aN;omega
 clear aN;simp;refine gu (fun i (_:Unit)=>⟨[(5,.slice 4 .no (l.map enc)),(6,.int .i64 l.length),(7,.int .i64 i)],[],[],0,[]⟩) l.length (oj aX.fits l) () dw (fun k b aa=>Ω) (fun _ aw _=>?_) (fun i _ az aw _=>?_)
 ·have:R=true:=by rw[<-bu];exact aw.fin
  subst this;clear aw bu;exact cw
 ·obtain⟨t,aD,Zq⟩:=hj az;have cx:=aeu t;cases g:t.fits
  ·rw[g]at cx;have:R=false:=by rw[<-bu];exact wV aD g
   subst this;clear aD aw bu;exact cw
  ·rw[g]at cx;have aK:=aw.step aD g;clear aD aw bu;exact r7
mutual
def k7:Gm->Int->Int
 | .mk _ _ _ gs,m=>nZ gs 1 m
def nZ:List Gm->Int->Int->Int
 |[],n,_=>n
 |x::xs,n,m=>if m<n then n else nZ xs (n+k7 x (m-n)) m
end
mutual
theorem Gz:∀(t:Gm) (m:Int),0<=m->1<=k7 t m/\k7 t m<=m+1
 | .mk _ _ _ gs,m,h=>by simp only[k7];exact Mt gs 1 m h Ω Ω
theorem Mt:∀(l:List Gm) (n m:Int),0<=m->1<=n->n<=m+1->1<=nZ l n m/\nZ l n m<=m+1
 |[],n,m,_,I,J=>by simp only[nZ];exact⟨I,J⟩
 |x::xs,n,m,bL,I,J=>by
  simp only[nZ];split
  ·exact⟨I,J⟩
  ·have:=Gz x (m-n) Ω;exact Mt xs _ m bL Ω Ω
end
mutual
theorem GA:∀(t:Gm) (m:Int),0<=m->(k7 t m<=m↔(t.sz:Int)<=m)/\((t.sz:Int)<=m->k7 t m=t.sz)
 | .mk _ _ _ gs,m,h=>by have:=Mu gs 1 m h Ω;simp only[k7,Gm.sz];exact⟨this.1.trans Ω,fun h=>by rw[this.2 Ω];omega⟩
theorem Mu:∀(l:List Gm) (n m:Int),0<=m->1<=n->(nZ l n m<=m↔n+(oN l:Int)<=m)/\(n+(oN l:Int)<=m->nZ l n m=n+oN l)
 |[],n,m,_,I=>by simp[nZ,oN]
 |x::xs,n,m,bL,I=>by
  simp only[nZ,oN];have aU:=x.sz_pos;by_cases hm:m<n
  ·rw[if_pos hm];exact⟨Ω,fun h=>Ω⟩
  ·rw[bq hm];obtain⟨bB,a2⟩:=GA x (m-n) Ω;have a3:=Gz x (m-n) Ω;obtain⟨cb,cn⟩:=Mu xs (n+k7 x (m-n)) m bL Ω;by_cases af:(x.sz:Int)<=m-n
   ·rw[a2 af]at cb cn⊢;exact⟨cb.trans Ω,fun h=>by rw[cn Ω];omega⟩
   ·have:¬k7 x (m-n)<=m-n:=fun h=>af (bB.1 h);exact⟨cb.trans ⟨fun h=>Ω,fun h=>Ω⟩,fun h=>Ω⟩
end
theorem UB(g:Gm)(m:Int):k7 g m=nZ g.gs 1 m:=by cases g;rfl
theorem SP:∀(k:Nat) (t:Gm),t.sz<=k->∀m:Int,0<=m->m<=1000000->b6 aQ 210 [t.e,.int .i64 m] (.int .i64 (k7 t m)):=by
 intro k;induction k with
 |zero=>intro t aD;have:=t.sz_pos;omega
 |succ k bo=>
  intro t aD m bL I;refine bQ lu WH abJ fun aN=>?_;unfold L9;have gJ:t.gs.length<=68719476736:=by rw[Gm.e_eq]at aN;simp[iZ,js,ja,bN]at aN;omega
  clear aN;simp;refine gu (fun i (n:Int)=>⟨[(1,.int .i64 m),(5,.int .i64 n),(9,.slice 4 .no (t.gs.map Gm.e)),(10,.int .i64 t.gs.length),(11,.int .i64 i)],[],[],0,[]⟩) t.gs.length (fun i n=>(1<=n/\n<=m+1)/\nZ (t.gs.drop i) n m=k7 t m) 1 (by simp;exact dw) ⟨Ω,by simp[UB]⟩ (fun n aw _=>?_) (fun i n az aw _=>?_)
  ·have he:n=k7 t m:=by have:=aw.2;simp[nZ]at this;exact this
   subst he;clear aw;exact cw
  ·obtain⟨⟨lI,oU⟩,aw⟩:=aw;obtain⟨x,af,fF⟩:=hj az;have aF:t.gs.drop i=x::t.gs.drop (i+1):=by rw[pd az,fF]
   have dq:x.sz<=k:=by have:=t.gs_lt (fJ af);omega
   have b1:aY ((i:Int)+1):=by unfold aY;omega
   rw[aF]at aw;simp only[nZ]at aw;by_cases ah:m<n
   ·rw[if_pos ah]at aw;subst aw;clear bo;exact cw
   ·rw[bq ah]at aw;have aE:=Gz x (m-n) Ω;have o0:=bo x dq (m-n) Ω Ω;have eV:aY (m-n):=by unfold aY;omega
    have agz:aY (n+k7 x (m-n)):=by unfold aY;omega
    have jB:(1<=n+k7 x (m-n)/\n+k7 x (m-n)<=m+1)/\nZ (t.gs.drop (i+1)) (n+k7 x (m-n)) m=k7 t m:=⟨Ω,aw⟩;clear bo;have vZ:=o0;exact r7
theorem RL:bZ jw=[.str [116,114,117,101],.str [102,97,105,108],.str [115,121,109,98,111,108],.str [110,117,109,98,101,114],.str [97,98,115,101,110,116],.str [97,110,100],.str [111,114],.str [110,111,116],.str [100,101,102,105,110,101]]:=rfl
theorem SV(s:List al):b6 aQ 128 [.str s] (.bool (gL s)):=by
 have cD:=gX s;generalize bu:gL s=R;refine bQ lu Wx abA fun aN=>?_;unfold L0;clear aN;simp[<-RL];refine⟨by rw[RL];simp[qm],?_⟩;refine gu (fun i (_:Unit)=>⟨[(0,.str s),(5,.slice 1 (.own (.loc 0)) (bZ jw)),(6,.int .i64 jw.length),(7,.int .i64 i)],[],[(.loc 0,⟨9,9,1,none⟩)],1,[]⟩) jw.length (oj (fun w=>w !=s) jw) () dw (fun k b aa=>Ω) (fun _ aw _=>?_) (fun i _ az aw _=>?_)
 ·have aK:jw.contains s=false:=by
   have:=(show oj (fun w=>w !=s) jw jw.length ()from aw).fin;rw[jy]at this;cases aE:jw.contains s with
   |false=>rfl
   |true=>
    have I:s∈jw:=by simpa using aE
    have:=this s I;simp at this
  have:R=fM s:=by rw[<-bu,gL,aK];rfl
  rw[this];clear bu aw;exact cw
 ·have gZ:i<jw.length:=az;obtain⟨w,hw⟩:∃w,jw[i]? =some w:=⟨_,cF gZ⟩;have Zy:∀h,((bZ jw)[i]'h)= .str w:=fun h=>by rw[mx gZ];rw[cF gZ]at hw;rw[gq hw]
  have agP:(i:Int)<9:=by have h:i<9:=gZ;omega
  have b1:aY ((i:Int)+1):=by unfold aY;omega
  have YR:i<(bZ jw).length:=gZ;have Ec:(bZ jw)[i]? =some (.str w):=by rw[cF YR,Zy]
  by_cases he:w=s
  ·have:R=false:=by
    rw[<-bu,gL];have:jw.contains s=true:=by rw[<-he];simpa using fJ hw
    rw[this];rfl
   subst this;subst he;clear bu aw;exact cw
  ·have aK:=aw.step hw (by simpa using he);have agH:(w==s)=false:=by simpa using he
   clear bu aw;exact r7
def wC(k:Int)(n:Int):Int:=if k=9 then n else lp k
def hdS(g:Gm):Prop:=(g.ts.length:Int)=wC g.kind g.ts.length/\g.ts.length<=4/\(g.kind<7->g.gs=[])/\g.gs.length<=8
def sj(g:Gm):Bool:=if g.kind=6 then(match g.ts with|x::_=>decide (x.kind=2)|[]=>false)else if g.kind=9 then g.gs.isEmpty&&gL g.name else if g.kind=10 then(match g.gs with|[x]=>decide (x.kind=9)|_=>false)else true
theorem aaL(k:Int):0<=lp k/\lp k<=2:=by
 unfold lp;repeat' split
 all_goals omega
theorem R5(g:Gm):g.shape=true↔(0<=g.kind/\g.kind<=10)/\(g.kind≠9->g.name=[])/\g.ts.all aX.fits=true/\hdS g/\g.gs.all Gm.shape=true/\sj g=true:=by
 rw[oA,bM];have aK:=aaL g.kind;unfold hdS wC sj;by_cases I:0<=g.kind/\g.kind<=6
 ·rw[if_pos I,bq (show¬g.kind=9 by omega)];by_cases cj:g.kind=6
  ·simp[cj];constructor
   ·rintro⟨a,⟨⟨b,c⟩,d⟩,e⟩;rw[c]at*;refine⟨b,a,⟨d,by rw[cj]at aK;omega,rfl,Ψ⟩,Ψ,e⟩
   ·rintro⟨a,b,⟨c,d,e,_⟩,_,f⟩;exact⟨b,⟨⟨a,e⟩,c⟩,f⟩
  ·have aaK:¬g.kind=9:=Ω
   have n10:¬g.kind=10:=Ω
   simp[cj,aaK,n10];constructor
   ·rintro⟨a,⟨b,c⟩,d⟩;rw[c];exact⟨Ω,b,a,⟨d,Ω,fun _=>rfl,Ψ⟩,Ψ⟩
   ·rintro⟨_,a,b,⟨c,d,e,_⟩,_⟩;exact⟨b,⟨a,e Ω⟩,c⟩
 ·rw[bq I];by_cases e6:g.kind=9
  ·simp[e6];intro _;constructor
   ·rintro⟨⟨b,c⟩,d⟩;rw[c];exact⟨⟨d,Ψ⟩,Ψ,rfl,b⟩
   ·rintro⟨⟨b,c⟩,d,e,f⟩;exact⟨⟨f,e⟩,b⟩
  ·rw[bq e6];by_cases xj:g.kind=7\/g.kind=8
   ·rw[if_pos xj];have de:lp g.kind=0:=by rcases xj with h|h<;>rw[h]<;>rfl
    rw[de];rcases xj with h|h;all_goals
     simp[h]
     constructor
     ·rintro⟨a,⟨⟨b,c⟩,d⟩,e⟩
      rw[c];exact⟨b,Ψ,⟨rfl,Ψ,d⟩,e⟩
     ·rintro⟨a,b,⟨c,d,e⟩,f⟩
      exact⟨b,⟨⟨a,c⟩,e⟩,f⟩
   ·rw[bq xj];by_cases fC:g.kind=10
    ·simp[fC,lp];constructor
     ·rintro⟨a,⟨⟨b,c⟩,d⟩,e⟩;rw[c];refine⟨b,Ψ,⟨rfl,Ψ,?_⟩,e,d⟩;split at d
      ·rename_i x af;rw[af];simp
      ·cases d
     ·rintro⟨a,b,⟨c,d,e⟩,f,h⟩;exact⟨b,⟨⟨a,c⟩,h⟩,f⟩
    ·rw[bq fC];constructor
     ·rintro⟨_,h⟩;cases h
     ·rintro⟨h,_⟩;omega
theorem adb(g:Gm)(h:¬(0<=g.kind/\g.kind<=10)):b6 aQ 211 [g.e] (.bool false):=by have eG:=eB g.kind 0 10;rw[decide_eq_false h]at eG;refine bQ lu sQ ti fun aN=>?_;unfold q9;clear aN;exact cw
theorem adf(g:Gm)(h:0<=g.kind/\g.kind<=10)(e6:¬g.kind=9)(aK:g.name.isEmpty=false):b6 aQ 211 [g.e] (.bool false):=by
 have eG:=eB g.kind 0 10;rw[nM h]at eG;have xk:(g.kind !=9)=true:=by simpa using e6
 refine bQ lu sQ ti fun aN=>?_;unfold q9;clear aN;exact cw
theorem adg(g:Gm)(h:0<=g.kind/\g.kind<=10)(aK:g.kind≠9->g.name.isEmpty=true)(aD:g.ts.all aX.fits=false):b6 aQ 211 [g.e] (.bool false):=by
 have eG:=eB g.kind 0 10;rw[nM h]at eG;have fp:=KA g.ts;rw[aD]at fp;by_cases e6:g.kind=9
 ·have xk:(g.kind !=9)=false:=by simpa using e6
  refine bQ lu sQ ti fun aN=>?_;unfold q9;clear aN;simp;((with_reducible repeat' first|refine aA ?_|refine a8 eG ?_|refine ba eG ?_|refine a8 fp ?_|refine ba fp ?_|simp[xk]|((first|apply dG|apply dJ|apply dI)<;>intro h<;>try simp at h))<;>(try exact ev));simp[cg,zL,a1,be,aV]
 ·have xk:(g.kind !=9)=true:=by simpa using e6
  have gK:=aK e6;refine bQ lu sQ ti fun aN=>?_;unfold q9;clear aN;exact cw
set_option maxRecDepth 8000 in
theorem ada(g:Gm)(h:0<=g.kind/\g.kind<=10)(aK:g.kind≠9->g.name.isEmpty=true)(aD:g.ts.all aX.fits=true)(hB:¬hdS g):b6 aQ 211 [g.e] (.bool false):=by
 have eG:=eB g.kind 0 10;rw[nM h]at eG;have fp:=KA g.ts;rw[aD]at fp;have oS:g.kind=0\/g.kind=1\/g.kind=2\/g.kind=3\/g.kind=4\/g.kind=5\/g.kind=6\/g.kind=7\/g.kind=8\/g.kind=9\/g.kind=10:=Ω
 have gK:g.kind≠9->g.name.isEmpty=true:=aK;have xw:∀l:List Gm,decide ((0:Int)<l.length)= !l.isEmpty:=fun l=>by cases l<;>simp
 clear h aD aK;have DK:¬((g.ts.length:Int)=wC g.kind g.ts.length/\g.ts.length<=4/\(g.kind<7->g.gs=[])/\g.gs.length<=8):=hB;clear hB;by_cases e6:g.kind=9
 ·rw[e6]at DK eG;simp[wC]at DK;clear oS gK;refine bQ lu sQ ti fun aN=>?_;unfold q9;clear aN;simp;simp[e6];((with_reducible repeat' first|refine aA ?_|refine a8 eG ?_|refine ba eG ?_|refine a8 fp ?_|refine ba fp ?_|simp[e6,xw]|((first|apply dG|apply dJ|apply dI)<;>intro h<;>try simp at h))<;>(try exact ev));all_goals first|(simp[cg,zL,a1,be,aV];done)|(exfalso;clear eG fp;simp_all;done)|(exfalso;clear eG fp;simp_all;omega)|(exfalso;clear eG fp;grind)
 have oS:g.kind=0\/g.kind=1\/g.kind=2\/g.kind=3\/g.kind=4\/g.kind=5\/g.kind=6\/g.kind=7\/g.kind=8\/g.kind=10:=Ω
 rcases oS with aa|aa|aa|aa|aa|aa|aa|aa|aa|aa;all_goals
  rw[aa]at DK
  simp[wC,lp]at DK
  have ft:=gK Ω
  rw[aa]at eG
  refine bQ lu sQ ti fun aN=>?_;unfold q9
  clear aN
  simp
  simp[aa]
  ((with_reducible repeat' first|refine aA ?_|refine a8 eG ?_|refine ba eG ?_|refine a8 fp ?_|refine ba fp ?_|simp[aa,ft,xw]|((first|apply dG|apply dJ|apply dI)<;>intro h<;>try simp at h))<;>(try exact ev))
  all_goals first|(simp[cg,zL,a1,be,aV];done)|(exfalso;clear eG fp;simp_all;done)|(exfalso;clear eG fp;simp_all;omega)|(exfalso;clear eG fp;grind)
def jr(g:Gm)(i:Nat)(_:Unit):aS:=⟨[(1,.ptr (.loc 0) 0),(61,.slice 4 .no (g.gs.map Gm.e)),(62,.int .i64 g.gs.length),(63,.int .i64 i)],[(.loc 0,[.int .i64 g.kind,.str g.name,.slice 4 .no (g.ts.map enc),.slice 4 .no (g.gs.map Gm.e)])],[],2,[]⟩
set_option maxRecDepth 8000 in
theorem ade(g:Gm)(h:0<=g.kind/\g.kind<=10)(aK:g.kind≠9->g.name.isEmpty=true)(aD:g.ts.all aX.fits=true)(hB:hdS g)(bo:∀x∈g.gs,b6 aQ 211 [x.e] (.bool x.shape)):b6 aQ 211 [g.e] (.bool (g.gs.all Gm.shape&&sj g)):=by
 have eG:=eB g.kind 0 10;rw[nM h]at eG;have fp:=KA g.ts;rw[aD]at fp;have oS:g.kind=0\/g.kind=1\/g.kind=2\/g.kind=3\/g.kind=4\/g.kind=5\/g.kind=6\/g.kind=7\/g.kind=8\/g.kind=9\/g.kind=10:=Ω
 have gK:g.kind≠9->g.name.isEmpty=true:=aK;have xw:∀l:List Gm,decide ((0:Int)<l.length)= !l.isEmpty:=fun l=>by cases l<;>simp
 clear h aD aK;obtain⟨cb,cn,gd,F3⟩:=hB;have CV:¬(4:Int)<g.ts.length:=Ω
 have CW:¬(8:Int)<g.gs.length:=Ω
 generalize bu:(g.gs.all Gm.shape&&sj g)=R;have YA:g.gs.length<=1000000:=Ω
 by_cases e6:g.kind=9
 ·rw[e6]at eG;clear oS gK;refine bQ lu sQ ti fun aN=>?_;unfold q9;clear aN;simp;simp[e6];(with_reducible repeat' first|refine aA ?_|refine a8 eG ?_|refine ba eG ?_|refine a8 fp ?_|refine ba fp ?_|simp[e6,xw,CV,CW]);refine gu (jr g) g.gs.length (oj Gm.shape g.gs) () (by simp[jr,e6];exact dw) (fun k b aa=>Ω) (fun _ aw _=>?_) (fun i _ az aw _=>?_);rotate_left
  ·obtain⟨y,bA,ho⟩:=hj az;have ky:=bo y (fJ bA);have b1:aY ((i:Int)+1):=by unfold aY;omega
   cases gF:y.shape
   ·have j5:R=false:=by rw[<-bu,wV bA gF];rfl
    subst j5;rw[gF]at ky;clear bu aw bo;simp[jr,e6,az,ho];exact cw
   ·have jB:=aw.step bA gF;rw[gF]at ky;clear bu aw bo;simp[jr,e6,az,ho];(with_reducible repeat' first|refine aA ?_|refine a8 ky ?_|refine ba ky ?_|simp[az,ho,b1]);refine b9.rng () az jB (by simp[jr,e6];exact dw)
  have j5:R=(g.gs.isEmpty&&gL g.name):=by rw[<-bu,aw.fin];simp[sj,e6]
  subst j5;clear bu aw bo;have vV:=SV g.name;cases de:g.gs.isEmpty
  ·have ZD:((g.gs.length:Int)==0)=false:=by rw[Ew,de]
   simp[jr,e6];have vZ:=vV;exact cw
  ·have ZD:((g.gs.length:Int)==0)=true:=by rw[Ew,de]
   simp[jr,e6];have vZ:=vV;exact cw
 have ft:=gK e6;have Ll:g.kind<7->¬0<g.gs.length:=fun h=>by rw[gd h];simp
 clear gd gK;by_cases cj:g.kind=6
 ·rw[cj]at cb eG;simp only[wC,lp,Int.reduceEq,reduceIte]at cb;have gd:=Ll Ω;refine bQ lu sQ ti fun aN=>?_;unfold q9;clear aN;simp;simp[cj];(with_reducible repeat' first|refine aA ?_|refine a8 eG ?_|refine ba eG ?_|refine a8 fp ?_|refine ba fp ?_|simp[cj,ft,xw,cb,gd,CV,CW]);refine gu (jr g) g.gs.length (oj Gm.shape g.gs) () (by simp[jr,cj];exact dw) (fun k b aa=>Ω) (fun _ aw _=>?_) (fun i _ az aw _=>?_);rotate_left
  ·obtain⟨y,bA,ho⟩:=hj az;have ky:=bo y (fJ bA);have b1:aY ((i:Int)+1):=by unfold aY;omega
   cases gF:y.shape
   ·have j5:R=false:=by rw[<-bu,wV bA gF];rfl
    subst j5;rw[gF]at ky;clear bu aw bo;simp[jr,cj,az,ho];exact cw
   ·have jB:=aw.step bA gF;rw[gF]at ky;clear bu aw bo;simp[jr,cj,az,ho];(with_reducible repeat' first|refine aA ?_|refine a8 ky ?_|refine ba ky ?_|simp[az,ho,b1]);refine b9.rng () az jB (by simp[jr,cj];exact dw)
  obtain⟨x,y,e⟩:∃x y,g.ts=[x,y]:=Sx Ω;have j5:R=decide (x.kind=2):=by rw[<-bu,aw.fin];simp[sj,cj,e]
  subst j5;clear bu aw bo;simp[jr,cj,e];(with_reducible repeat' first|refine aA ?_|simp[cj]);simp[cg,zL,a1,be,aV];rfl
 by_cases fC:g.kind=10
 ·rw[fC]at cb eG;simp only[wC,lp,Int.reduceEq,reduceIte]at cb;refine bQ lu sQ ti fun aN=>?_;unfold q9;clear aN;simp;simp[fC];(with_reducible repeat' first|refine aA ?_|refine a8 eG ?_|refine ba eG ?_|refine a8 fp ?_|refine ba fp ?_|simp[fC,ft,xw,cb,CV,CW]);refine gu (jr g) g.gs.length (oj Gm.shape g.gs) () (by simp[jr,fC];exact dw) (fun k b aa=>Ω) (fun _ aw _=>?_) (fun i _ az aw _=>?_);rotate_left
  ·obtain⟨y,bA,ho⟩:=hj az;have ky:=bo y (fJ bA);have b1:aY ((i:Int)+1):=by unfold aY;omega
   cases gF:y.shape
   ·have j5:R=false:=by rw[<-bu,wV bA gF];rfl
    subst j5;rw[gF]at ky;clear bu aw bo;simp[jr,fC,az,ho];exact cw
   ·have jB:=aw.step bA gF;rw[gF]at ky;clear bu aw bo;simp[jr,fC,az,ho];(with_reducible repeat' first|refine aA ?_|refine a8 ky ?_|refine ba ky ?_|simp[az,ho,b1]);refine b9.rng () az jB (by simp[jr,fC];exact dw)
  by_cases mh:g.gs.length=1
  ·obtain⟨x,e⟩:=List.length_eq_one_iff.1 mh;have j5:R=decide (x.kind=9):=by rw[<-bu,aw.fin];simp[sj,fC,e]
   subst j5;clear bu aw bo;simp[jr,fC,e];(with_reducible repeat' first|refine aA ?_|simp[fC]);simp[cg,zL,a1,be,aV];rfl
  ·have j5:R=false:=by
    rw[<-bu,aw.fin];simp[sj,fC];split
    ·rename_i x af;rw[af]at mh;simp at mh
    ·rfl
   subst j5;have agL:((g.gs.length:Int)==1)=false:=jm.2 Ω;clear bu aw bo;simp[jr,fC];exact cw
 have oS:g.kind=0\/g.kind=1\/g.kind=2\/g.kind=3\/g.kind=4\/g.kind=5\/g.kind=7\/g.kind=8:=Ω
 rcases oS with aa|aa|aa|aa|aa|aa|aa|aa;all_goals
  rw[aa]at cb eG
  simp only[wC,lp,Int.reduceEq,reduceIte]at cb
  have gd:=Ll
  simp only[aa,Int.reduceLT,forall_const,false_imp_iff]at gd
  refine bQ lu sQ ti fun aN=>?_;unfold q9
  clear aN
  simp
  simp[aa]
  (with_reducible repeat' first|refine aA ?_|refine a8 eG ?_|refine ba eG ?_|refine a8 fp ?_|refine ba fp ?_|simp[aa,ft,xw,cb,gd,CV,CW])
  refine gu (jr g) g.gs.length (oj Gm.shape g.gs) () (by simp[jr,aa];exact dw) (fun k b aa=>Ω) (fun _ aw _=>?_) (fun i _ az aw _=>?_)
  rotate_left
  ·obtain⟨y,bA,ho⟩:=hj az
   have ky:=bo y (fJ bA)
   have b1:aY ((i:Int)+1):=by unfold aY;omega
   cases gF:y.shape
   ·have j5:R=false:=by rw[<-bu,wV bA gF];rfl
    subst j5
    rw[gF]at ky
    clear bu aw bo
    simp[jr,aa,az,ho]
    exact cw
   ·have jB:=aw.step bA gF
    rw[gF]at ky
    clear bu aw bo
    simp[jr,aa,az,ho]
    (with_reducible repeat' first|refine aA ?_|refine a8 ky ?_|refine ba ky ?_|simp[az,ho,b1])
    refine b9.rng () az jB (by simp[jr,aa];exact dw)
  have j5:R=true:=by rw[<-bu,aw.fin];simp[sj,aa]
  subst j5
  clear bu aw bo
  simp[jr,aa]
  exact cw
end
end Go.Proofs.YtlnndmgfngfeiaaGreatDoor

namespace Go.Proofs.YtlnndmgfngfeiaaGreatDoor
section
open Go Go.Pv
def ll(n:Int):List Int->List Int
 |[]=>[n]
 |c::l=>if c<n then c::ll n l else if c=n then c::l else n::c::l
def sE(l:List Int):Prop:=l.Pairwise (· < ·)
theorem O8(n:Int):∀(l:List Int) (k:Nat),(∀i c,i<k->l[i]? =some c->c<n)->(∀c,l[k]? =some c->n<=c)->k<=l.length->ll n l=if l[k]? =some n then l else l.take k++n::l.drop k
 |[],k,_,_,aa=>by simp at aa;subst aa;rfl
 |c::l,0,_,J,_=>by
  have:=J c rfl;by_cases e:c=n
  ·simp[ll,e]
  ·have ao:¬c<n:=Ω
   simp[ll,ao,e]
 |c::l,k+1,I,J,aa=>by have bL:=I 0 c Ω rfl;simp only[ll,if_pos bL,sB,List.drop_succ_cons,dm,List.getElem?_cons_succ];rw[O8 n l k (fun i d az aF=>I (i+1) d Ω (by simpa using aF)) (fun d aF=>J d (by simpa using aF)) (by simpa using aa)];split<;>rfl
theorem IT{n m:Int}:∀{l:List Int},m∈ll n l↔m=n\/m∈l
 |[]=>by simp[ll]
 |c::l=>by
  simp only[ll];split
  ·simp only[gp,IT (l:=l)];constructor
   ·rintro(h|h|h)
    ·exact .inr (.inl h)
    ·exact .inl h
    ·exact .inr (.inr h)
   ·rintro(h|h|h)
    ·exact .inr (.inl h)
    ·exact .inl h
    ·exact .inr (.inr h)
  ·split
   ·rename_i h;subst h;simp
   ·simp
theorem Ij{n:Int}:∀{l:List Int},sE l->sE (ll n l)
 |[],_=>by simp[ll,sE]
 |c::l,h=>by
  obtain⟨I,J⟩:=List.pairwise_cons.1 h;simp only[ll];split
  ·rename_i ao;refine List.pairwise_cons.2 ⟨fun m hm=>?_,Ij J⟩;rcases IT.1 hm with rfl|hm
   ·exact ao
   ·exact I m hm
  ·split
   ·exact h
   ·refine List.pairwise_cons.2 ⟨fun m hm=>?_,h⟩;rcases gp.1 hm with rfl|hm
    ·omega
    ·have:=I m hm;omega
theorem O9(n:Int):∀l:List Int,(ll n l).length<=l.length+1
 |[]=>by simp[ll]
 |c::l=>by
  have:=O9 n l;simp only[ll];split
  ·simp;omega
  ·split<;>simp
theorem Pc(l:List Int)(i:Nat):(en l)[i]? =(l[i]?).map (ae.int .i64):=by simp[en]
theorem x9:∀l:List Int,bz (en l)=en l
 |[]=>by simp[en,bz]
 |a::l=>by have:=x9 l;simp only[en,gY,bz,bC]at this⊢;rw[this]
theorem Ei(l:List Int)(n:Int)(k:Nat):bz (List.take k (en l)++ae.int .i64 n::List.drop k (List.take l.length (en l)))=en (List.take k l++n::List.drop k l):=by
 have e:List.take l.length (en l)=en l:=List.take_of_length_le (by simp[en]);have aJ:List.take k (en l)++ae.int .i64 n::List.drop k (en l)=en (List.take k l++n::List.drop k l):=by simp only[en,List.map_append,gY,List.map_take,List.map_drop]
 rw[e,aJ];exact x9 _
theorem aea(l:List Int)(n:Int)(aG:l.length<=1000000)(bF:sE l):b6 aQ 212 [.slice 1 .no (en l),.int .i64 n] (.slice 1 .no (en (ll n l))):=by
 refine bQ iV WC abF fun aN=>?_;unfold L5;simp;refine MX [0,1] (fun(k:Nat)=>[(5,.int .i64 k)]) (fun k=>k) (fun k=>k<=l.length/\∀c,l[k]? =some c->n<=c) l.length dw ⟨Ω,fun c h=>by simp at h⟩ (fun k aw _=>?_);obtain⟨aa,aw⟩:=aw;have iK:(∀c,0<k->l[k-1]? =some c->c<n)->ll n l=if l[k]? =some n then l else l.take k++n::l.drop k:=fun h=>O8 n l k (fun i c az aE=>by
  obtain⟨d,aF⟩:∃d,l[k-1]? =some d:=⟨_,cF Ω⟩;have I:=h d Ω aF;rcases ly i (k-1)with J|J
  ·have uk:=(e3.1 aE);have oQ:=(e3.1 aF);have:=List.pairwise_iff_getElem.1 bF i (k-1) uk.1 oQ.1 J;rw[uk.2,oQ.2]at this;omega
  ·have:i=k-1:=Ω
   subst this;rw[aF]at aE;cases aE;exact I) aw aa
 have me:∀c,l[k]? =some c->∀h,((en l)[k]'h)= .int .i64 c:=fun c h cu=>by have:=Pc l k;rw[h,cF cu]at this;exact gq this
 have la:(0<k->∃d,l[k-1]? =some d/\d<n)->∀P:Prop,(ll n l=(if l[k]? =some n then l else l.take k++n::l.drop k)->P)->P:=fun h P uc=>uc (iK fun c bL aE=>by obtain⟨d,aF,I⟩:=h bL;rw[aF]at aE;cases aE;exact I)
 rcases Nat.eq_zero_or_pos k with bL|gS
 ·have de:decide ((0:Int)<k)=false:=by simp;omega
  refine la (fun h=>Ω) _ fun e=>?_;by_cases fP:k<l.length
  ·obtain⟨c,aE⟩:∃c,l[k]? =some c:=⟨_,cF fP⟩;have kK:=me c aE;rw[aE]at e;by_cases q:c=n
   ·have q':(c==n)=true:=by simp[q]
    rw[if_pos (by rw[q])]at e;rw[e];simp[de,fP];((with_reducible repeat' first|refine aA ?_|simp[de,fP,kK,q']|((first|apply dG|apply dJ|apply dI)<;>intro h<;>try simp at h))<;>(try exact ev));all_goals simp[cg,xW,a1,be,aV]
   ·have q':(c==n)=false:=by simp[q]
    rw[bq (by simp[q])]at e;rw[e];simp[de,fP];((with_reducible repeat' first|refine aA ?_|simp[de,fP,kK,q']|((first|apply dG|apply dJ|apply dI)<;>intro h<;>try simp at h))<;>(try exact ev));all_goals simp[cg,xW,a1,be,aV]
    all_goals exact Ei l n k
  ·rw[List.getElem?_eq_none Ω]at e;simp only[reduceCtorEq,if_false]at e;rw[e];simp[de,fP];((with_reducible repeat' first|refine aA ?_|simp[de,fP]|((first|apply dG|apply dJ|apply dI)<;>intro h<;>try simp at h))<;>(try exact ev));all_goals simp[cg,xW,a1,be,aV]
   all_goals exact Ei l n k
 ·obtain⟨d,aF⟩:∃d,l[k-1]? =some d:=⟨_,cF Ω⟩;have aj:((k:Int)-1).toNat=k-1:=Ω
  have aJ:∀h,((en l)[k-1]'h)= .int .i64 d:=fun cu=>by have:=Pc l (k-1);rw[aF,cF cu]at this;exact gq this
  have s4:(0:Int)<k:=Ω
  have vL:k-1<l.length:=Ω
  by_cases ah:n<=d
  ·simp[gS,s4,aj,aJ,ah,vL];(with_reducible repeat' first|refine aA ?_|simp[gS,s4,aj,aJ,ah,vL]);refine b9.whl (k-1) Ω ⟨Ω,fun c aE=>by rw[aF]at aE;cases aE;exact ah⟩ ?_;have bs:((k-1:Nat):Int)=(k:Int)-1:=Ω
   simp[bs];exact dw
  ·refine la (fun _=>⟨d,aF,Ω⟩) _ fun e=>?_;by_cases fP:k<l.length
   ·obtain⟨c,aE⟩:∃c,l[k]? =some c:=⟨_,cF fP⟩;have kK:=me c aE;rw[aE]at e;by_cases q:c=n
    ·have q':(c==n)=true:=by simp[q]
     rw[if_pos (by rw[q])]at e;rw[e];simp[gS,s4,aj,aJ,ah,vL,fP];((with_reducible repeat' first|refine aA ?_|simp[gS,s4,aj,aJ,ah,vL,fP,kK,q']|((first|apply dG|apply dJ|apply dI)<;>intro h<;>try simp at h))<;>(try exact ev));all_goals simp[cg,xW,a1,be,aV]
    ·have q':(c==n)=false:=by simp[q]
     rw[bq (by simp[q])]at e;rw[e];simp[gS,s4,aj,aJ,ah,vL,fP];(with_reducible repeat' first|refine aA ?_|simp[gS,s4,aj,aJ,ah,vL,fP,kK,q']);all_goals simp[cg,xW,a1,be,aV]
     all_goals exact Ei l n k
   ·rw[List.getElem?_eq_none Ω]at e;simp only[reduceCtorEq,if_false]at e;rw[e];simp[gS,s4,aj,aJ,ah,vL,fP];(with_reducible repeat' first|refine aA ?_|simp[gS,s4,aj,aJ,ah,vL,fP]);all_goals simp[cg,xW,a1,be,aV]
    all_goals exact Ei l n k
def kh:T->List Int->List Int
 | .var n,l=>ll n l
 | .pair a b,l=>kh b (kh a l)
 |_,l=>l
theorem KC:∀(t:T) {l:List Int},sE l->sE (kh t l)
 | .var _,_,h=>Ij h
 | .pair a b,_,h=>KC b (KC a h)
 | .nil,_,h=>h
 | .sym _,_,h=>h
 | .num _,_,h=>h
theorem KD:∀(t:T) (l:List Int),(kh t l).length<=l.length+t.size
 | .var n,l=>by have:=O9 n l;simp only[kh,T.size];omega
 | .pair a b,l=>by have I:=KD a l;have J:=KD b (kh a l);simp only[kh,T.size];omega
 | .nil,l=>by simp[kh]
 | .sym _,l=>by simp[kh]
 | .num _,l=>by simp[kh]
theorem Ky:∀(t:T) (l:List Int),l.length+t.size<=1000000->sE l->b6 aQ 156 [t.e,.slice 1 .no (en l)] (.slice 1 .no (en (kh t l)))
 | .var n,l,aG,bF=>by
  simp only[T.size]at aG;have key:=aea l n Ω bF;refine bQ iV AU B2 fun aN=>?_;unfold yy;simp;(with_reducible repeat' first|refine aA ?_|refine a8 key ?_|refine ba key ?_|simp);all_goals simp[cg,zK,a1,be,aV]
  all_goals simp[kh,x9]
 | .pair a b,l,aG,bF=>by
  simp only[T.size]at aG;have ahA:=KD a l;have cI:=Ky a l Ω bF;have dr:=Ky b (kh a l) Ω (KC a bF);refine bQ iV AU B2 fun aN=>?_;unfold yy;simp;refine vr [15,16] (fun i (_:Unit)=>[(1,.slice 1 .no (en (if i=0 then l else if i=1 then kh a l else kh b (kh a l)))),(17,.int .i64 i)]) 2 (fun _ _=>True) () dw trivial (fun _ _ _=>?_) (fun i _ az _ _=>?_)
  ·simp;(with_reducible repeat' first|refine aA ?_|simp);simp[cg,zK,a1,be,aV];simp[kh,x9]
  ·rcases(by omega:i=0\/i=1)with rfl|rfl
   ·simp;((with_reducible repeat' first|refine aA ?_|refine a8 cI ?_|refine ba cI ?_|simp|((first|apply dG|apply dJ|apply dI)<;>intro h<;>try simp at h))<;>(try exact ev));exact b9.rng () az trivial dw
   ·simp;((with_reducible repeat' first|refine aA ?_|refine a8 dr ?_|refine ba dr ?_|simp|((first|apply dG|apply dJ|apply dI)<;>intro h<;>try simp at h))<;>(try exact ev));exact b9.rng () az trivial dw
 | .nil,l,aG,bF=>by refine bQ iV AU B2 fun aN=>?_;unfold yy;simp;refine vr [15,16] (fun i (_:Unit)=>[(1,.slice 1 .no (en l)),(17,.int .i64 i)]) 0 (fun _ _=>True) () dw trivial (fun _ _ _=>?_) (fun i _ az _ _=>Ω);simp;((with_reducible repeat' first|refine aA ?_|simp|((first|apply dG|apply dJ|apply dI)<;>intro h<;>try simp at h))<;>(try exact ev));simp[cg,zK,a1,be,aV];simp[kh,x9]
 | .sym _,l,aG,bF=>by refine bQ iV AU B2 fun aN=>?_;unfold yy;simp;refine vr [15,16] (fun i (_:Unit)=>[(1,.slice 1 .no (en l)),(17,.int .i64 i)]) 0 (fun _ _=>True) () dw trivial (fun _ _ _=>?_) (fun i _ az _ _=>Ω);simp;(with_reducible repeat' first|refine aA ?_|simp);simp[cg,zK,a1,be,aV];simp[kh,x9]
 | .num _,l,aG,bF=>by refine bQ iV AU B2 fun aN=>?_;unfold yy;simp;refine vr [15,16] (fun i (_:Unit)=>[(1,.slice 1 .no (en l)),(17,.int .i64 i)]) 0 (fun _ _=>True) () dw trivial (fun _ _ _=>?_) (fun i _ az _ _=>Ω);simp;(with_reducible repeat' first|refine aA ?_|simp);simp[cg,zK,a1,be,aV];simp[kh,x9]
theorem aeg:∀(n:Nat) (g:Gm),g.sz<=n->b6 aQ 211 [g.e] (.bool g.shape):=by
 intro n;induction n with
 |zero=>intro g aR;have:=g.sz_pos;omega
 |succ n bo=>
 intro g aR;have no:∀h:¬((0<=g.kind/\g.kind<=10)/\(g.kind≠9->g.name=[])/\g.ts.all aX.fits=true/\hdS g/\g.gs.all Gm.shape=true/\sj g=true),g.shape=false:=fun h=>by
  cases aq:g.shape with
  |false=>rfl
  |true=>exact absurd ((R5 g).1 aq) h
 by_cases I:0<=g.kind/\g.kind<=10;rotate_left
 ·rw[no fun h=>I h.1];exact adb g I
 by_cases J:g.kind≠9->g.name=[];rotate_left
 ·rw[no fun h=>J h.2.1];rw[Classical.not_imp]at J;exact adf g I J.1 (by simpa using J.2)
 have ua:g.kind≠9->g.name.isEmpty=true:=fun h=>by simpa using J h
 cases ao:g.ts.all aX.fits
 ·rw[no fun h=>by rw[ao]at h;cases h.2.2.1];exact adg g I ua ao
 by_cases aO:hdS g;rotate_left
 ·rw[no fun h=>aO h.2.2.2.1];exact ada g I ua ao aO
 have aG:=ade g I ua ao aO fun x af=>bo x (by have:=g.gs_lt af;omega);have he:(g.gs.all Gm.shape&&sj g)=g.shape:=by rw[Bool.eq_iff_iff,bM,R5];exact⟨fun h=>⟨I,J,ao,aO,h.1,h.2⟩,fun h=>⟨h.2.2.2.2.1,h.2.2.2.2.2⟩⟩
 rwa[he]at aG
theorem SU(g:Gm):b6 aQ 155 [g.e] (.bool (g.fits 80)):=by
 have jG:=SP g.sz g (cq _) 80 Ω Ω;have rW:=aeg g.sz g (cq _);have aE:=(GA g 80 Ω).1;by_cases h:g.sz<=80
 ·have I:k7 g 80<=80:=aE.2 Ω;have aL:g.fits 80=g.shape:=by unfold Gm.fits;rw[nM h,Bool.and_true]
  rw[aL];refine bQ lu Nd QM fun aN=>?_;unfold Gl;clear aN;simp;((with_reducible repeat' first|refine aA ?_|refine a8 jG ?_|refine ba jG ?_|refine a8 rW ?_|refine ba rW ?_|simp[I]|((first|apply dG|apply dJ|apply dI)<;>intro h<;>try simp at h))<;>(try exact ev));simp[cg,Jw,a1,be,aV]
 ·have I:¬k7 g 80<=80:=fun cu=>h (by have:=aE.1 cu;omega);have aL:g.fits 80=false:=by unfold Gm.fits;rw[decide_eq_false h,Bool.and_false]
  rw[aL];refine bQ lu Nd QM fun aN=>?_;unfold Gl;clear aN;simp;((with_reducible repeat' first|refine aA ?_|refine a8 jG ?_|refine ba jG ?_|refine a8 rW ?_|refine ba rW ?_|simp[I]|((first|apply dG|apply dJ|apply dI)<;>intro h<;>try simp at h))<;>(try exact ev));simp[cg,Jw,a1,be,aV]
def hV(vs:List Int)(l:List Int):List Int:=vs.foldl (fun l v=>ll v l) l
theorem Eh(a b l:List Int):hV (a++b) l=hV b (hV a l):=List.foldl_append
theorem Pb(vs:List Int):∀(l:List Int) (v:Int),v∈hV vs l↔v∈l\/v∈vs:=by
 induction vs with
 |nil=>intro l v;simp[hV]
 |cons x vs bo=>
  intro l v;show v∈hV vs (ll x l)↔_;rw[bo,IT];simp only[gp];constructor
  ·rintro((h|h)|h)
   ·exact .inr (.inl h)
   ·exact .inl h
   ·exact .inr (.inr h)
  ·rintro(h|h|h)
   ·exact .inl (.inr h)
   ·exact .inl (.inl h)
   ·exact .inr h
theorem Pa(vs:List Int):∀{l:List Int},sE l->sE (hV vs l):=by
 induction vs with
 |nil=>intro l h;exact h
 |cons x vs bo=>intro l h;exact bo (Ij h)
theorem aez(t:T):∀l:List Int,kh t l=hV t.tm.vs l:=by
 induction t with
 |pair a b uA uB=>
  intro l;have:(T.pair a b).tm.vs=a.tm.vs++b.tm.vs:=by simp[T.tm,aX.vs,aX.vsL]
  rw[this,Eh,<-uA,<-uB];rfl
 |var n=>intro l;simp[T.tm,aX.vs,kh,hV]
 |_=>intro l;simp[T.tm,aX.vs,aX.vsL,kh,hV]
def oY(l:List Int):Prop:=sE l/\∀v∈l,0<=v/\v<=100000
theorem oY.len{l:List Int}(h:oY l):l.length<=100001:=Je (h.1.imp fun n9=>Int.ne_of_lt n9) h.2
theorem oY.ins{l vs:List Int}(h:oY l)(aM:∀v∈vs,0<=v/\v<=100000):oY (hV vs l):=⟨Pa vs h.1,fun v hm=>by rcases(Pb vs l v).1 hm with cu|cu;exact h.2 v cu;exact aM v cu⟩
theorem aed{t:aX}(aD:t.fits=true){l:List Int}(aG:oY l):b6 aQ 156 [enc t,.slice 1 .no (en l)] (.slice 1 .no (en (hV t.vs l))):=by
 obtain⟨x,rfl,af⟩:=aX.fits_ex aD;rw[tX,<-aez];have bp:x.size<=5000:=by simp only[T.fit,bM,fK]at af;exact af.2
 exact Ky x l (by have:=aG.len;omega) aG.1
theorem aeC{t:aX}(aD:t.fits=true):∀v∈t.vs,0<=v/\v<=100000:=by obtain⟨x,rfl,af⟩:=aX.fits_ex aD;exact S0 x (Dx af)
theorem ZL{ts:List aX}{i:Nat}{t:aX}(h:ts[i]? =some t)(l:List Int):hV (aX.vsL (ts.take (i+1))) l=hV t.vs (hV (aX.vsL (ts.take i)) l):=by rw[k3,h,yg,yg,<-Eh];simp
theorem ZK{gs:List Gm}{i:Nat}{g:Gm}(h:gs[i]? =some g)(l:List Int):hV (Gm.vsL (gs.take (i+1))) l=hV g.vs (hV (Gm.vsL (gs.take i)) l):=by rw[k3,h,xi,xi,<-Eh];simp
def Au(g:Gm)(l:List Int)(i:Nat)(_:Unit):aS:=⟨[(1,.slice 1 .no (en (hV (aX.vsL (g.ts.take i)) l))),(2,.ptr (.loc 0) 0),(10,.slice 4 .no (g.ts.map enc)),(11,.int .i64 g.ts.length),(12,.int .i64 i)],[(.loc 0,[.int .i64 g.kind,.str g.name,.slice 4 .no (g.ts.map enc),.slice 4 .no (g.gs.map Gm.e)])],[],1,[]⟩
def Av(g:Gm)(l:List Int)(i:Nat)(_:Unit):aS:=⟨[(1,.slice 1 .no (en (hV (Gm.vsL (g.gs.take i)) l))),(21,.slice 4 .no (g.gs.map Gm.e)),(22,.int .i64 g.gs.length),(23,.int .i64 i)],[],[],1,[]⟩
theorem oY.tk{g:Gm}(aq:g.shape=true){l:List Int}(h:oY l)(i:Nat):oY (hV (aX.vsL (g.ts.take i)) l):=h.ins fun v aM=>by rw[yg,List.mem_flatMap]at aM;obtain⟨t,aD,aM⟩:=aM;exact aeC (x6 aq t (List.mem_of_mem_take aD)) v aM
theorem oY.gk{g:Gm}(aq:g.shape=true){l:List Int}(h:oY l)(i:Nat):oY (hV (Gm.vsL (g.gs.take i)) l):=h.ins fun v aM=>by rw[xi,List.mem_flatMap]at aM;obtain⟨t,aD,aM⟩:=aM;exact DI t.sz t (cq _) (shape_gs aq t (List.mem_of_mem_take aD)) v aM
theorem aeh:∀(n:Nat) (g:Gm),g.sz<=n->g.shape=true->∀l:List Int,oY l->b6 aQ 89 [g.e,.slice 1 .no (en l)] (.slice 1 .no (en (hV g.vs l))):=by
 intro n;induction n with
 |zero=>intro g aR;have:=g.sz_pos;omega
 |succ n bo=>
 intro g aR aq l aG;have lK:=J4 aq;rw[He,Eh];refine bQ lu WI abK fun aN=>?_;unfold Ma;clear aN;simp;refine gu (Au g l) g.ts.length (fun _ _=>True) () (by simp[Au,aX.vsL,hV];exact dw) trivial (fun _ _ _=>?_) (fun i _ az _ _=>?_)
 ·have iM:=aG.tk aq g.ts.length;rw[j4]at iM;simp[Au];generalize hV (aX.vsL g.ts) l=fc at iM⊢;(with_reducible repeat' first|refine aA ?_|simp);refine gu (Av g fc) g.gs.length (fun _ _=>True) () (by simp[Av,Gm.vsL,hV];exact dw) trivial (fun _ _ _=>?_) (fun i _ az _ _=>?_)
  ·simp[Av];exact cw
  ·obtain⟨b,ah,oP⟩:=hj az;have b1:aY ((i:Int)+1):=by unfold aY;omega
   have hm:=fJ ah;have o0:=bo b (by have:=g.gs_lt hm;omega) (shape_gs aq b hm) _ (iM.gk aq i);rw[<-ZK ah]at o0;clear bo;simp[Av,az,oP];(with_reducible repeat' first|refine aA ?_|refine a8 o0 ?_|refine ba o0 ?_|simp[az,oP,b1]);refine b9.rng () az trivial (by simp[Av];exact dw)
 ·obtain⟨b,ah,oP⟩:=hj az;have b1:aY ((i:Int)+1):=by unfold aY;omega
  have o0:=aed (x6 aq b (fJ ah)) (aG.tk aq i);rw[<-ZL ah]at o0;clear bo;simp[Au,az,oP];(with_reducible repeat' first|refine aA ?_|refine a8 o0 ?_|refine ba o0 ?_|simp[az,oP,b1]);refine b9.rng () az trivial (by simp[Au];exact dw)
def rH:List (List al):=[hP,ih,yi,yh,sw,ss,sn,sp,su,[],sr]
theorem Ym:bZ rH=[.str [116,114,117,101],.str [102,97,105,108],.str [61],.str [47,61],.str [115,121,109,98,111,108],.str [110,117,109,98,101,114],.str [97,98,115,101,110,116],.str [97,110,100],.str [111,114],.str [],.str [110,111,116]]:=rfl
theorem aek:b6 aQ 131 [] (.slice 1 .no (bZ rH)):=by rw[Ym];refine bQ lu WK abM fun aN=>?_;unfold Mc;clear aN;exact cw
end
end Go.Proofs.YtlnndmgfngfeiaaGreatDoor
namespace Go.Pv
section
open Go Go.Lib
def pE:Gm:= .mk 0 [] [] []
def TP(es:List Ey)(P:List Rl):Prop:= ∀(s:List al) (r:Rl),P.find? (fun r=>r.name==s)=some r->∃(k:Nat) (f:Ey),MR es s=(k:Nat)/\es[k]? =some f/\f.ar=r.ar
section
variable {c:Cd} {P:List Rl} {e:Ey} {yI:Int} (aE:TP c.es P)
include aE
end
end
end Go.Pv
namespace Go.Proofs.YtlnndmgfngfeiaaGreatDoor
section
open Go Go.Pv
theorem jv:h8 ⟨[],[]⟩:=⟨⟨fun _=>rfl,fun _=>rfl⟩,fun k cs h=>by simp[Pv.look]at h,fun k cs h=>by simp[Pv.look]at h⟩
def Am(l:List (List al))(o:aT (Gm×List (List al)))(r:ae)(ai:dD):Prop:=ai=⟨[],[]⟩/\match o with
 |some (g,rest)=>r= .tuple [g.e,.int .i64 (l.length-rest.length:Nat),.bool true]
 |none=> ∃(g:Gm) (k:Int),r= .tuple [g.e,.int .i64 k,.bool false]
theorem cW.rd{di:List cr}{e:Exit}{st:aS}(l:List (List al))(o:aT (Gm×List (List al)))(x:ae)(k:Int)(b:Bool)(ik:e= .ret\/e= .normal)(jb:Am l o (.tuple [x,.int .i64 k,.bool b]) ⟨[],[]⟩)(aa:kin (fun _=>cZ) x)(h:du st di fun r=>r= .tuple [x,.int .i64 k,.bool b]):cW di ⟨[],[]⟩ (Am l o) e st:=by
 refine cW.at ⟨[],[]⟩ ik jv (Same.refl _) (fun k cs h=>by simp[Pv.look]at h) (fun k cs h=>by simp[Pv.look]at h) ?_;unfold du at h⊢;split at h
 ·rename_i c a6 hr;refine⟨h.1,?_⟩;rw[h.2];refine⟨?_,jb⟩;simp only[kin,kinL,and_true];exact nB (fun _ h=>h.elim) _ aa
 ·exact h.elim
theorem oJ{l:List (List al)}{g:Gm}{x:ae}(h:x=g.e)(k:Int):Am l none (.tuple [x,.int .i64 k,.bool false]) ⟨[],[]⟩:=⟨rfl,g,k,by rw[h]⟩
theorem yq{l rest:List (List al)}{g:Gm}{x:ae}(h:x=g.e){k:Int}(aa:k=(l.length-rest.length:Nat)):Am l (some (g,rest)) (.tuple [x,.int .i64 k,.bool true]) ⟨[],[]⟩:=⟨rfl,by rw[h,aa]⟩
@[simp]theorem aha(a b c d:ae):Pv.isAgg 4 (.agg [a,b,c,d]):=⟨_,rfl,rfl⟩
theorem tZ:pE.e= .agg [.int .i64 0,.str [],.slice 4 .no [],.slice 4 .no []]:=by rw[Gm.e_eq];rfl
theorem rq(k:Int)(s:List al)(ts:List T)(gs:List Gm):(Gm.mk k s (ts.map T.tm) gs).e= .agg [.int .i64 k,.str s,.slice 4 .no (ts.map T.e),.slice 4 .no (gs.map Gm.e)]:=by rw[Gm.e_eq];simp only[Gm.kind,Gm.name,Gm.ts,Gm.gs,List.map_map];rw[show ts.map (enc∘T.tm)=ts.map T.e from List.map_congr_left fun t _=>tX t]
def mf(h:List al):Nat->Int×List al
 |0=>(9,h)
 |i+1=>if rH[i]? =some h then((i:Int),[])else mf h i
theorem Yf{h:List al}(b4:h≠[]):Go.Pv.hdS h=some (mf h 11):=by
 unfold Go.Pv.hdS nr;by_cases a0:h=hP
 ·subst a0;rfl
 by_cases bB:h=ih
 ·subst bB;rfl
 by_cases a2:h=yi
 ·subst a2;rfl
 by_cases a3:h=yh
 ·subst a3;rfl
 by_cases a4:h=sw
 ·subst a4;rfl
 by_cases a5:h=ss
 ·subst a5;rfl
 by_cases CS:h=sn
 ·subst CS;rfl
 by_cases nT:h=sp
 ·subst nT;rfl
 by_cases FW:h=su
 ·subst FW;rfl
 by_cases a9:h=sr
 ·subst a9;rfl
 rw[bq a0,bq bB,bq a2,bq a3,bq a4,bq a5,bq CS,bq nT,bq FW,bq a9];have key:∀i,i<=11->mf h i=(9,h):=by
  intro i;induction i with
  |zero=>intro _;rfl
  |succ i bo=>
   intro az;unfold mf;rw[bq fun e=>?_]
   ·exact bo Ω
   ·have:=fJ e;simp[rH,a0,bB,a2,a3,a4,a5,CS,nT,FW,a9,b4]at this
 rw[key 11 Ω]
theorem Ol(h:List al):∀i,i<=11->0<=(mf h i).1/\(mf h i).1<=10
 |0,_=>by simp[mf]
 |i+1,az=>by
  unfold mf;split
  ·simp only;omega
  ·exact Ol h i Ω
def hk(k:Int)(s:List al)(x y:ae):List (aC×List ae):=[(.loc 0,[.int .i64 0,.str [],.slice 4 .nil [],.slice 4 .nil []]),(.loc 1,[.int .i64 k,.str s,x,y])]
def wT(l:List (List al))(h:List al)(i:Nat)(j:Nat)(_:Unit):aS:=⟨[(0,.slice 1 .no (bZ l)),(1,.int .i64 i),(4,.ptr (.loc 0) 0),(7,.ptr (.loc 1) 0),(63,.slice 1 .no (bZ rH)),(64,.int .i64 11),(65,.int .i64 j)],hk (mf h j).1 (mf h j).2 (.slice 4 .nil []) (.slice 4 .nil []),[],2,[]⟩
def qf(l:List (List al))(dA:Int)(s:List al):List Gm×Nat×Nat->aS
 |([],j,_)=>⟨[(0,.slice 1 .no (bZ l)),(1,.int .i64 j),(4,.ptr (.loc 0) 0),(7,.ptr (.loc 1) 0)],hk dA s (.slice 4 .nil []) (.slice 4 .nil []),[],2,[]⟩
 |(x::xs,j,_)=>⟨[(0,.slice 1 .no (bZ l)),(1,.int .i64 j),(4,.ptr (.loc 0) 0),(7,.ptr (.loc 1) 0)],hk dA s (.slice 4 .nil []) (.slice 4 (.own (.loc 4)) (x.e::xs.map Gm.e)),[(.loc 4,⟨xs.length+1,65,4,none⟩)],5,[]⟩
def oK(l:List (List al))(dA:Int)(s:List al):List T×Nat×Nat->aS
 |([],j,_)=>⟨[(0,.slice 1 .no (bZ l)),(1,.int .i64 j),(4,.ptr (.loc 0) 0),(7,.ptr (.loc 1) 0)],hk dA s (.slice 4 .nil []) (.slice 4 .nil []),[],2,[]⟩
 |(x::xs,j,_)=>⟨[(0,.slice 1 .no (bZ l)),(1,.int .i64 j),(4,.ptr (.loc 0) 0),(7,.ptr (.loc 1) 0)],hk dA s (.slice 4 (.own (.loc 4)) (x.e::xs.map T.e)) (.slice 4 .nil []),[(.loc 4,⟨xs.length+1,40,4,none⟩)],5,[]⟩
set_option maxRecDepth 8000 in
theorem Xi(l:List (List al))(aG:l.length<=100000)(hw:∀w∈l,w≠[]):∀n i:Nat,i<=l.length->2*(l.length-i)+1<=n->b7 aQ 154 [.slice 1 .no (bZ l),.int .i64 i] ⟨[],[]⟩ (Am l (eX jk Go.Pv.hdS n (l.drop i))):=by
 intro n;induction n using Nat.strongRecOn with
 |_ n bo=>
 intro i gZ aK;obtain⟨n,rfl⟩:∃m,n=m+1:=⟨n-1,Ω⟩;have b1:aY ((i:Int)+1):=by unfold aY;omega
 rcases iX gZ with rfl|az
 ·have e:eX jk Go.Pv.hdS (n+1) (l.drop l.length)=none:=by rw[jN];simp[eX]
  rw[e];clear bo;have il:(l.length:Int)<=(l.length:Int)+1:=Ω
  have aq:=jv;refine b7.mk mixed hs xd xU Ψ aq.obj fun aN b3=>?_;unfold vl;clear aN b3;simp;(with_reducible repeat' first|refine aA ?_|simp[b1,il]);refine cW.rd l _ (.agg [.int .i64 0,.str [],.slice 4 .no [],.slice 4 .no []]) 0 false Ψ (oJ tZ.symm 0) (by simp[kin,kinL]) ?_;simp[du,kX,a1,be,aV]
 obtain⟨w,af⟩:∃v,l[i]? =some v:=⟨_,cF az⟩;have eQ:∀de,((bZ l)[i]'de)= .str w:=fun de=>by rw[mx az];rw[cF az]at af;rw[gq af]
 have bS:(i:Int)<l.length:=Ω
 rw[fi af];by_cases aD:w=hP
 ·subst aD;have e:eX jk Go.Pv.hdS (n+1) (hP::l.drop (i+1))=some (.mk 0 [] [] [],l.drop (i+1)):=by simp[eX]
  rw[e];unfold hP at eQ af;clear bo;have aq:=jv;refine b7.mk mixed hs xd xU Ψ aq.obj fun aN b3=>?_;unfold vl;clear aN b3;simp;(with_reducible repeat' first|refine aA ?_|simp[b1,az,bS,eQ,af]);refine cW.rd l _ (.agg [.int .i64 0,.str [],.slice 4 .no [],.slice 4 .no []]) ((i:Int)+1) true Ψ (yq tZ.symm (by rw[hg];omega)) (by simp[kin,kinL]) ?_;simp[du,kX,a1,be,aV]
 have zw:(w==[116,114,117,101])=false:=uL aD;by_cases aL:w=ih
 ·subst aL;have e:eX jk Go.Pv.hdS (n+1) (ih::l.drop (i+1))=some (.mk 1 [] [] [],l.drop (i+1)):=by simp[eX,aD]
  rw[e];unfold ih at eQ af zw;clear bo;have aq:=jv;refine b7.mk mixed hs xd xU Ψ aq.obj fun aN b3=>?_;unfold vl;clear aN b3;simp;(with_reducible repeat' first|refine aA ?_|simp[b1,az,bS,eQ,af]);refine cW.rd l _ (.agg [.int .i64 1,.str [],.slice 4 .no [],.slice 4 .no []]) ((i:Int)+1) true Ψ (yq (rq 1 [] [] []).symm (by rw[hg];omega)) (by simp[kin,kinL]) ?_;simp[du,kX,a1,be,aV]
 have BY:(w==[102,97,105,108])=false:=uL aL;by_cases n8:w=[40];rotate_left
 ·have r2:=qH n8;have e:eX jk Go.Pv.hdS (n+1) (w::l.drop (i+1))=none:=by simp[eX,aD,aL,n8]
  rw[e];clear bo;by_cases il:(l.length:Int)<=(i:Int)+1
  ·have aq:=jv;refine b7.mk mixed hs xd xU Ψ aq.obj fun aN b3=>?_;unfold vl;clear aN b3;simp;(with_reducible repeat' first|refine aA ?_|simp[b1,az,bS,eQ,af,zw,BY,il]);refine cW.rd l _ (.agg [.int .i64 0,.str [],.slice 4 .no [],.slice 4 .no []]) 0 false Ψ (oJ tZ.symm 0) (by simp[kin,kinL]) ?_;simp[du,kX,a1,be,aV]
  ·have aq:=jv;refine b7.mk mixed hs xd xU Ψ aq.obj fun aN b3=>?_;unfold vl;clear aN b3;simp;((with_reducible repeat' first|refine aA ?_|simp[b1,az,bS,eQ,af,zw,BY,il,r2]|((first|apply dG|apply dJ|apply dI)<;>intro h<;>try simp at h))<;>(try exact ev));refine cW.rd l _ (.agg [.int .i64 0,.str [],.slice 4 .no [],.slice 4 .no []]) 0 false Ψ (oJ tZ.symm 0) (by simp[kin,kinL]) ?_;simp[du,kX,a1,be,aV]
 subst n8;rcases iX (show i+1<=l.length from az)with I|I
 ·have e:eX jk Go.Pv.hdS (n+1) ([40]::l.drop (i+1))=none:=by rw[I,jN];simp[eX,aD,aL]
  rw[e];have il:(l.length:Int)<=(i:Int)+1:=Ω
  clear bo;have aq:=jv;refine b7.mk mixed hs xd xU Ψ aq.obj fun aN b3=>?_;unfold vl;clear aN b3;simp;(with_reducible repeat' first|refine aA ?_|simp[b1,az,bS,eQ,af,zw,BY,il]);refine cW.rd l _ (.agg [.int .i64 0,.str [],.slice 4 .no [],.slice 4 .no []]) 0 false Ψ (oJ tZ.symm 0) (by simp[kin,kinL]) ?_;simp[du,kX,a1,be,aV]
 obtain⟨h,bI⟩:∃v,l[i+1]? =some v:=⟨_,cF I⟩;have DX:∀de,((bZ l)[i+1]'de)= .str h:=fun de=>by rw[mx I];rw[cF I]at bI;rw[gq bI]
 have b4:=hw h (fJ bI);have il:¬(l.length:Int)<=(i:Int)+1:=Ω
 have mL:(0:Int)<=(i:Int)+1:=Ω
 have y5:(i:Int)+1<l.length:=Ω
 have lb:((i:Int)+1).toNat=i+1:=Ω
 have N5:aY ((i:Int)+2):=by unfold aY;omega
 have HT:=Ol h;obtain⟨O,fW⟩:∃O,O=eX jk Go.Pv.hdS (n+1) ([40]::l.drop (i+1)):=⟨_,rfl⟩;rw[<-fW];have xl:eC jk Go.Pv.hdS n (mf h 11).1 (mf h 11).2 [] [] (l.drop (i+2))=O:=by rw[fW,fi bI];simp only[eX];rw[bq (by decide),bq (by decide),if_pos trivial,Yf b4]
 have Er:=aek;clear fW;have aq:=jv;refine b7.mk mixed hs xd xU Ψ aq.obj fun aN b3=>?_;unfold vl;clear aN b3;simp;(with_reducible repeat' first|refine aA ?_|refine a8 Er ?_|refine ba Er ?_|simp[b1,az,bS,eQ,af,zw,BY,il,mL,y5,lb,DX,bI,I]);refine gu (wT l h i) 11 (fun _ _=>True) () (by simp[wT,hk,mf,rH,mL];exact⟨by simp[fresh,kinL,kin,bt,au,Pv.look,eJ],cR (by simp[fresh,kinL,kin,bt,au,Pv.look,eJ]),cS (by simp[fresh,kinL,kin,cB,au,Pv.look,eJ]),Ψ⟩) trivial (fun _ _ _=>?_) (fun j _ aw _ _=>?_);rotate_left
 ·obtain⟨u,hu⟩:∃u,rH[j]? =some u:=⟨_,cF aw⟩;have ld:j<rH.length:=aw;have lh:∀h,((bZ rH)[j]'h)= .str u:=fun h=>by rw[mx ld];rw[cF ld]at hu;rw[gq hu]
  have gI:aY ((j:Int)+1):=by unfold aY;omega
  have fs:j<(bZ rH).length:=aw;have fD:mf h (j+1)=if u=h then((j:Int),[])else mf h j:=by show(if rH[j]? =some h then((j:Int),[])else mf h j)=_;rw[hu];simp only[dZ]
  clear bo xl HT Er;by_cases he:u=h
  ·subst he;rw[if_pos rfl]at fD;simp[wT,hk,aw];((with_reducible repeat' first|refine aA ?_|simp[aw,lh,hu,ld,fs,b1,mL,y5,lb,DX,bI,I,gI]|((first|apply dG|apply dJ|apply dI)<;>intro h<;>try simp at h))<;>(try exact ev));refine b9.rng () aw trivial (by simp[wT,hk,fD];exact⟨by simp[fresh,kinL,kin,bt,au,Pv.look,eJ],cR (by simp[fresh,kinL,kin,bt,au,Pv.look,eJ]),cS (by simp[fresh,kinL,kin,cB,au,Pv.look,eJ]),Ψ⟩)
  ·rw[bq he]at fD;have ah:=uL he;simp[wT,hk,aw];((with_reducible repeat' first|refine aA ?_|simp[aw,lh,hu,ld,fs,b1,mL,y5,lb,DX,bI,I,gI,ah]|((first|apply dG|apply dJ|apply dI)<;>intro h<;>try simp at h))<;>(try exact ev));refine b9.rng () aw trivial (by simp[wT,hk,fD];exact⟨by simp[fresh,kinL,kin,bt,au,Pv.look,eJ],cR (by simp[fresh,kinL,kin,bt,au,Pv.look,eJ]),cS (by simp[fresh,kinL,kin,cB,au,Pv.look,eJ]),Ψ⟩)
 obtain⟨zG,ff⟩:=HT 11 Ω;have kL:((i+2:Nat):Int)=(i:Int)+2:=Ω
 clear Er HT eQ af DX bI il mL y5 lb b1 zw BY aD aL bS;simp[wT,hk];generalize (mf h 11).1=dA at xl zG ff⊢;generalize (mf h 11).2=nm at xl⊢;cases oV:kz dA
 ·have D4:(dA==7)=false:=by simp[kz]at oV;exact jm.2 oV.1.1
  have D5:(dA==8)=false:=by simp[kz]at oV;exact jm.2 oV.1.2
  have nt:(dA==10)=false:=by simp[kz]at oV;exact jm.2 oV.2
  (with_reducible repeat' first|refine aA ?_|simp[N5]);refine h1 (oK l dA nm) (fun x=>l.length-x.2.1) (fun x=>x.2.1<=l.length/\2*(l.length-x.2.1)+2<=x.2.2/\x.2.2<=n/\eC jk Go.Pv.hdS x.2.2 dA nm x.1 [] (l.drop x.2.1)=O/\x.1.length<=x.2.1) ([],i+2,n) (by simp[oK,hk,kL];exact dw) ⟨by simp;omega,by simp;omega,cq _,xl,Ψ⟩ ?_;rintro⟨acc,j,k⟩ ⟨aw,aa,j7,dL,jd⟩ _;simp only at aw aa j7 dL jd;clear xl bo;obtain⟨k,rfl⟩:∃m,k=m+1:=⟨k-1,Ω⟩;have hT:acc.length+1<=bN:=by unfold bN;omega
  rcases iX aw with rfl|fs
  ·rw[jN]at dL;simp only[eC]at dL;subst dL;have gI:aY ((l.length:Int)+1):=by unfold aY;omega
   cases acc with
   |nil=>simp[oK,hk];(with_reducible repeat' first|refine aA ?_|simp[gI]);refine cW.rd l _ (.agg [.int .i64 dA,.str nm,.slice 4 .no [],.slice 4 .no []]) ((l.length:Int)+1) false Ψ (oJ (rq dA nm [] []).symm _) (by simp[kin,kinL]) ?_;simp[du,kX,a1,be,aV]
   |cons a eE=>simp[oK,hk];(with_reducible repeat' first|refine aA ?_|simp[gI]);refine cW.rd l _ (.agg [.int .i64 dA,.str nm,.slice 4 .no ((a::eE).map T.e),.slice 4 .no []]) ((l.length:Int)+1) false Ψ (oJ (rq dA nm (a::eE) []).symm _) (by simp[kin,kinL]) ?_;simp[du,kX,a1,be,aV]
  obtain⟨v,aM⟩:∃v,l[j]? =some v:=⟨_,cF fs⟩;have gj:∀de,((bZ l)[j]'de)= .str v:=fun de=>by rw[mx fs];rw[cF fs]at aM;rw[gq aM]
  have gI:aY ((j:Int)+1):=by unfold aY;omega
  have og:(j:Int)<l.length:=Ω
  rw[fi aM]at dL;by_cases eN:v=[41]
  ·subst eN;simp only[eC,if_true]at dL;have mg:((j:Int)+1)=((l.length-(l.drop (j+1)).length:Nat):Int):=by rw[hg];omega
   by_cases iq:1<dA
   ·rw[if_pos iq]at dL;subst dL;cases acc with
    |nil=>simp[oK,hk];(with_reducible repeat' first|refine aA ?_|simp[gI,fs,og,gj,aM,iq]);refine cW.rd l _ (.agg [.int .i64 dA,.str nm,.slice 4 .no [],.slice 4 .no []]) ((j:Int)+1) true Ψ (yq (rq dA nm [] []).symm mg) (by simp[kin,kinL]) ?_;simp[du,kX,a1,be,aV]
    |cons a eE=>simp[oK,hk];(with_reducible repeat' first|refine aA ?_|simp[gI,fs,og,gj,aM,iq]);refine cW.rd l _ (.agg [.int .i64 dA,.str nm,.slice 4 .no ((a::eE).map T.e),.slice 4 .no []]) ((j:Int)+1) true Ψ (yq (rq dA nm (a::eE) []).symm mg) (by simp[kin,kinL]) ?_;simp[du,kX,a1,be,aV]
   ·rw[bq iq]at dL;subst dL;cases acc with
    |nil=>simp[oK,hk];(with_reducible repeat' first|refine aA ?_|simp[gI,fs,og,gj,aM,iq]);refine cW.rd l _ (.agg [.int .i64 dA,.str nm,.slice 4 .no [],.slice 4 .no []]) ((j:Int)+1) false Ψ (oJ (rq dA nm [] []).symm _) (by simp[kin,kinL]) ?_;simp[du,kX,a1,be,aV]
    |cons a eE=>simp[oK,hk];(with_reducible repeat' first|refine aA ?_|simp[gI,fs,og,gj,aM,iq]);refine cW.rd l _ (.agg [.int .i64 dA,.str nm,.slice 4 .no ((a::eE).map T.e),.slice 4 .no []]) ((j:Int)+1) false Ψ (oJ (rq dA nm (a::eE) []).symm _) (by simp[kin,kinL]) ?_;simp[du,kX,a1,be,aV]
  have mV:=qH eN;have dh:=aef l aG hw (2*(l.length-j)+1) j Ω (cq _);have fo:rd hI (2*(l.length-j)+1) (l.drop j)=jk (v::l.drop (j+1)):=by unfold jk;rw[<-fi aM,hg]
  rw[fo]at dh;simp only[eC,bq eN,oV,kk,if_false]at dL;cases db:jk (v::l.drop (j+1))with
  |none=>
   rw[db]at dh dL;simp only[j0]at dL dh;subst dL;generalize pX l j=q at dh;cases acc with
   |nil=>simp[oK,hk];((with_reducible repeat' first|refine aA ?_|refine a8 dh ?_|refine ba dh ?_|simp[gI,fs,og,gj,aM,mV,D4,D5,nt]|((first|apply dG|apply dJ|apply dI)<;>intro h<;>try simp at h))<;>(try exact ev));refine cW.rd l _ (.agg [.int .i64 0,.str [],.slice 4 .no [],.slice 4 .no []]) 0 false Ψ (oJ tZ.symm 0) (by simp[kin,kinL]) ?_;simp[du,kX,a1,be,aV]
   |cons a eE=>simp[oK,hk];((with_reducible repeat' first|refine aA ?_|refine a8 dh ?_|refine ba dh ?_|simp[gI,fs,og,gj,aM,mV,D4,D5,nt]|((first|apply dG|apply dJ|apply dI)<;>intro h<;>try simp at h))<;>(try exact ev));refine cW.rd l _ (.agg [.int .i64 0,.str [],.slice 4 .no [],.slice 4 .no []]) 0 false Ψ (oJ tZ.symm 0) (by simp[kin,kinL]) ?_;simp[du,kX,a1,be,aV]
  |some tr=>
   obtain⟨t,rest⟩:=tr;rw[db]at dh dL;obtain⟨fE,nz⟩:=Fm (j:=j) (by rw[fi aM];exact(CF _ _ _ db).1);have BA:=(CF _ _ _ db).2;have OT:rest.length<l.length-j:=by simp at BA;omega
   obtain⟨p,aU⟩:∃p,p=l.length-rest.length:=⟨_,rfl⟩;simp only[j0,<-aU]at dh;simp only at dL;rw[<-aU]at fE;rw[fE]at dL;cases acc with
   |nil=>simp[oK,hk];((with_reducible repeat' first|refine aA ?_|refine a8 dh ?_|refine ba dh ?_|simp[gI,fs,og,gj,aM,mV,D4,D5,nt]|((first|apply dG|apply dJ|apply dI)<;>intro h<;>try simp at h))<;>(try exact ev));refine b9.whl ([t],p,k) (by show l.length-p<l.length-j;omega) ⟨by show p<=l.length;omega,by show 2*(l.length-p)+2<=k;omega,by show k<=n;omega,dL,by simp;omega⟩ (by simp[oK,hk];exact⟨by simp[fresh,kinL,kin,bt,au,Pv.look,cX],cR (by simp[fresh,kinL,kin,bt,au,Pv.look,cX]),cS (by simp[fresh,kinL,kin,cB,au,Pv.look,cX]),Ψ⟩)
   |cons a eE=>simp only[lx]at hT;simp[oK,hk];((with_reducible repeat' first|refine aA ?_|refine a8 dh ?_|refine ba dh ?_|simp[gI,fs,og,gj,aM,mV,D4,D5,nt,hT]|((first|apply dG|apply dJ|apply dI)<;>intro h<;>try simp at h))<;>(try exact ev));refine b9.whl (a::(eE++[t]),p,k) (by show l.length-p<l.length-j;omega) ⟨by show p<=l.length;omega,by show 2*(l.length-p)+2<=k;omega,by show k<=n;omega,dL,by simp at jd⊢;omega⟩ (by simp[oK,hk];exact⟨by simp[fresh,kinL,kin,bt,au,Pv.look,cX],cR (by simp[fresh,kinL,kin,bt,au,Pv.look,cX]),cS (by simp[fresh,kinL,kin,cB,au,Pv.look,cX]),Ψ⟩)
 ·have iq:1<dA:=by simp[kz]at oV;omega
  have oS:dA=7\/dA=8\/dA=10:=by simp[kz]at oV;omega
  (with_reducible repeat' first|refine aA ?_|simp[N5]);refine h1 (qf l dA nm) (fun x=>l.length-x.2.1) (fun x=>x.2.1<=l.length/\2*(l.length-x.2.1)+2<=x.2.2/\x.2.2<=n/\eC jk Go.Pv.hdS x.2.2 dA nm [] x.1 (l.drop x.2.1)=O/\x.1.length<=x.2.1) ([],i+2,n) (by simp[qf,hk,kL];exact dw) ⟨by simp;omega,by simp;omega,cq _,xl,Ψ⟩ ?_;rintro⟨acc,j,k⟩ ⟨aw,aa,j7,dL,jd⟩ _;simp only at aw aa j7 dL jd;clear xl;obtain⟨k,rfl⟩:∃m,k=m+1:=⟨k-1,Ω⟩;have hT:acc.length+1<=bN:=by unfold bN;omega
  rcases iX aw with rfl|fs
  ·rw[jN]at dL;simp only[eC]at dL;subst dL;have gI:aY ((l.length:Int)+1):=by unfold aY;omega
   clear bo;cases acc with
   |nil=>simp[qf,hk];(with_reducible repeat' first|refine aA ?_|simp[gI]);refine cW.rd l _ (.agg [.int .i64 dA,.str nm,.slice 4 .no [],.slice 4 .no []]) ((l.length:Int)+1) false Ψ (oJ (rq dA nm [] []).symm _) (by simp[kin,kinL]) ?_;simp[du,kX,a1,be,aV]
   |cons a eE=>simp[qf,hk];(with_reducible repeat' first|refine aA ?_|simp[gI]);refine cW.rd l _ (.agg [.int .i64 dA,.str nm,.slice 4 .no [],.slice 4 .no ((a::eE).map Gm.e)]) ((l.length:Int)+1) false Ψ (oJ (rq dA nm [] (a::eE)).symm _) (by simp[kin,kinL]) ?_;simp[du,kX,a1,be,aV]
  obtain⟨v,aM⟩:∃v,l[j]? =some v:=⟨_,cF fs⟩;have gj:∀de,((bZ l)[j]'de)= .str v:=fun de=>by rw[mx fs];rw[cF fs]at aM;rw[gq aM]
  have gI:aY ((j:Int)+1):=by unfold aY;omega
  have og:(j:Int)<l.length:=Ω
  rw[fi aM]at dL;by_cases eN:v=[41]
  ·subst eN;simp only[eC,if_true]at dL;have mg:((j:Int)+1)=((l.length-(l.drop (j+1)).length:Nat):Int):=by rw[hg];omega
   rw[if_pos iq]at dL;subst dL;clear bo;cases acc with
   |nil=>simp[qf,hk];(with_reducible repeat' first|refine aA ?_|simp[gI,fs,og,gj,aM,iq]);refine cW.rd l _ (.agg [.int .i64 dA,.str nm,.slice 4 .no [],.slice 4 .no []]) ((j:Int)+1) true Ψ (yq (rq dA nm [] []).symm mg) (by simp[kin,kinL]) ?_;simp[du,kX,a1,be,aV]
   |cons a eE=>simp[qf,hk];(with_reducible repeat' first|refine aA ?_|simp[gI,fs,og,gj,aM,iq]);refine cW.rd l _ (.agg [.int .i64 dA,.str nm,.slice 4 .no [],.slice 4 .no ((a::eE).map Gm.e)]) ((j:Int)+1) true Ψ (yq (rq dA nm [] (a::eE)).symm mg) (by simp[kin,kinL]) ?_;simp[du,kX,a1,be,aV]
  have mV:=qH eN;have dh:=bo k Ω j Ω Ω;rw[fi aM]at dh;simp only[eC,bq eN,oV,if_true]at dL;cases db:eX jk Go.Pv.hdS k (v::l.drop (j+1))with
  |none=>
   rw[db]at dh dL;simp only at dL;subst dL;clear bo;cases acc with
   |nil=>
    rcases oS with rfl|rfl|rfl;all_goals
     simp[qf,hk]
     ((with_reducible repeat' first|refine aA ?_|simp[gI,fs,og,gj,aM,mV]|((first|apply dG|apply dJ|apply dI)<;>intro h<;>try simp at h))<;>(try exact ev))
     refine CallDo.ob (dh) jv (fun k cs h=>by simp[Pv.look]at h) (fun k cs h=>by simp[Pv.look]at h) (by simp[kinL,kin]) ?_
     rintro r ai bn
     obtain⟨rfl,x,q,rfl⟩:=bn
     refine⟨Same.refl _,?_⟩
     simp[bg]
     (with_reducible repeat' first|refine aA ?_|simp)
     refine cW.rd l _ (.agg [.int .i64 0,.str [],.slice 4 .no [],.slice 4 .no []]) 0 false Ψ (oJ tZ.symm 0) (by simp[kin,kinL]) ?_
     simp[du,kX,a1,be,aV]
   |cons a eE=>
    rcases oS with rfl|rfl|rfl;all_goals
     simp[qf,hk]
     ((with_reducible repeat' first|refine aA ?_|simp[gI,fs,og,gj,aM,mV]|((first|apply dG|apply dJ|apply dI)<;>intro h<;>try simp at h))<;>(try exact ev))
     refine CallDo.ob (dh) jv (fun k cs h=>by simp[Pv.look]at h) (fun k cs h=>by simp[Pv.look]at h) (by simp[kinL,kin]) ?_
     rintro r ai bn
     obtain⟨rfl,x,q,rfl⟩:=bn
     refine⟨Same.refl _,?_⟩
     simp[bg]
     (with_reducible repeat' first|refine aA ?_|simp)
     refine cW.rd l _ (.agg [.int .i64 0,.str [],.slice 4 .no [],.slice 4 .no []]) 0 false Ψ (oJ tZ.symm 0) (by simp[kin,kinL]) ?_
     simp[du,kX,a1,be,aV]
  |some tr=>
   obtain⟨g,rest⟩:=tr;rw[db]at dh dL;obtain⟨fE,nz⟩:=Fm (j:=j) (by rw[fi aM];exact(zM CF _ _ _ _ db).1);have BA:=(zM CF _ _ _ _ db).2;have OT:rest.length<l.length-j:=by simp at BA;omega
   obtain⟨p,aU⟩:∃p,p=l.length-rest.length:=⟨_,rfl⟩;simp only at dL;rw[<-aU]at fE;rw[fE]at dL;clear bo;cases acc with
   |nil=>
    rcases oS with rfl|rfl|rfl;all_goals
     simp[qf,hk]
     ((with_reducible repeat' first|refine aA ?_|simp[gI,fs,og,gj,aM,mV]|((first|apply dG|apply dJ|apply dI)<;>intro h<;>try simp at h))<;>(try exact ev))
     refine CallDo.ob (dh) jv (fun k cs h=>by simp[Pv.look]at h) (fun k cs h=>by simp[Pv.look]at h) (by simp[kinL,kin]) ?_
     rintro r ai bn
     obtain⟨rfl,rfl⟩:=bn
     rw[<-aU]
     refine⟨Same.refl _,?_⟩
     simp[bg]
     (with_reducible repeat' first|refine aA ?_|simp)
     refine b9.whl ([g],p,k) (by show l.length-p<l.length-j;omega) ⟨by show p<=l.length;omega,by show 2*(l.length-p)+2<=k;omega,by show k<=n;omega,dL,by simp;omega⟩ (by simp[qf,hk];exact⟨by simp[fresh,kinL,kin,bt,au,Pv.look,cX],cR (by simp[fresh,kinL,kin,bt,au,Pv.look,cX]),cS (by simp[fresh,kinL,kin,cB,au,Pv.look,cX]),Ψ⟩)
   |cons a eE=>
    simp only[lx]at hT;rcases oS with rfl|rfl|rfl;all_goals
     simp[qf,hk]
     ((with_reducible repeat' first|refine aA ?_|simp[gI,fs,og,gj,aM,mV]|((first|apply dG|apply dJ|apply dI)<;>intro h<;>try simp at h))<;>(try exact ev))
     refine CallDo.ob (dh) jv (fun k cs h=>by simp[Pv.look]at h) (fun k cs h=>by simp[Pv.look]at h) (by simp[kinL,kin]) ?_
     rintro r ai bn
     obtain⟨rfl,rfl⟩:=bn
     rw[<-aU]
     refine⟨Same.refl _,?_⟩
     simp[bg]
     (with_reducible repeat' first|refine aA ?_|simp[hT])
     refine b9.whl (a::(eE++[g]),p,k) (by show l.length-p<l.length-j;omega) ⟨by show p<=l.length;omega,by show 2*(l.length-p)+2<=k;omega,by show k<=n;omega,dL,by simp at jd⊢;omega⟩ (by simp[qf,hk];exact⟨by simp[fresh,kinL,kin,bt,au,Pv.look,cX],cR (by simp[fresh,kinL,kin,bt,au,Pv.look,cX]),cS (by simp[fresh,kinL,kin,cB,au,Pv.look,cX]),Ψ⟩)
def yx:C:=(.seq (.block 0 (.loop (.seq (ag [ab 56 0,⟨none,.call (some 57) (.c (.func 177 [])) [.t 56,(.c (.str [41]))]⟩,dB 58 57] (bh 58 .skip (.exit 0))) (.block 1 (.seq (ag [bm 59 0 1 10,bf 60 1 59,bc 61 .eql 60 7,ab 62 61,aI 62 false (bm 63 0 1 10),aI 62 false (bf 64 1 63),aI 62 false (bc 65 .eql 64 8),dk 66 62 65,ab 67 66,aI 67 false (bm 68 0 1 10),aI 67 false (bf 69 1 68),aI 67 false (bc 70 .eql 69 10),dk 71 67 70] (bh 71 (ag [ab 73 0,ab 74 1,eZ 75 114 73 74,ab 72 75,dN 76 0 72,dN 77 1 72,dY (.alloc 11 none (.agg [.int .i64 0,.str [],.slice 4 .nil [],.slice 4 .nil []])),bE 4 11 76,ab 12 77] (.seq (ag [ab 78 12,dB 79 78] (bh 79 (ag [bk 80 (.build [.int .i64 0,.str [],.slice 4 .nil [],.slice 4 .nil []] []),bE 4 4 80,bD 5 false] .ret) .skip)) (ag [bm 81 3 1 10,bf 82 1 81,ck 83 4 11,hE 84 4 65 [.t 83],lW 85 4 65 82 84,bm 86 3 1 10,bE 1 86 85] (.exit 1)))) .skip)) (ag [ab 88 1,⟨none,.callb (some 89) (.t 88)⟩,ab 87 89,dN 90 0 87,dN 91 1 87,ht 13 cU,bE 4 13 90,ab 14 91] (.seq (ag [ab 92 14,dB 93 92] (bh 93 (ag [bk 94 (.build [.int .i64 0,.str [],.slice 4 .nil [],.slice 4 .nil []] []),bE 4 4 94,bD 5 false] .ret) .skip)) (.region [bm 95 2 1 10,bf 96 1 95,ck 97 4 13,hE 98 4 40 [.t 97],lW 99 4 40 96 98,bm 100 2 1 10,bE 1 100 99])))))))) (ag [ck 101 4 10,bE 4 4 101,bD 5 true] .ret))
def vj:C:=(ag [dY (.alloc 4 none (.agg [.int .i64 0,.str [],.slice 4 .nil [],.slice 4 .nil []])),bD 5 false] (.seq (ag [ab 15 0,⟨none,.call (some 16) (.c (.func 177 [])) [.t 15,(.c (.str [116,114,117,101]))]⟩] (bh 16 (ag [bk 17 (.build [.int .i64 0,.str [],.slice 4 .nil [],.slice 4 .nil []] [(0,1,(da 0))]),bE 4 4 17,bD 5 true] .ret) .skip)) (.seq (ag [ab 18 0,⟨none,.call (some 19) (.c (.func 177 [])) [.t 18,(.c (.str [102,97,105,108]))]⟩] (bh 19 (ag [bk 20 (.build [.int .i64 0,.str [],.slice 4 .nil [],.slice 4 .nil []] [(0,1,(da 1))]),bE 4 4 20,bD 5 true] .ret) .skip)) (.seq (ag [ab 21 0,⟨none,.call (some 22) (.c (.func 177 [])) [.t 21,(.c (.str [40]))]⟩,dB 23 22,ab 24 23,bP 24 false 25 0,aI 24 false (cK 26 83 25),dk 27 24 26] (bh 27 (ag [bk 28 (.build [.int .i64 0,.str [],.slice 4 .nil [],.slice 4 .nil []] []),bE 4 4 28,bD 5 false] .ret) .skip)) (ag [ab 29 0,cK 30 178 29,ab 6 30] (ag [ab 31 0,hf 32 31,bm 33 1 1 32,bf 34 1 33,bc 35 .add 34 1,hf 36 31,bm 37 1 1 36,bE 1 37 35] (ag [dY (.mkmap 38 none),dY (.mput .s (.t 38) (.c (.str [61])) (da 2)),dY (.mput .s (.t 38) (.c (.str [47,61])) (da 3)),dY (.mput .s (.t 38) (.c (.str [115,121,109,98,111,108])) (da 4)),dY (.mput .s (.t 38) (.c (.str [110,117,109,98,101,114])) (da 5)),dY (.mput .s (.t 38) (.c (.str [97,98,115,101,110,116])) (da 6)),dY (.mput .s (.t 38) (.c (.str [97,110,100])) (da 7)),dY (.mput .s (.t 38) (.c (.str [111,114])) (da 8)),dY (.mput .s (.t 38) (.c (.str [110,111,116])) (da 10)),ab 39 38,ab 7 39] (ag [ab 41 7,ab 42 6,bk 43 (.mget .s (.int .i64 0) true (.t 41) (.t 42)),ab 40 43,dN 44 0 40,dN 45 1 40,ab 8 44,ab 9 45] (ag [ab 46 8,bk 47 (.build [.int .i64 0,.str [],.slice 4 .nil [],.slice 4 .nil []] [(0,1,(.t 46))]),dY (.alloc 10 none (.agg [.int .i64 0,.str [],.slice 4 .nil [],.slice 4 .nil []])),bE 4 10 47] (.seq (ag [ab 48 9,dB 49 48] (bh 49 (.seq (ag [ab 50 6,cK 51 103 50,dB 52 51] (bh 52 (ag [bk 53 (.build [.int .i64 0,.str [],.slice 4 .nil [],.slice 4 .nil []] []),bE 4 4 53,bD 5 false] .ret) .skip)) (.region [ab 54 6,bk 55 (.build [.int .i64 0,.str [],.slice 4 .nil [],.slice 4 .nil []] [(0,1,(da 9)),(1,1,(.t 54))]),bE 4 10 55])) .skip)) yx))))))))))
@[simp] def acf:List cr:=[.cell 4 true 4,.tmp 5]
def SA:List (Nat×cJ):=[
 (3,⟨1,8,.int .i64,.int .i64 0⟩),
 (9,⟨1,16,.str,.str []⟩),
 (38,⟨1,24,.slice 40,.slice 4 .nil []⟩),
 (40,⟨4,56,.struct [(0,3),(1,3),(2,9),(3,38)],.agg [.int .i64 0,.int .i64 0,.str [],.slice 4 .nil []]⟩),
 (63,⟨1,24,.slice 65,.slice 4 .nil []⟩),
 (65,⟨4,72,.struct [(0,3),(1,9),(2,38),(3,63)],.agg [.int .i64 0,.str [],.slice 4 .nil [],.slice 4 .nil []]⟩),
 (70,⟨1,24,.slice 9,.slice 1 .nil []⟩),
 (131,⟨2,32,.struct [(0,70),(1,3)],.agg [.slice 1 .nil [],.int .i64 0]⟩),
 (213,⟨1,8,.map 9 3,.junk⟩)]
theorem yc:ez aQ SA=true:=by kernel_rfl
theorem xS:c8 SA vj acf 2 Tryz.f114=true:=by kernel_rfl
theorem xb:aQ.funcs[(114:Nat)]? =some Tryz.f114:=Tryz.func114
end
end Go.Proofs.YtlnndmgfngfeiaaGreatDoor
namespace Go.Pv
section
open Go Go.RowKit
def kY:List (List al×ae)->List ae
 |[]=>[]
 |(k,v)::r=>.str k::v::kY r
def jj(l:List (List al×ae)):List ae:= .hdm l.length (List.range l.length)::kY l
def qP(k:List al):List (List al×ae)->aT ae
 |[]=>none
 |(i,v)::r=>if k=i then some v else qP k r
def sf(k:List al)(v:ae):List (List al×ae)->aT (List (List al×ae))
 |[]=>none
 |(i,w)::r=>if k=i then some ((k,v)::r)else match sf k v r with|some cE=>some ((i,w)::cE)|none=>none
def o8(k:List al)(v:ae)(l:List (List al×ae)):List (List al×ae):=match sf k v l with|some c6=>c6|none=>l++[(k,v)]
theorem R4:∀a b,kY (a++b)=kY a++kY b
 |[],_=>rfl
 |(k,v)::r,b=>by simp[kY,R4 r b]
theorem PM(a b:List al):uE .s (.str a) (.str b)=some (a==b):=rfl
theorem Qf(k:List al):∀l,tf .s (.str k) (kY l)=some (qP k l)
 |[]=>rfl
 |(i,v)::r=>by
  simp only[kY,tf,PM,qP];by_cases h:k=i
  ·simp[h]
  ·have:(k==i)=false:=by simp[h]
   simp[h,Qf k r,this]
theorem Sb{k:List al}{v:ae}:∀{l c6},sf k v l=some c6->c6.length=l.length
 |[],_,h=>by simp[sf]at h
 |(i,w)::r,c6,h=>by
  simp only[sf]at h;split at h
  ·cases h;rfl
  ·split at h
   ·rename_i cE hr;cases h;simp[Sb hr]
   ·cases h
theorem Qo(k:List al)(v:ae):∀l,uK .s (.str k) v (kY l)=some ((sf k v l).map kY)
 |[]=>rfl
 |(i,w)::r=>by
  simp only[kY,uK,PM,sf];by_cases h:k=i
  ·subst h;simp[kY]
  ·have:(k==i)=false:=by simp[h]
   simp only[this,h,if_false,Qo k v r];cases sf k v r<;>simp[kY]
@[simp]theorem aaI(k:List al)(v:ae)(l:List (List al×ae)):qF .s (.str k) v (jj l)=some (jj (o8 k v l)):=by
 simp only[jj,qF,PQ,Bool.true_eq_false,reduceCtorEq,if_false,Qo,o8];cases h:sf k v l with
 |some c6=>simp[Sb h]
 |none=>simp[R4,kY,List.range_succ]
@[simp]theorem ahO(k:List al)(v:ae):qF .s (.str k) v (lP [])=some (jj (o8 k v [])):=aaI k v []
@[simp]theorem uH(f:aC->aT (List ae))(m:aC)(l:List (List al×ae))(z:ae)(ok:Bool)(k:List al)(hm:f m=some (jj l)):o2 f .s z ok (.gmap m) (.str k)=(match qP k l with
  |some v=>some (True,if ok then .tuple [v,.bool true]else v)
  |none=>some (True,if ok then .tuple [z,.bool false]else z)):=by
 simp only[Qh,hm,jj,PQ,Bool.true_eq_false,reduceCtorEq,if_false,Qf];cases qP k l<;>rfl
@[simp]theorem aaG(f:aC->aT (List ae))(m:aC)(l:List (List al×ae))(hm:f m=some (jj l)):uJ f (.gmap m)=some (True,.int .i64 l.length):=by simp[aaF,hm,jj]
@[simp]theorem aia(l:List (List al×ae)):gn (jj l)=false:=rfl
end
end Go.Pv
namespace Go.Proofs.YtlnndmgfngfeiaaGreatDoor
section
open Go Go.Pv
variable {ky:Nat}
def dF(ky:Nat):ae:= .func 1000084 [av ky]
abbrev Sm:List (List al×ae):=o8 [110,111,116] (.int .i64 10) (o8 [111,114] (.int .i64 8) (o8 [97,110,100] (.int .i64 7) (o8 [97,98,115,101,110,116] (.int .i64 6) (o8 [110,117,109,98,101,114] (.int .i64 5) (o8 [115,121,109,98,111,108] (.int .i64 4) (o8 [47,61] (.int .i64 3) (o8 [61] (.int .i64 2) [])))))))
theorem IX(f:aC->aT (List ae))(m:aC)(h:List al)(hm:f m=some (jj Sm)):o2 f .s (.int .i64 0) true (.gmap m) (.str h)=some (True,.tuple [.int .i64 ((nr h).getD 0),.bool (nr h).isSome]):=by
 rw[uH _ _ _ _ true h hm];have e:Sm=[(yi,.int .i64 2),(yh,.int .i64 3),(sw,.int .i64 4),(ss,.int .i64 5),(sn,.int .i64 6),(sp,.int .i64 7),(su,.int .i64 8),(sr,.int .i64 10)]:=rfl;rw[e];unfold nr;simp only[qP];repeat' split
 all_goals first|rfl|simp_all
theorem aa5{l:List (List al)}{i p:Nat}{t:T}{rest:List (List al)}(h:b7 aQ 84 [av ky] (ad ky l i) (tB ky l (some (t,rest))))(aU:l.length-rest.length=p):b7 aQ 84 [av ky] (ad ky l i) fun r ai=>r= .tuple [t.e,.bool true]/\ai=ad ky l p:=h.mono fun r ai bn=>by rw[<-aU];exact bn
end
section
open Go Go.Pv
variable {ky:Nat}
theorem Yd{w:List al}{k:Int}{s:List al}(h:fb w=some (k,s)):1<k/\(kz k=true->s=[])/\(kz k=false->(k==7)=false/\(k==8)=false/\(k==10)=false):=by
 unfold fb at h;cases aa:nr w with
 |some bb=>
  rw[aa]at h;simp only[dZ,gA]at h;obtain⟨rfl,rfl⟩:=h;unfold nr at aa;repeat' split at aa
  all_goals first|cases aa|skip
  all_goals simp[kz]
 |none=>
  rw[aa]at h;simp only at h;split at h
  ·cases h;simp[kz]
  ·cases h
end
section
open Go Go.Pv
variable {ky:Nat}
def K2(ky:Nat)(l:List (List al))(i:Nat)(o:aT (T×List (List al))):Prop:= ∀κ,FnK aQ 84 κ [av ky] (ad ky l i) (wF ky l o κ)
theorem PJ(l:List (List al))(aG:l.length<=100000)(hw:∀w∈l,w≠[]/\w.length<=bN)(i:Nat)(az:i<=l.length):K2 ky l i (ei (l.drop i)):=by
 intro κ;have aq:=a7 (ky:=ky) l i;have dh:=aae (ky:=ky) l aG hw (2*(l.length-i)+1) i az (cq _);cases db:rd eg (2*(l.length-i)+1) (l.drop i)with
 |none=>rw[db]at dh;rw[show ei (l.drop i)=none by unfold ei;rw[hg,db]];simp only[ad]at aq;refine FnK.mk mixed ls yN zy Ψ aq.obj rfl fun aN b3=>?_;unfold w1;clear aN b3;simp[av,ad];refine CallDo.obK (dh _) (a7 _ _) (by simp only[ad];exact aB) (by simp only[ad];exact aB) (by simp[au,Pv.look,ad,av,dF,kinL,kin]) Ψ ?_;rintro r ai ⟨x,hL,bn,rfl,rfl⟩;refine⟨bJ _ _ _ _,?_⟩;simp[bg,ad,av];(with_reducible repeat' first|refine aA ?_|simp);refine dy.tm (hL) (.nil) false Ψ (qT bn _) (by simp only[ad];exact aB) ?_;simp[a1,be,aV,cH,dV,cp,dx,bY,dt,tnL,tn,dU,ey,fold,eb,ea,eP,Pv.look,dv,bz,bC,T.k]
 |some tr=>
  obtain⟨t,rest⟩:=tr;rw[db]at dh;obtain⟨fE,nz⟩:=tt (pY _ _ _ _ db).1;have lO:=IF dh rfl;have cx:=SK t;rw[show ei (l.drop i)=if t.fit then some (t,rest)else none by unfold ei;rw[hg,db]];simp only[ad]at aq;by_cases aL:t.fit=true
  ·rw[if_pos aL];rw[aL]at cx;refine FnK.mk mixed ls yN zy Ψ aq.obj rfl fun aN b3=>?_;unfold w1;clear aN b3;simp[av,ad];refine CallDo.obK (lO _) (a7 _ _) (by simp only[ad];exact aB) (by simp only[ad];exact aB) (by simp[au,Pv.look,ad,av,dF,kinL,kin]) Ψ ?_;rintro r ai ⟨rfl,rfl⟩;refine⟨bJ _ _ _ _,?_⟩;simp[bg,ad,av];(with_reducible repeat' first|refine aA ?_|refine a8 cx ?_|refine ba cx ?_|simp);refine dy.tm (l.length-rest.length) (t) true Ψ (z8 rfl) (by simp only[ad];exact aB) ?_;simp[a1,be,aV,cH,dV,cp,dx,bY,dt,tnL,tn,dU,ey,fold,eb,ea,eP,Pv.look,dv,bz,bC,T.k]
  ·rw[bq aL];rw[Bool.not_eq_true]at aL;rw[aL]at cx;refine FnK.mk mixed ls yN zy Ψ aq.obj rfl fun aN b3=>?_;unfold w1;clear aN b3;simp[av,ad];refine CallDo.obK (lO _) (a7 _ _) (by simp only[ad];exact aB) (by simp only[ad];exact aB) (by simp[au,Pv.look,ad,av,dF,kinL,kin]) Ψ ?_;rintro r ai ⟨rfl,rfl⟩;refine⟨bJ _ _ _ _,?_⟩;simp[bg,ad,av];(with_reducible repeat' first|refine aA ?_|refine a8 cx ?_|refine ba cx ?_|simp);refine dy.tm (l.length-rest.length) (.nil) false Ψ (qT Ω _) (by simp only[ad];exact aB) ?_;simp[a1,be,aV,cH,dV,cp,dx,bY,dt,tnL,tn,dU,ey,fold,eb,ea,eP,Pv.look,dv,bz,bC,T.k]
theorem aa3{l:List (List al)}{i p:Nat}{t:T}{rest:List (List al)}(h:K2 ky l i (some (t,rest)))(aU:l.length-rest.length=p)(κ:Nat):FnK aQ 84 κ [av ky] (ad ky l i) fun r ai=>r= .tuple [t.k κ,.bool true]/\ai=ad ky l p:=(h κ).mono fun r ai bn=>by rw[<-aU];exact bn
def _root_.Go.Pv.Gm.k(g:Gm)(κ:Nat):ae:= .agg [.int .i64 g.kind,.str g.name,.slice 4 (.tr (.loc κ) 0) (g.ts.map enc),.slice 4 (.tr (.loc κ) 1) (g.gs.map Gm.e)]
@[simp]theorem afP(g:Gm)(n:Nat):cells (g.k n)=[.int .i64 g.kind,.str g.name,.slice 4 (.tr (.loc n) 0) (g.ts.map enc),.slice 4 (.tr (.loc n) 1) (g.gs.map Gm.e)]:=rfl
@[simp]theorem aiw(g:Gm)(n:Nat):eD (g.k n)=true:=rfl
theorem Xs(g:Gm)(n:Nat):bC (g.k n)=g.e:=by rw[Gm.e_eq];simp[Gm.k,bC,bz]
theorem NV:∀l:List (Gm×Nat),ey (cY Gm.k l)
 |[]=>by simp[cY,ey]
 |x::l=>by have:=NV l;unfold cY at this;exact⟨⟨trivial,trivial,oq _,oq _,trivial⟩,this⟩
theorem NW:∀l:List (Gm×Nat),bz (cY Gm.k l)=(l.map (·.1)).map Gm.e
 |[]=>by simp[cY,bz]
 |x::l=>by have:=NW l;unfold cY at this;simp[cY,bz,Xs,this]
theorem NX:∀(l:List (Gm×Nat)),∀x∈tnL (cY Gm.k l),∃p∈l,x.1= .loc p.2
 |[],x,h=>by simp[cY,tnL]at h
 |p::l,x,h=>by
  have e:tnL (cY Gm.k (p::l))=(.loc p.2,0)::(.loc p.2,1)::tnL (cY Gm.k l):=by simp[cY,tnL,tn,Gm.k]
  rw[e]at h;simp only[gp]at h;rcases h with rfl|rfl|h
  ·exact⟨p,Ψ,rfl⟩
  ·exact⟨p,Ψ,rfl⟩
  ·obtain⟨lS,I,J⟩:=NX l x h;exact⟨lS,by simp[I],J⟩
theorem NU:∀{l:List (Gm×Nat)},(l.map (·.2)).Nodup->(tnL (cY Gm.k l)).Nodup
 |[],_=>by simp[cY,tnL]
 |p::l,h=>by
  have e:tnL (cY Gm.k (p::l))=(.loc p.2,0)::(.loc p.2,1)::tnL (cY Gm.k l):=by simp[cY,tnL,tn,Gm.k]
  simp only[gY,List.nodup_cons]at h;have aK:∀j,(aC.loc p.2,j)∉tnL (cY Gm.k l):=fun j aw=>by obtain⟨lS,I,J⟩:=NX l _ aw;simp only[aC.loc.injEq]at J;exact h.1 (lZ.2 ⟨lS,I,J.symm⟩)
  rw[e,List.nodup_cons,List.nodup_cons];exact⟨by simp[aK 0],aK 1,NU h.2⟩
theorem NT{S:aC->Prop}:∀(l:List (Gm×Nat)),(∀p∈l,S (.loc p.2))->Pv.kinL S (cY Gm.k l)
 |[],_=>by simp[cY,Pv.kinL]
 |x::l,gC=>by have:=NT l fun p aU=>gC p (by simp[aU]);unfold cY at this;have I:=gC x Ψ;simp only[cY,gY,Pv.kinL];exact⟨by simp[Gm.k,Pv.kin,Pv.kinL,I],this⟩
theorem Xr{n m:Nat}{l:List (Gm×Nat)}(aG:lz n l)(hm:n<=m)(o:List aC):Pv.kinL (fun k=> ¬fresh m o k) (cY Gm.k l):=NT l fun p aU aL=>by have I:=aG.lt p aU;have J:m<=p.2:=aL.1;omega
def vA(ky:Nat)(l:List (List al))(o:aT (Gm×List (List al)))(κ:Nat)(r:ae)(ai:dD):Prop:=match o with
 |some (g,rest)=>r= .tuple [g.k κ,.bool true]/\ai=ad ky l (l.length-rest.length)
 |none=> ∃(g:Gm) (j:Nat),j<=l.length/\r= .tuple [g.k κ,.bool false]/\ai=ad ky l j
theorem rr{l:List (List al)}{j κ:Nat}(h:j<=l.length)(g:Gm):vA ky l none κ (.tuple [g.k κ,.bool false]) (ad ky l j):=⟨g,j,h,rfl,rfl⟩
theorem yW{l:List (List al)}{j κ:Nat}{g:Gm}{rest:List (List al)}(h:l.length-rest.length=j):vA ky l (some (g,rest)) κ (.tuple [g.k κ,.bool true]) (ad ky l j):=⟨rfl,by rw[h]⟩
def wQ(ky:Nat)(l:List (List al))(i:Nat)(o:aT (Gm×List (List al))):Prop:= ∀κ,FnK aQ 114 κ [av ky,dF ky] (ad ky l i) (vA ky l o κ)
theorem dy.gm{l:List (List al)}{i κ:Nat}{o:aT (Gm×List (List al))}{st:aS}{e:Exit}(j:Nat)(x:Gm)(b:Bool)(ik:e= .ret\/e= .normal)(jb:vA ky l o κ (.tuple [x.k κ,.bool b]) (ad ky l j))(ah:∀k cs,Pv.look k (ad ky l j).b=some cs->Pv.look k st.b=some cs)
  (h:match a1 st [.cell 4 true 4,.tmp 5]with
   |some (c,a6)=>c/\(cH st.e (aV a6)/\(cp st.e (aV a6)).Nodup/\(bY (aV a6)).Nodup)/\fold κ st.e 0 (aV a6)= .tuple [x.k κ,.bool b]
   |none=>cZ):dy [.cell 4 true 4,.tmp 5] (ad ky l i) κ (vA ky l o κ) e st:=by
 refine dy.ob ik (a7 l j) rfl (bJ _ _ _ _) ah ?_;split at h
 ·rename_i c a6 hr;(try rw[hr]);exact⟨h.1,h.2.1,by rw[h.2.2];exact jb⟩
 ·exact h.elim
theorem aad(l:List (List al))(aG:l.length<=100000){i:Nat}(h:l[i]? =some hP):wQ ky l i ((some (.mk 0 [] [] [],l.drop (i+1)))):=by intro κ;have aq:=a7 (ky:=ky) l i;have az:=(e3.1 h).1;have cx:=nf (ky:=ky) (show i<=1000000 by omega) h;have aF:=sO h;simp only[ad]at aq;simp only[hP]at cx;refine FnK.mk mixed yc xb xS Ψ aq.obj rfl fun aN b3=>?_;unfold vj;clear aN b3;simp[av,ad];refine CallDo.ob (cx) (a7 _ _) (by simp only[ad];exact aB) (by simp only[ad];exact aB) (by simp[au,Pv.look,ad,av,kinL,kin]) ?_;rintro r ai ⟨rfl,rfl⟩;refine⟨bJ _ _ _ _,?_⟩;simp[bg,ad,av];(with_reducible repeat' first|refine aA ?_|simp);refine dy.gm (i+1) (.mk 0 [] [] []) true Ψ (yW aF) (by simp only[ad];exact aB) ?_;simp[a1,be,aV,cH,dV,cp,dx,bY,dt,tnL,tn,dU,ey,fold,eb,ea,eP,Pv.look,dv,bz,bC,Gm.k,Gm.kind,Gm.name,Gm.ts,Gm.gs]
theorem aac(l:List (List al))(aG:l.length<=100000){i:Nat}(h:l[i]? =some ih):wQ ky l i ((some (.mk 1 [] [] [],l.drop (i+1)))):=by intro κ;have aq:=a7 (ky:=ky) l i;have az:=(e3.1 h).1;have eU:=iU (ky:=ky) (show i<=1000000 by omega) (s:=hP) (l:=l) (i:=i) (by rw[h];decide);have cx:=nf (ky:=ky) (show i<=1000000 by omega) h;have aF:=sO h;simp only[ad]at aq;simp only[hP]at eU;simp only[ih]at cx;refine FnK.mk mixed yc xb xS Ψ aq.obj rfl fun aN b3=>?_;unfold vj;clear aN b3;simp[av,ad];refine CallDo.ob (eU) (a7 _ _) (by simp only[ad];exact aB) (by simp only[ad];exact aB) (by simp[au,Pv.look,ad,av,kinL,kin]) ?_;rintro r ai ⟨rfl,rfl⟩;refine⟨bJ _ _ _ _,?_⟩;simp[bg,ad,av];(with_reducible repeat' first|refine aA ?_|simp);refine CallDo.ob (cx) (a7 _ _) (by simp only[ad];exact aB) (by simp only[ad];exact aB) (by simp[au,Pv.look,ad,av,kinL,kin]) ?_;rintro r ai ⟨rfl,rfl⟩;refine⟨bJ _ _ _ _,?_⟩;simp[bg,ad,av];(with_reducible repeat' first|refine aA ?_|simp);refine dy.gm (i+1) (.mk 1 [] [] []) true Ψ (yW aF) (by simp only[ad];exact aB) ?_;simp[a1,be,aV,cH,dV,cp,dx,bY,dt,tnL,tn,dU,ey,fold,eb,ea,eP,Pv.look,dv,bz,bC,Gm.k,Gm.kind,Gm.name,Gm.ts,Gm.gs]
theorem Iu(l:List (List al))(aG:l.length<=100000){i:Nat}(az:i<=l.length)(I:l[i]?≠some hP)(J:l[i]?≠some ih)(ao:l[i]?≠some [40]):wQ ky l i (none):=by intro κ;have aq:=a7 (ky:=ky) l i;have eU:=iU (ky:=ky) (show i<=1000000 by omega) I;have cI:=iU (ky:=ky) (show i<=1000000 by omega) J;have dr:=iU (ky:=ky) (show i<=1000000 by omega) ao;simp only[ad]at aq;simp only[hP]at eU;simp only[ih]at cI;refine FnK.mk mixed yc xb xS Ψ aq.obj rfl fun aN b3=>?_;unfold vj;clear aN b3;simp[av,ad];refine CallDo.ob (eU) (a7 _ _) (by simp only[ad];exact aB) (by simp only[ad];exact aB) (by simp[au,Pv.look,ad,av,kinL,kin]) ?_;rintro r ai ⟨rfl,rfl⟩;refine⟨bJ _ _ _ _,?_⟩;simp[bg,ad,av];(with_reducible repeat' first|refine aA ?_|simp);refine CallDo.ob (cI) (a7 _ _) (by simp only[ad];exact aB) (by simp only[ad];exact aB) (by simp[au,Pv.look,ad,av,kinL,kin]) ?_;rintro r ai ⟨rfl,rfl⟩;refine⟨bJ _ _ _ _,?_⟩;simp[bg,ad,av];(with_reducible repeat' first|refine aA ?_|simp);refine CallDo.ob (dr) (a7 _ _) (by simp only[ad];exact aB) (by simp only[ad];exact aB) (by simp[au,Pv.look,ad,av,kinL,kin]) ?_;rintro r ai ⟨rfl,rfl⟩;refine⟨bJ _ _ _ _,?_⟩;simp[bg,ad,av];(with_reducible repeat' first|refine aA ?_|simp);refine dy.gm (i) (.mk 0 [] [] []) false Ψ (rr az _) (by simp only[ad];exact aB) ?_;simp[a1,be,aV,cH,dV,cp,dx,bY,dt,tnL,tn,dU,ey,fold,eb,ea,eP,Pv.look,dv,bz,bC,Gm.k,Gm.kind,Gm.name,Gm.ts,Gm.gs]
theorem aab(l:List (List al))(aG:l.length<=100000){i:Nat}(h:l[i]? =some [40])(he:i+1=l.length):wQ ky l i (none):=by
 intro κ;have dA:b7 aQ 83 [av ky] (ad ky l (i+1)) fun r ai=>r= .bool true/\ai=ad ky l (i+1):=by rw[he];exact AP l
 have aq:=a7 (ky:=ky) l i;have az:=(e3.1 h).1;have eU:=iU (ky:=ky) (show i<=1000000 by omega) (s:=hP) (l:=l) (i:=i) (by rw[h];decide);have cI:=iU (ky:=ky) (show i<=1000000 by omega) (s:=ih) (l:=l) (i:=i) (by rw[h];decide);have dr:=nf (ky:=ky) (show i<=1000000 by omega) h;simp only[ad]at aq;simp only[hP]at eU;simp only[ih]at cI;refine FnK.mk mixed yc xb xS Ψ aq.obj rfl fun aN b3=>?_;unfold vj;clear aN b3;simp[av,ad];refine CallDo.ob (eU) (a7 _ _) (by simp only[ad];exact aB) (by simp only[ad];exact aB) (by simp[au,Pv.look,ad,av,kinL,kin]) ?_;rintro r ai ⟨rfl,rfl⟩;refine⟨bJ _ _ _ _,?_⟩;simp[bg,ad,av];(with_reducible repeat' first|refine aA ?_|simp);refine CallDo.ob (cI) (a7 _ _) (by simp only[ad];exact aB) (by simp only[ad];exact aB) (by simp[au,Pv.look,ad,av,kinL,kin]) ?_;rintro r ai ⟨rfl,rfl⟩;refine⟨bJ _ _ _ _,?_⟩;simp[bg,ad,av];(with_reducible repeat' first|refine aA ?_|simp);refine CallDo.ob (dr) (a7 _ _) (by simp only[ad];exact aB) (by simp only[ad];exact aB) (by simp[au,Pv.look,ad,av,kinL,kin]) ?_;rintro r ai ⟨rfl,rfl⟩;refine⟨bJ _ _ _ _,?_⟩;simp[bg,ad,av];(with_reducible repeat' first|refine aA ?_|simp);refine CallDo.ob (dA) (a7 _ _) (by simp only[ad];exact aB) (by simp only[ad];exact aB) (by simp[au,Pv.look,ad,av,kinL,kin]) ?_;rintro r ai ⟨rfl,rfl⟩;refine⟨bJ _ _ _ _,?_⟩;simp[bg,ad,av];(with_reducible repeat' first|refine aA ?_|simp);refine dy.gm (i+1) (.mk 0 [] [] []) false Ψ (rr Ω _) (by simp only[ad];exact aB) ?_;simp[a1,be,aV,cH,dV,cp,dx,bY,dt,tnL,tn,dU,ey,fold,eb,ea,eP,Pv.look,dv,bz,bC,Gm.k,Gm.kind,Gm.name,Gm.ts,Gm.gs]
end
section
open Go Go.Pv
variable {ky:Nat}
def nQ(ky:Nat)(l:List (List al))(k:Int)(s:List al)(j q:Nat):List (T×Nat)->aS
 |[]=>⟨[(0,.ptr (.obj ky) 0),(1,dF ky),(4,.ptr (.loc 0) 0),(5,.bool false),(10,.ptr (.loc 2) 0)],[(.loc 0,[.int .i64 0,.str [],.slice 4 .nil [],.slice 4 .nil []]),(.obj ky,[.slice 1 .no (bZ l),.int .i64 j]),(.loc 2,[.int .i64 k,.str s,.slice 4 .nil [],.slice 4 .nil []])],[],3,[.obj ky]⟩
 |x::xs=>⟨[(0,.ptr (.obj ky) 0),(1,dF ky),(4,.ptr (.loc 0) 0),(5,.bool false),(10,.ptr (.loc 2) 0)],[(.loc 0,[.int .i64 0,.str [],.slice 4 .nil [],.slice 4 .nil []]),(.obj ky,[.slice 1 .no (bZ l),.int .i64 j]),(.loc 2,[.int .i64 k,.str s,.slice 4 (.own (.loc 6)) (cY T.k (x::xs)),.slice 4 .nil []])],[(.loc 6,⟨xs.length+1,40,4,none⟩)],q+7,[.obj ky]⟩
theorem Z6(l:List (List al))(aG:l.length<=100000)(hw:∀w∈l,w≠[]/\w.length<=bN){k:Int}{s:List al}(I:1<k)(eu:(k==7)=false)(gB:(k==8)=false)(fC:(k==10)=false){R:aT (Gm×List (List al))}{i0 κ:Nat}(st:aS)(j n:Nat)(aw:j<=l.length)(aK:l.length-j+1<=n)(bu:eC ei fb n k s [] [] (l.drop j)=R)(lj:hH [.obj ky] st (nQ ky l k s j 0 [])):
  ct aQ [.obj ky] yx (dy [.cell 4 true 4,.tmp 5] (ad ky l i0) κ (vA ky l R κ)) st:=by
 have oV:kz k=false:=by simp[kz,eu,gB,fC]
 unfold yx;simp;refine h1 (fun x:List (T×Nat)×Nat×Nat×Nat=>nQ ky l k s x.2.1 x.2.2.2 x.1) (fun x=>l.length-x.2.1) (fun x=>x.2.1<=l.length/\l.length-x.2.1+1<=x.2.2.1/\eC ei fb x.2.2.1 k s (x.1.map (·.1)) [] (l.drop x.2.1)=R/\x.1.length<=x.2.1/\lz (x.2.2.2+7) x.1) ([],j,n,0) lj ⟨aw,aK,bu,Nat.zero_le _,.nil _⟩ ?_;clear lj bu aK aw st;rintro⟨acc,j,n,q⟩ ⟨aw,aK,bu,jd,ft⟩ _;simp only at aw aK bu jd ft;subst bu;obtain⟨n,rfl⟩:∃m,n=m+1:=⟨n-1,Ω⟩;have oe:j<=1000000:=Ω
 rcases iX aw with rfl|fs
 ·have dH:=iU (ky:=ky) (l:=l) (i:=l.length) (s:=[41]) oe Ψ;have ke:=PJ (ky:=ky) l aG hw l.length (cq _);rw[jN]at ke⊢;rw[show ei []=none by simp[ei,rd]]at ke;rw[show eC ei fb (n+1) k s (acc.map (·.1)) [] []=none by simp[eC]];cases acc with
  |nil=>simp[nQ];refine CallDo.ob (dH) (a7 _ _) (by simp only[ad];exact aB) (by simp only[ad];exact aB) (by simp[au,Pv.look,ad,av,kinL,kin]) ?_;rintro r ai ⟨rfl,rfl⟩;refine⟨bJ _ _ _ _,?_⟩;simp[bg,ad,av];(with_reducible repeat' first|refine aA ?_|simp[eu,gB,fC,dF,av]);refine CallDo.obK (ke _) (a7 _ _) (by simp only[ad];exact aB) (by simp only[ad];exact aB) (by simp[au,Pv.look,ad,av,dF,kinL,kin]) Ψ ?_;rintro r ai ⟨x,hL,bn,rfl,rfl⟩;refine⟨bJ _ _ _ _,?_⟩;simp[bg,ad,av];(with_reducible repeat' first|refine aA ?_|simp);refine dy.gm (hL) (.mk 0 [] [] []) false Ψ (rr bn _) (by simp only[ad];exact aB) ?_;simp[a1,be,aV,cH,dV,cp,dx,bY,dt,tnL,tn,dU,ey,fold,eb,ea,eP,Pv.look,dv,bz,bC,Gm.k,Gm.kind,Gm.name,Gm.ts,Gm.gs]
  |cons a eE=>simp[nQ];refine CallDo.ob (dH) (a7 _ _) (by simp only[ad];exact aB) (by simp only[ad];exact aB) (by simp[au,Pv.look,ad,av,kinL,kin]) ?_;rintro r ai ⟨rfl,rfl⟩;refine⟨bJ _ _ _ _,?_⟩;simp[bg,ad,av];(with_reducible repeat' first|refine aA ?_|simp[eu,gB,fC,dF,av]);refine CallDo.obK (ke _) (a7 _ _) (by simp only[ad];exact aB) (by simp only[ad];exact aB) (by simp[au,Pv.look,ad,av,dF,kinL,kin]) Ψ ?_;rintro r ai ⟨x,hL,bn,rfl,rfl⟩;refine⟨bJ _ _ _ _,?_⟩;simp[bg,ad,av];(with_reducible repeat' first|refine aA ?_|simp);refine dy.gm (hL) (.mk 0 [] [] []) false Ψ (rr bn _) (by simp only[ad];exact aB) ?_;simp[a1,be,aV,cH,dV,cp,dx,bY,dt,tnL,tn,dU,ey,fold,eb,ea,eP,Pv.look,dv,bz,bC,Gm.k,Gm.kind,Gm.name,Gm.ts,Gm.gs]
 obtain⟨v,aM⟩:∃v,l[j]? =some v:=⟨_,cF fs⟩;by_cases eN:v=[41]
 ·subst eN;have dH:=nf (ky:=ky) oe aM;have aF:=sO aM;obtain⟨G,rD⟩:∃G,G=Gm.mk k s ((acc.map (·.1)).map T.tm) []:=⟨_,rfl⟩;rw[fi aM,show eC ei fb (n+1) k s (acc.map (·.1)) [] ([41]::l.drop (j+1))=some (G,l.drop (j+1)) by simp[eC,I,rD]];cases acc with
  |nil=>simp[nQ];refine CallDo.ob (dH) (a7 _ _) (by simp only[ad];exact aB) (by simp only[ad];exact aB) (by simp[au,Pv.look,ad,av,kinL,kin]) ?_;rintro r ai ⟨rfl,rfl⟩;refine⟨bJ _ _ _ _,?_⟩;simp[bg,ad,av];(with_reducible repeat' first|refine aA ?_|simp);refine dy.gm (j+1) (G) true Ψ (yW aF) (by simp only[ad];exact aB) ?_;simp[a1,be,aV,cH,dV,cp,dx,bY,dt,fold,eb,ea,eP,Pv.look,dv,Gm.k,Gm.kind,Gm.name,Gm.ts,Gm.gs,rD,bz]
  |cons a eE=>have uo:=vW.nodup ft;simp[nQ];refine CallDo.ob (dH) (a7 _ _) (by simp only[ad];exact aB) (by simp only[ad];exact aB) (by simp[au,Pv.look,ad,av,kinL,kin]) ?_;rintro r ai ⟨rfl,rfl⟩;refine⟨bJ _ _ _ _,?_⟩;simp[bg,ad,av];(with_reducible repeat' first|refine aA ?_|simp);refine dy.gm (j+1) (G) true Ψ (yW aF) (by simp only[ad];exact aB) ?_;simp[a1,be,aV,cH,dV,cp,dx,bY,dt,fold,eb,ea,eP,Pv.look,dv,Gm.k,Gm.kind,Gm.name,Gm.ts,Gm.gs,rD,vW.okL,uo,vW.stL,tX,bz]
 have dH:=iU (ky:=ky) (l:=l) (i:=j) oe (show l[j]?≠some [41] by rw[aM];simpa using eN);have ke:=PJ (ky:=ky) l aG hw j aw;rw[fi aM]at ke⊢;cases db:ei (v::l.drop (j+1))with
 |none=>
  rw[db]at ke;rw[show eC ei fb (n+1) k s (acc.map (·.1)) [] (v::l.drop (j+1))=none by simp[eC,eN,oV,db]];cases acc with
  |nil=>simp[nQ];refine CallDo.ob (dH) (a7 _ _) (by simp only[ad];exact aB) (by simp only[ad];exact aB) (by simp[au,Pv.look,ad,av,kinL,kin]) ?_;rintro r ai ⟨rfl,rfl⟩;refine⟨bJ _ _ _ _,?_⟩;simp[bg,ad,av];(with_reducible repeat' first|refine aA ?_|simp[eu,gB,fC,dF,av]);refine CallDo.obK (ke _) (a7 _ _) (by simp only[ad];exact aB) (by simp only[ad];exact aB) (by simp[au,Pv.look,ad,av,dF,kinL,kin]) Ψ ?_;rintro r ai ⟨x,hL,bn,rfl,rfl⟩;refine⟨bJ _ _ _ _,?_⟩;simp[bg,ad,av];(with_reducible repeat' first|refine aA ?_|simp);refine dy.gm (hL) (.mk 0 [] [] []) false Ψ (rr bn _) (by simp only[ad];exact aB) ?_;simp[a1,be,aV,cH,dV,cp,dx,bY,dt,tnL,tn,dU,ey,fold,eb,ea,eP,Pv.look,dv,bz,bC,Gm.k,Gm.kind,Gm.name,Gm.ts,Gm.gs]
  |cons a eE=>simp[nQ];refine CallDo.ob (dH) (a7 _ _) (by simp only[ad];exact aB) (by simp only[ad];exact aB) (by simp[au,Pv.look,ad,av,kinL,kin]) ?_;rintro r ai ⟨rfl,rfl⟩;refine⟨bJ _ _ _ _,?_⟩;simp[bg,ad,av];(with_reducible repeat' first|refine aA ?_|simp[eu,gB,fC,dF,av]);refine CallDo.obK (ke _) (a7 _ _) (by simp only[ad];exact aB) (by simp only[ad];exact aB) (by simp[au,Pv.look,ad,av,dF,kinL,kin]) Ψ ?_;rintro r ai ⟨x,hL,bn,rfl,rfl⟩;refine⟨bJ _ _ _ _,?_⟩;simp[bg,ad,av];(with_reducible repeat' first|refine aA ?_|simp);refine dy.gm (hL) (.mk 0 [] [] []) false Ψ (rr bn _) (by simp only[ad];exact aB) ?_;simp[a1,be,aV,cH,dV,cp,dx,bY,dt,tnL,tn,dU,ey,fold,eb,ea,eP,Pv.look,dv,bz,bC,Gm.k,Gm.kind,Gm.name,Gm.ts,Gm.gs]
 |some tr=>
  obtain⟨t,rest⟩:=tr;rw[db]at ke;obtain⟨rP,rQ⟩:=Km _ _ _ db;rw[<-fi aM]at rP rQ;obtain⟨fE,nz⟩:=tt rP;obtain⟨p,aU⟩:∃p,p=l.length-rest.length:=⟨_,rfl⟩;rw[<-aU]at fE;have uD:=aa3 ke aU.symm;have fm:p<=l.length:=Ω
  have HM:j<p:=by simp at rQ;omega
  have gJ:acc.length+1<=bN:=by unfold bN;omega
  cases acc with
  |nil=>rw[show eC ei fb (n+1) k s (([]:List (T×Nat)).map (·.1)) [] (v::l.drop (j+1))=eC ei fb n k s (([(t,3)]:List (T×Nat)).map (·.1)) [] rest by simp[eC,eN,oV,db]];simp[nQ];refine CallDo.ob (dH) (a7 _ _) (by simp only[ad];exact aB) (by simp only[ad];exact aB) (by simp[au,Pv.look,ad,av,kinL,kin]) ?_;rintro r ai ⟨rfl,rfl⟩;refine⟨bJ _ _ _ _,?_⟩;simp[bg,ad,av];(with_reducible repeat' first|refine aA ?_|simp[eu,gB,fC,dF,av]);refine CallDo.obK (uD _) (a7 _ _) (by simp only[ad];exact aB) (by simp only[ad];exact aB) (by simp[au,Pv.look,ad,av,dF,kinL,kin]) Ψ ?_;rintro r ai ⟨rfl,rfl⟩;refine⟨bJ _ _ _ _,?_⟩;simp[bg,ad,av];(with_reducible repeat' first|refine aA ?_|simp[gJ]);refine b9.whl ([(t,3)],p,n,0) (by simp;omega) ⟨fm,by simp;omega,by simp[<-fE],by simp;omega,⟨Ψ,Ψ⟩⟩ ?_;simp[nQ,cY];exact⟨by simp[fresh,kinL,kin,bt,au,Pv.look,T.k],cR (by simp[fresh,kinL,kin,bt,au,Pv.look,T.k]),cS (by simp[fresh,kinL,kin,cB,au,Pv.look,T.k]),Ψ⟩
  |cons a eE=>simp only[lx]at gJ;rw[show eC ei fb (n+1) k s ((a::eE).map (·.1)) [] (v::l.drop (j+1))=eC ei fb n k s ((a::eE++[(t,q+7)]).map (·.1)) [] rest by simp[eC,eN,oV,db]];have bp:=ft.snoc t (cq (q+7)) (show q+7<q+3+7 by omega);have fe:=vW.kin bp (cq _) [.obj ky];simp[fresh]at fe;simp[nQ];refine CallDo.ob (dH) (a7 _ _) (by simp only[ad];exact aB) (by simp only[ad];exact aB) (by simp[au,Pv.look,ad,av,kinL,kin]) ?_;rintro r ai ⟨rfl,rfl⟩;refine⟨bJ _ _ _ _,?_⟩;simp[bg,ad,av];(with_reducible repeat' first|refine aA ?_|simp[eu,gB,fC,dF,av]);refine CallDo.obK (uD _) (a7 _ _) (by simp only[ad];exact aB) (by simp only[ad];exact aB) (by simp[au,Pv.look,ad,av,dF,kinL,kin]) Ψ ?_;rintro r ai ⟨rfl,rfl⟩;refine⟨bJ _ _ _ _,?_⟩;simp[bg,ad,av];(with_reducible repeat' first|refine aA ?_|simp[gJ]);have iv:cY T.k (a::eE)++[.agg [.int .i64 t.kind,.int .i64 t.int,.str t.name,.slice 4 (.tr (.loc (q+7)) 0) (t.args.map T.e)]]=cY T.k (a::(eE++[(t,q+7)])):=(EM T.k (a::eE) t (q+7)).symm;refine b9.whl (a::eE++[(t,q+7)],p,n,q+3) (by simp;omega) ⟨fm,by simp;omega,by simp[<-fE],by simp at jd⊢;omega,bp⟩ ?_;simp[nQ];exact⟨by simp[fresh,kinL,kin,bt,au,Pv.look,iv,fe],cR (by simp[fresh,kinL,kin,bt,au,Pv.look,iv,fe]),cS (by simp[fresh,kinL,kin,cB,au,Pv.look,iv,fe]),Ψ⟩
end
end Go.Proofs.YtlnndmgfngfeiaaGreatDoor
