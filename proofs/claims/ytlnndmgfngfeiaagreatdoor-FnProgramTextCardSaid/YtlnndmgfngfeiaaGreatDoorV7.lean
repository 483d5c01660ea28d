/- made by mk2.py: the code of the functions, and the checks against the program's own form. -/
import Derived.Shelf.Sort.Plain
import Derived.Ground.NamesProg
import Derived.Test.YtlnndmgfngfeiaaGreatDoorProg
import Derived.Sort.OwnSortedInts
import Derived.Lib.OwnBridge
import Derived.Test.YtlnndmgfngfeiaaGreatDoorV6
set_option linter.all false
set_option maxHeartbeats 4000000
set_option maxRecDepth 4000
open BitVec renaming ofInt->rD
open Bool renaming and_eq_true->bF,false_eq_true->kE
open Go.IntKind renaming i64->iw
open Go.IntWalk renaming i64_in->lS
open Go.Proofs.Tryz renaming prog->aQ
open Go.Value renaming cells->mf,int->mP
open List renaming all_eq_true->hq,cons_append->ds,drop_eq_getElem_cons->uk,drop_length->kG,getElem?_eq_getElem->cS,getElem?_eq_some_iff->eV,getElem?_map->pQ,length_append->fU,length_cons->ga,length_drop->hG,length_map->pR,length_nil->mh,length_pos_iff->sY,map_cons->ek,mem_append->fM,mem_cons->gb,mem_map->n8,mem_of_getElem?->fq,nodup_append->rG,sum_cons->qD,take_add_one->kV,take_length->kH,take_of_length_le->rH,take_succ_cons->rI
open List.Nodup renaming length_le_of_subset->aiP
open List.Pairwise renaming imp_of_mem->amS,map->amT
open List.Perm renaming eq_of_pairwise->amU
open Nat renaming eq_or_lt_of_le->jJ,le_refl->c7,lt_or_ge->lU
open Option renaming getD_some->qE,isSome_none->um,map_eq_some_iff->hc,map_some->oa
open Option.some renaming inj->hd,injEq->dH
open Prod.mk renaming injEq->gz
open _root_ renaming False->dD,Option->a1,UInt8->ah,beq_eq_false_iff_ne->jy,congrArg->dZ,decide_eq_true->nD,decide_eq_true_eq->ea,if_neg->bo,if_pos->bP
namespace Go.Proofs.YtlnndmgfngfeiaaGreatDoor
section
open Go Go.Pv
structure bS where
 d:List Int
 i:Nat
 h:Int
def iz(d:List Int):List al:=d.map (al.int .u8)
def bS.e(c:bS):List al:=[.slice 1 .no (iz c.d),.int .i64 c.i,.int .i64 c.h]
def aN(c:bS):dF:=⟨[(.obj 401,c.e)],[]⟩
@[simp]theorem alb(S:aO->Prop)(d:List Int):aj S (iz d)=True:=by
 apply eq_true;induction d with
 |nil=>simp[-aC,-aw,iz,aj]
 |cons x r bp=>simp only[iz,ek,aj,ak]at bp⊢;exact⟨trivial,bp⟩
@[simp]theorem amw(d:List Int):ca (iz d)=iz d:=by
 induction d with
 |nil=>rfl
 |cons x r bp=>simp only[iz,ek,ca,cm]at bp⊢;rw[bp]
@[simp]theorem ajy(d:List Int):(iz d).length=d.length:=by simp[-aC,-aw,iz]
theorem HC{d:List Int}{i:Nat}{x:Int}(h:d[i]? =some x):(iz d)[i]? =some (.int .u8 x):=by simp[-aC,-aw,iz,h]
theorem cn(c:bS):gJ (aN c):=by unfold aN;exact gJ.of ⟨by intro m;simp[-aC,-aw,Pv.look],by intro m;simp[-aC,-aw,Pv.look]⟩ (by simp[-aC,-aw,bS.e,aj,ak]) (by simp[-aC,-aw])
theorem c6(c iA:bS):Same (aN c) (aN iA):=by refine⟨fun k=>?_,fun k=>rfl⟩;simp only[aN,Pv.look];split<;>rfl
def tg(d:List Int):Prop:= ∀x∈d,0<=x/\x<256
def Ad(h:Int):Int:=iw.wrap (iw.wrap (h*6364136223846793005)+1442695040888963407)
def xj(k:IntKind)(a b:Int):Int:=k.wrap (rD k.bits a&&& rD k.bits b).toNat
def V9(k:IntKind)(a b:Int):Int:=k.wrap (rD k.bits a ^^^ rD k.bits b).toNat
def LH(k:IntKind)(a b:Int):Int:=a.fdiv (2 ^ (min b.toNat k.bits))
section
variable (a b:Int)
@[simp]theorem ajh:aw .add false (.int .i64 a) (.int .i64 b)=some (aZ (a+b),.int .i64 (a+b)):=by unfold aw aC;simp[-aC,-aw]
@[simp]theorem aji:aw .add true (.int .i64 a) (.int .i64 b)=some (True,.int .i64 (iw.wrap (a+b))):=rfl
@[simp]theorem ajv:aw .sub false (.int .i64 a) (.int .i64 b)=some (aZ (a-b),.int .i64 (a-b)):=by unfold aw aC;simp[-aC,-aw]
@[simp]theorem ajp:aw .mul false (.int .i64 a) (.int .i64 b)=some (aZ (a*b),.int .i64 (a*b)):=by unfold aw aC;simp[-aC,-aw]
@[simp]theorem ajq:aw .mul true (.int .i64 a) (.int .i64 b)=some (True,.int .i64 (iw.wrap (a*b))):=rfl
@[simp]theorem ajs:aw .quo false (.int .i64 a) (.int .i64 b)=some (b≠0,.int .i64 (iw.wrap (a.tdiv b))):=rfl
@[simp]theorem ajt:aw .rem false (.int .i64 a) (.int .i64 b)=some (b≠0,.int .i64 (a.tmod b)):=rfl
@[simp]theorem ajk:aw .eql false (.int .i64 a) (.int .i64 b)=some (True,.bool (a==b)):=rfl
@[simp]theorem ajr:aw .neq false (.int .i64 a) (.int .i64 b)=some (True,.bool (a !=b)):=rfl
@[simp]theorem ajo:aw .lss false (.int .i64 a) (.int .i64 b)=some (True,.bool (decide (a<b))):=rfl
@[simp]theorem ajn:aw .leq false (.int .i64 a) (.int .i64 b)=some (True,.bool (decide (a<=b))):=rfl
@[simp]theorem ajm:aw .gtr false (.int .i64 a) (.int .i64 b)=some (True,.bool (decide (b<a))):=rfl
@[simp]theorem ajl:aw .geq false (.int .i64 a) (.int .i64 b)=some (True,.bool (decide (b<=a))):=rfl
@[simp]theorem ajj:aw .and false (.int .i64 a) (.int .i64 b)=some (True,.int .i64 (xj .i64 a b)):=rfl
@[simp]theorem ajw:aw .xor false (.int .i64 a) (.int .i64 b)=some (True,.int .i64 (V9 .i64 a b)):=rfl
@[simp]theorem aju(k:IntKind):aw .shr false (.int .i64 a) (.int k b)=some (0<=b,.int .i64 (LH .i64 a b)):=rfl
end
theorem Hx(x m:Int)(bK:0<=m)(I:m<9223372036854775807):0<=xj .i64 x m/\xj .i64 x m<=m:=by
 have hm:(rD 64 m).toNat=m.toNat:=by rw[BitVec.toNat_ofInt];omega
 have h:(rD 64 x&&& rD 64 m).toNat<=m.toNat:=by rw[BitVec.toNat_and,hm];exact Nat.and_le_right
 unfold xj;rw[show iw.bits=64 from rfl,lS _ Ω];omega
def yn(h:Int):Int:=xj .i64 (V9 .i64 (LH .i64 h 33) (LH .i64 h 45)) 255
theorem SF(h:Int):0<=yn h/\yn h<=255:=Hx _ _ Ω Ω
def bS.byte(c:bS):Int:=match c.d[c.i]? with|some x=>xj .i64 (yn (Ad c.h)+x) 255|none=>yn (Ad c.h)
def bS.next(c:bS):bS:=⟨c.d,if c.i<c.d.length then c.i+1 else c.i,Ad c.h⟩
theorem bS.byte_le(c:bS):0<=c.byte/\c.byte<=255:=by
 unfold bS.byte;split
 ·exact Hx _ _ Ω Ω
 ·exact SF _
structure bS.ok (c:bS):Prop where
 d:tg c.d
 l:c.d.length<=10000000
 i:c.i<=c.d.length
theorem bS.ok.next{c:bS}(h:c.ok):c.next.ok:=⟨h.d,h.l,by have:=h.i;simp only[bS.next];split<;>omega⟩
theorem Qb(c:bS)(aH:c.ok):bJ aQ 106 [.ptr (.obj 401) 0] (aN c) fun r aq=>r= .int .i64 c.byte/\aq=aN c.next:=by
 have au:=cn c;have gq:=cn c.next;have fa:=c6 c c.next;obtain⟨d,i,h⟩:=c;obtain⟨aP,aG,aE⟩:=aH;simp only at aP aG aE;have Fg:=SF (Ad h);simp only[yn]at Fg;by_cases bY:i<d.length
 ·obtain⟨x,ad⟩:∃x,d[i]? =some x:=⟨_,cS bY⟩;have jR:∀h,(iz d)[i]'h= .int .u8 x:=fun h=>by have:=HC ad;rw[cS h]at this;simpa using this
  have oJ:=aP x (fq ad);have hw:iw.wrap x=x:=lS _ Ω;simp only[aN,bS.e,bS.next,bY,if_true]at au gq fa⊢;refine bJ.mk mixed sR PJ Tn (by simp[-aC,-aw]) au.obj fun aL bT=>?_;unfold HT;simp[-aC,-aw,bY,jR,hw,<-Ad.eq_1];(with_reducible repeat' first|((first|apply cN|apply cP|apply cO)<;>intro h<;>try simp[-aC,-aw]at h)|refine av ?_|simp[-aC,-aw]);refine bL.at _ (.inl rfl) gq fa ai ai ?_;simp[-aC,-aw,bV,KZ,bg,bh,bf];simp[-aC,-aw,bS.byte,ad,yn]
 ·have ad:d[i]? =none:=by simp[-aC,-aw];omega
  simp only[aN,bS.e,bS.next,bY,if_false]at au gq fa⊢;refine bJ.mk mixed sR PJ Tn (by simp[-aC,-aw]) au.obj fun aL bT=>?_;unfold HT;simp[-aC,-aw,bY,<-Ad.eq_1];(with_reducible repeat' first|((first|apply cN|apply cP|apply cO)<;>intro h<;>try simp[-aC,-aw]at h)|refine av ?_|simp[-aC,-aw]);refine bL.at _ (.inl rfl) gq fa ai ai ?_;simp[-aC,-aw,bV,KZ,bg,bh,bf];simp[-aC,-aw,bS.byte,ad,yn]
end
section
open Go Go.Pv
def bS.below(c:bS)(n:Int):Int:=if n<=0 then 0 else c.byte.tmod n
def bS.belowC(c:bS)(n:Int):bS:=if n<=0 then c else c.next
theorem bS.ok.below{c:bS}(h:c.ok)(n:Int):(c.belowC n).ok:=by unfold bS.belowC;split;exact h;exact h.next
theorem bS.below_le(c:bS)(n:Int)(aJ:0<n):0<=c.below n/\c.below n<n:=by have:=c.byte_le;unfold bS.below;rw[bo Ω];exact⟨Int.tmod_nonneg _ this.1,Int.tmod_lt_of_pos _ aJ⟩
theorem mz(c:bS)(aH:c.ok)(n:Int):bJ aQ 140 [.ptr (.obj 401) 0,.int .i64 n] (aN c) fun r aq=>r= .int .i64 (c.below n)/\aq=aN (c.belowC n):=by
 have au:=cn c;have fa:=c6 c;refine bJ.mk mixed sR ZW afB (by simp[-aC,-aw]) au.obj fun aL bT=>?_;unfold Oa;unfold aN;simp[-aC,-aw];(with_reducible repeat' first|((first|apply cN|apply cP|apply cO)<;>intro h<;>try simp[-aC,-aw]at h)|refine av ?_|simp[-aC,-aw])
 ·(refine bL.at (aN (c)) (.inl rfl) (cn _) (c6 _ _) (by unfold aN;exact ai) (by unfold aN;exact ai) ?_;simp[-aC,-aw,bV,KY,bg,bh,bf,aN]);simp[-aC,-aw,bS.below,bS.belowC,h]
 ·(refine bc.ob (Qb c aH) (cn _) (by unfold aN;exact ai) (by unfold aN;exact ai) (by simp[-aC,-aw,ag,aN,Pv.look]) ?_;rintro r aq ⟨rfl,rfl⟩;refine⟨c6 _ _,?_⟩;unfold aN;simp[-aC,-aw,aX]);((with_reducible repeat' first|refine av ?_|simp[-aC,-aw]|((first|apply cN|apply cP|apply cO)<;>intro h<;>try simp[-aC,-aw]at h))<;>(try exact dr));(refine bL.at (aN (c.next)) (.inl rfl) (cn _) (c6 _ _) (by unfold aN;exact ai) (by unfold aN;exact ai) ?_;simp[-aC,-aw,bV,KY,bg,bh,bf,aN]);have:¬n<=0:=Ω
  simp[-aC,-aw,bS.below,bS.belowC,this]
theorem BQ(c:bS)(aH:c.ok)(n:Int):bJ aQ 96 [.ptr (.obj 401) 0,.int .i64 n] (aN c) fun r aq=>r= .bool (c.below n==0)/\aq=aN (c.belowC n):=by have au:=cn c;refine bJ.mk mixed sR ZZ afE (by simp[-aC,-aw]) au.obj fun aL bT=>?_;unfold Od;unfold aN;simp[-aC,-aw];(refine bc.ob (mz c aH n) (cn _) (by unfold aN;exact ai) (by unfold aN;exact ai) (by simp[-aC,-aw,ag,aN,Pv.look]) ?_;rintro r aq ⟨rfl,rfl⟩;refine⟨c6 _ _,?_⟩;unfold aN;simp[-aC,-aw,aX]);(refine bL.at (aN (c.belowC n)) (.inl rfl) (cn _) (c6 _ _) (by unfold aN;exact ai) (by unfold aN;exact ai) ?_;simp[-aC,-aw,bV,T2,bg,bh,bf,aN])
theorem VQ(n:Int):ct aQ 142 [.int .i64 n] (T.var n).e:=by refine bW sQ aaa afP fun aL=>?_;unfold Ot;simp[-aC,-aw];simp[-aC,-aw,b8,T8,bg,bh,bf]
theorem VP(n:Int):ct aQ 194 [.int .i64 n] (T.num n).e:=by refine bW sR Z7 afM fun aL=>?_;unfold On;simp[-aC,-aw];simp[-aC,-aw,b8,T5,bg,bh,bf]
theorem G7(s:List ah):ct aQ 195 [.str s] (T.sym s).e:=by refine bW sR Z9 afO fun aL=>?_;unfold Oq;simp[-aC,-aw];simp[-aC,-aw,b8,T7,bg,bh,bf]
def xl(k:Int):T:=if k<2 then .num k else if k<5 then .sym (([[97],[98],[99]]:List (List ah)).getD (k-2).toNat [])else .nil
theorem aaT(c:bS)(aH:c.ok):bJ aQ 143 [.ptr (.obj 401) 0] (aN c) fun r aq=>r=(xl (c.below 7)).e/\aq=aN c.next:=by
 have au:=cn c;have ao:=c.below_le 7 Ω;have eZ:c.belowC 7=c.next:=by simp[-aC,-aw,bS.belowC]
 refine bJ.mk mixed sR Z2 afH (by simp[-aC,-aw]) au.obj fun aL bT=>?_;unfold Oh;unfold aN;simp[-aC,-aw];(refine bc.ob (mz c aH 7) (cn _) (by unfold aN;exact ai) (by unfold aN;exact ai) (by simp[-aC,-aw,ag,aN,Pv.look]) ?_;rintro r aq ⟨rfl,rfl⟩;refine⟨c6 _ _,?_⟩;unfold aN;simp[-aC,-aw,aX]);rw[eZ];generalize aa:c.below 7=k at ao⊢;obtain⟨bz,rfl⟩:∃bz:Nat,k=bz:=⟨k.toNat,Ω⟩;rcases(by omega:bz=0\/bz=1\/bz=2\/bz=3\/bz=4\/bz=5\/bz=6)with rfl|rfl|rfl|rfl|rfl|rfl|rfl;all_goals simp[-aC,-aw]
 all_goals(with_reducible repeat' first|refine av ?_|refine ba (VP _) ?_|refine bb (VP _) ?_|refine ba (G7 _) ?_|refine bb (G7 _) ?_|simp[-aC,-aw])
 all_goals(refine bL.at (aN (c.next)) (.inl rfl) (cn _) (c6 _ _) (by unfold aN;exact ai) (by unfold aN;exact ai) ?_;simp[-aC,-aw,bV,T4,bg,bh,bf,aN])
 all_goals simp[-aC,-aw,xl]
def eD(size:Nat)(vars:Int)(c:bS):T×bS:=
 if 2<size/\3<=c.below 8 then
  (.pair (eD (size/2) vars c.next).1 (eD (size/2) vars (eD (size/2) vars c.next).2).1,(eD (size/2) vars (eD (size/2) vars c.next).2).2)
 else if 0<vars/\(c.below 8).tmod 2=0 then(.var (c.next.below vars),c.next.belowC vars)
 else(xl (c.next.below 7),c.next.next)
termination_by size
theorem zg(size:Nat)(vars:Int):∀c:bS,c.ok->(eD size vars c).2.ok:=by
 induction size using Nat.strongRecOn with
 |ind size bp=>
  intro c aH;rw[eD];split
  ·rename_i h;exact bp _ Ω _ (bp _ Ω _ aH.next)
  ·split
   ·exact aH.next.below _
   ·exact aH.next.next
theorem EI(vars:Int)(aK:vars<=1000000)(size:Nat)(cp:size<=1000000):∀(c:bS),c.ok->bJ aQ 72 [.ptr (.obj 401) 0,.int .i64 size,.int .i64 vars] (aN c) fun r aq=>r=(eD size vars c).1.e/\aq=aN (eD size vars c).2:=by
 induction size using Nat.strongRecOn with
 |ind size bp=>
  intro c aH;have au:=cn c;have ao:=c.below_le 8 Ω;have eZ:c.belowC 8=c.next:=by simp[-aC,-aw,bS.belowC]
  obtain⟨z,RC⟩:∃z,z=size/2:=⟨_,rfl⟩;have hdiv:iw.wrap ((size:Int)/2)=(z:Int):=by rw[lS _ Ω];omega
  have ab6:∀h:2<size/\3<=c.below 8,eD size vars c=(.pair (eD z vars c.next).1 (eD z vars (eD z vars c.next).2).1,(eD z vars (eD z vars c.next).2).2):=fun h=>by rw[eD,bP h,RC]
  have kp:∀(h:¬(2<size/\3<=c.below 8)) (cx:0<vars/\(c.below 8).tmod 2=0),eD size vars c=(.var (c.next.below vars),c.next.belowC vars):=fun h cx=>by rw[eD,bo h,bP cx]
  have ab1:∀(h:¬(2<size/\3<=c.below 8)) (cx:¬(0<vars/\(c.below 8).tmod 2=0)),eD size vars c=(xl (c.next.below 7),c.next.next):=fun h cx=>by rw[eD,bo h,bo cx]
  have uZ:2<size->∀c:bS,c.ok->bJ aQ 72 [.ptr (.obj 401) 0,.int .i64 z,.int .i64 vars] (aN c) fun r aq=>r=(eD z vars c).1.e/\aq=aN (eD z vars c).2:=fun h=>bp z Ω Ω;clear bp;refine bJ.mk mixed sR Z4 afJ (by simp[-aC,-aw]) au.obj fun aL bT=>?_;unfold Oj;unfold aN;simp[-aC,-aw];(refine bc.ob (mz c aH 8) (cn _) (by unfold aN;exact ai) (by unfold aN;exact ai) (by simp[-aC,-aw,ag,aN,Pv.look]) ?_;rintro r aq ⟨rfl,rfl⟩;refine⟨c6 _ _,?_⟩;unfold aN;simp[-aC,-aw,aX]);rw[eZ];(with_reducible repeat' first|((first|apply cN|apply cP|apply cO)<;>intro h<;>try simp[-aC,-aw]at h)|refine av ?_|simp[-aC,-aw,hdiv])
  ·rename_i J;(refine bc.ob (uZ Ω c.next aH.next) (cn _) (by unfold aN;exact ai) (by unfold aN;exact ai) (by simp[-aC,-aw,ag,aN,Pv.look]) ?_;rintro r aq ⟨rfl,rfl⟩;refine⟨c6 _ _,?_⟩;unfold aN;simp[-aC,-aw,aX]);((with_reducible repeat' first|refine av ?_|simp[-aC,-aw,hdiv]|((first|apply cN|apply cP|apply cO)<;>intro h<;>try simp[-aC,-aw]at h))<;>(try exact dr));(refine hf.ob (uZ Ω (eD z vars c.next).2 (zg _ _ _ aH.next)) (cn _) (cn _) (c6 _ _) (by unfold aN;exact ai) (by unfold aN;exact ai) (by simp[-aC,-aw,ag,aN,Pv.look]) ?_;unfold aN;simp[-aC,-aw,aX]);(with_reducible repeat' first|refine av ?_|refine ba (Mi _ _) ?_|refine bb (Mi _ _) ?_|simp[-aC,-aw]);rw[ab6 Ω];(refine bL.at (aN ((eD z vars (eD z vars c.next).2).2)) (.inl rfl) (cn _) (c6 _ _) (by unfold aN;exact ai) (by unfold aN;exact ai) ?_;simp[-aC,-aw,bV,Gx,bg,bh,bf,aN])
  all_goals first
   |(rw[kp Ω ⟨Ω,by assumption⟩];(refine bc.ob (mz c.next aH.next vars) (cn _) (by unfold aN;exact ai) (by unfold aN;exact ai) (by simp[-aC,-aw,ag,aN,Pv.look]) ?_;rintro r aq ⟨rfl,rfl⟩;refine⟨c6 _ _,?_⟩;unfold aN;simp[-aC,-aw,aX]);(with_reducible repeat' first|refine av ?_|refine ba (VQ _) ?_|refine bb (VQ _) ?_|simp[-aC,-aw]);(refine bL.at (aN (c.next.belowC vars)) (.inl rfl) (cn _) (c6 _ _) (by unfold aN;exact ai) (by unfold aN;exact ai) ?_;simp[-aC,-aw,bV,Gx,bg,bh,bf,aN]);done)
   |(rw[ab1 Ω (by rintro⟨I,J⟩;first|omega|contradiction|(simp_all;done))];(refine bc.ob (aaT c.next aH.next) (cn _) (by unfold aN;exact ai) (by unfold aN;exact ai) (by simp[-aC,-aw,ag,aN,Pv.look]) ?_;rintro r aq ⟨rfl,rfl⟩;refine⟨c6 _ _,?_⟩;unfold aN;simp[-aC,-aw,aX]);(with_reducible repeat' first|refine av ?_|simp[-aC,-aw]);(refine bL.at (aN (c.next.next)) (.inl rfl) (cn _) (c6 _ _) (by unfold aN;exact ai) (by unfold aN;exact ai) ?_;simp[-aC,-aw,bV,Gx,bg,bh,bf,aN]);done)
def AI:List Int->Int->Int
 |[],h=>h
 |x::r,h=>AI r (xj .i64 (h*131+x+7) 1073741823)
def wG(d:List Int):bS:=⟨d,0,AI (d.take 4000) (90411+d.length)⟩
def adI(d:List Int)(k:Nat)(st:a6):Prop:=∃(i:Nat) (h:Int),i<=d.length/\i<=4000/\k=d.length-i/\0<=h/\h<=2000000000/\AI ((d.take 4000).drop i) h=AI (d.take 4000) (90411+d.length)/\st=⟨[(0,.slice 1 .no (iz d)),(3,.int .i64 h),(4,.int .i64 i)],[],[],0,[]⟩
theorem aaR(d:List Int)(aP:tg d)(aG:d.length<=10000000):bJ aQ 139 [.slice 1 .no (iz d)] ⟨[],[]⟩ fun r aq=>r= .ptr (.obj 401) 0/\aq=aN (wG d):=by
 have au:gJ ⟨[],[]⟩:=(gJ.of ⟨by intro m;simp[-aC,-aw,Pv.look],by intro m;simp[-aC,-aw,Pv.look]⟩ (by simp[-aC,-aw,aj,ak,ag,Pv.look]) (by simp[-aC,-aw,aj,ak,ag,Pv.look]));refine bJ.mk mixed sR ZY afD (by simp[-aC,-aw]) au.obj fun aL bT=>?_;unfold Oc;simp[-aC,-aw];(with_reducible repeat' first|refine av ?_|simp[-aC,-aw]);refine xB (adI d) d.length _ ⟨by simp[-aC,-aw],by simp[-aC,-aw,oX],by simp[-aC,-aw,oY],by simp[-aC,-aw]⟩ ⟨0,90411+d.length,Ω,Ω,Ω,Ω,Ω,by simp[-aC,-aw],rfl⟩ ?_;rintro k st ⟨i,g,aE,akG,aa,bK,I,JE,rfl⟩ qZ bT;clear qZ bT;have jq:¬(i<d.length/\i<4000)->g=AI (d.take 4000) (90411+d.length):=by intro aJ;rw[List.drop_of_length_le (by simp[-aC,-aw];omega)]at JE;exact JE
 have lC:¬(i<d.length/\i<4000)->wG d=⟨d,0,g⟩:=fun aJ=>by simp[-aC,-aw,wG,jq aJ]
 simp[-aC,-aw];(with_reducible repeat' first|((first|apply cN|apply cP|apply cO)<;>intro h<;>try simp[-aC,-aw]at h)|refine av ?_|simp[-aC,-aw])
 ·have bY:i<d.length:=Ω
  obtain⟨x,ad⟩:∃x,d[i]? =some x:=⟨_,cS bY⟩;have jR:∀h,(iz d)[i]'h= .int .u8 x:=fun h=>by have:=HC ad;rw[cS h]at this;simpa using this
  have oJ:=aP x (fq ad);have hw:iw.wrap x=x:=lS _ Ω;have hZ:=Hx (g*131+x+7) 1073741823 Ω Ω;simp[-aC,-aw,HC ad,hw];(with_reducible repeat' first|refine av ?_|simp[-aC,-aw]);refine bU.next (d.length-(i+1)) Ω ⟨i+1,_,Ω,Ω,rfl,hZ.1,Ω,?_,rfl⟩ ⟨by simp[-aC,-aw],by simp[-aC,-aw,oX],by simp[-aC,-aw,oY],by simp[-aC,-aw]⟩;rw[<-JE,uk (l:=d.take 4000) (i:=i) (by simp[-aC,-aw];omega)];have:(d.take 4000)[i]'(by simp[-aC,-aw];omega)=x:=by have:=ad;rw[cS bY]at this;simpa using this
  rw[this,AI]
 all_goals rw[lC Ω]
 all_goals refine bL.new (aN ⟨d,0,g⟩) (.inl rfl) (cn _) (by simp[-aC,-aw,gE]) (by unfold aN;exact ai) (by unfold aN;exact ai) ?_
 all_goals simp[-aC,-aw,bV,T1,bg,bh,bf,aN,ag,Pv.look]
def Hz(o:a1 T):al:= .tuple [(o.getD .nil).e,.bool o.isSome]
theorem air(n:Int):ct aQ 270 [(T.var n).e] (.bool (decide (0<=n/\n<=100000))):=by
 have h:=Mj 1 (aV.mk 1 n [] []) (by simp[aV.sz,aV.szL]);have e:fL (aV.mk 1 n [] [])=decide (0<=n/\n<=100000):=by have:=AK (.var n);simpa[T.tm,T.ok]using this
 rw[e]at h;exact h
theorem aiq(n:Int):ct aQ 270 [(T.num n).e] (.bool (T.ok (.num n))):=by have h:=Mj 1 (aV.mk 3 n [] []) (by simp[aV.sz,aV.szL]);have e:fL (aV.mk 3 n [] [])=T.ok (.num n):=AK (.num n);rw[e]at h;exact h
theorem WM(r:List ah):hS (63::r)=match gw r with|some n=>if 0<=n/\n<=100000 then some (.var n)else none|none=>none:=by
 unfold hS fs;simp only;cases gw r with
 |none=>rfl
 |some n=>
  simp only;by_cases h:0<=n/\n<=100000
  ·rw[bP h];simp only;rw[bP (by simp[T.ok,h])]
  ·rw[bo h]
theorem WL{w:List ah}(h:∀r,w≠63::r):hS w=if fA w then some (.sym w)else match gw w with|some n=>if T.ok (.num n)then some (.num n)else none|none=>none:=by
 unfold hS;have:fs w=if fA w then some (.sym w)else(gw w).map .num:=by
  unfold fs;split
  ·rename_i r;exact absurd rfl (h r)
  ·rfl
 rw[this];by_cases aJ:fA w=true
 ·rw[bP aJ,bP aJ];simp[T.ok,aJ]
 ·rw[bo aJ,bo aJ];cases gw w with
  |none=>rfl
  |some n=>rfl
theorem aeF{r:List ah}:fA (63::r)=false:=by
 cases h:fA (63::r)with
 |false=>rfl
 |true=>obtain⟨x,dh,e,I,_⟩:=yo h;cases e;revert I;decide
theorem ah7(w:List ah)(hw:w≠[]):ct aQ 251 [.str w] (Hz (hS w)):=by
 have cU:=gZ w;have jF:=G7 w;unfold Hz;obtain⟨c,r,rfl⟩:∃c r,w=c::r:=by
  cases w with
  |nil=>exact absurd rfl hw
  |cons c r=>exact⟨c,r,rfl⟩
 have ya:(0:Int)<(r.length:Int)+1:=Ω
 have wq:(1:Int)<=(r.length:Int)+1:=Ω
 by_cases zz:c=63
 ·subst zz;rw[aeF]at cU;have cy:=Ml r;rw[WM];unfold Ao at cy;cases bn:gw r with
  |none=>rw[bn]at cy;simp only[Option.getD_none,um]at cy⊢;clear jF;refine bW hE xD yr fun aL=>?_;unfold vQ;clear aL;exact cB
  |some n=>
   rw[bn]at cy;have iq:=air n;by_cases aJ:0<=n/\n<=100000
   ·rw[nD aJ]at iq;simp only[bP aJ,qE,Option.isSome_some]at cy⊢;clear jF aJ;refine bW hE xD yr fun aL=>?_;unfold vQ;clear aL;exact cB
   ·rw[decide_eq_false aJ]at iq;simp only[bo aJ,qE,Option.isSome_some,Option.getD_none,um]at cy⊢;clear jF aJ;refine bW hE xD yr fun aL=>?_;unfold vQ;clear aL;exact cB
 ·have ao:((c.toNat:Int)==63)=false:=pG (d:=63) zz;rw[WL fun dh e=>zz (by cases e;rfl)];cases iD:fA (c::r)
  ·rw[iD]at cU;have cy:=Ml (c::r);unfold Ao at cy;rw[bo Ψ];cases bn:gw (c::r)with
   |none=>rw[bn]at cy;simp only[Option.getD_none,um]at cy⊢;clear jF;refine bW hE xD yr fun aL=>?_;unfold vQ;clear aL;exact cB
   |some n=>
    rw[bn]at cy;have iq:=aiq n;cases az:T.ok (.num n)
    ·rw[az]at iq;simp only[az,kE,if_false,qE,Option.isSome_some,Option.getD_none,um]at cy⊢;clear jF;refine bW hE xD yr fun aL=>?_;unfold vQ;clear aL;exact cB
    ·rw[az]at iq;simp only[az,if_true,qE,Option.isSome_some]at cy⊢;clear jF;refine bW hE xD yr fun aL=>?_;unfold vQ;clear aL;exact cB
  ·rw[iD]at cU;rw[bP rfl];simp only[qE,Option.isSome_some];refine bW hE xD yr fun aL=>?_;unfold vQ;clear aL;exact cB
def Bb(l:List T)(j:Int)(t:T):a6:=⟨[(0,.slice 4 .no (l.map T.e)),(3,.ptr (.loc 0) 0),(4,.ptr (.loc 1) 0),(5,.int .i64 j)],[(.loc 0,cells t.e),(.loc 1,[.int .i64 0,.int .i64 0,.str [],.slice 4 .nil []])],[],2,[]⟩
theorem VO(l:List T)(t:T):ct aQ 252 [.slice 4 .no (l.map T.e),t.e] (gi l t).e:=by
 refine bW hE Z6 afL fun aL=>?_;unfold Om;have ao:l.length<=bs:=by simp[lY,kn,kX]at aL;exact aL.1
 have xQ:aZ ((l.length:Int)-1):=by unfold aZ;unfold bs at ao;omega
 clear aL;simp;(with_reducible repeat' first|refine av ?_|simp[xQ]);refine gf (fun x:Int×T=>Bb l x.1 x.2) (fun x=>(x.1+1).toNat) (fun x=> -1<=x.1/\x.1<l.length/\gi (l.take (x.1+1).toNat) x.2=gi l t) ((l.length:Int)-1,t) (by simp[Bb];exact cX) ⟨by simp;omega,by simp;omega,Ψ⟩ ?_;rintro⟨j,u⟩ ⟨E8,k1,ig⟩ _;simp only at E8 k1 ig;by_cases iK:0<=j
 ·obtain⟨n,rfl⟩:∃n:Nat,j=n:=⟨j.toNat,Ω⟩;have aJ:n<l.length:=Ω
  obtain⟨x,ad,gr⟩:=gp aJ;have k2:aZ ((n:Int)-1):=by unfold aZ;unfold bs at ao;omega
  have cy:=Mi x u;have eZ: -1<=(n:Int)-1/\(n:Int)-1<l.length/\gi (l.take ((n:Int)-1+1).toNat) (.pair x u)=gi l t:=by refine⟨Ω,Ω,?_⟩;rw[<-ig,show((n:Int)-1+1).toNat=n by omega,show((n:Int)+1).toNat=n+1 by omega,kV,ad,Sr];rfl
  clear ig;simp[Bb];(with_reducible repeat' first|refine av ?_|refine ba cy ?_|refine bb cy ?_|simp[aJ,gr,ad,k2]);refine bU.whl ((n:Int)-1,.pair x u) (by simp<;>omega) eZ (by simp[Bb];exact cX)
 ·have:j= -1:=Ω
  subst this;have e:u=gi l t:=by simpa[gi]using ig
  subst e;clear ig;simp[Bb];exact cB
theorem GL{l rest:List (List ah)}{j:Nat}(h:rest<:+l.drop j):rest=l.drop (l.length-rest.length)/\rest.length<=l.length-j:=by
 have I:rest<:+l:=h.trans (List.drop_suffix j l);have J:l.drop (l.length-rest.length)=rest:=by obtain⟨p,rfl⟩:=I;simp
 exact⟨J.symm,by have:=h.length_le;simpa using this⟩
def qp(l:List (List ah))(i:Nat):Int:=match l[i]? with
 |some w=>if w=[40]\/w=[41]\/w=[46]then 0 else i+1
 |none=>0
def kk(l:List (List ah))(k:Int)(o:a1 (T×List (List ah))):al:=match o with
 |some (t,r)=>.tuple [t.e,.int .i64 (l.length-r.length:Nat),.bool true]
 |none=>.tuple [T.nil.e,.int .i64 k,.bool false]
def qN(l:List (List ah))(x:List T×Nat×Nat):a6:=⟨[(0,.slice 1 .no (cl l)),(1,.int .i64 x.2.1),(4,.ptr (.loc 0) 0),(9,.slice 4 (.own (.loc 1)) (x.1.map T.e))],[(.loc 0,[.int .i64 0,.int .i64 0,.str [],.slice 4 .nil []])],[(.loc 1,⟨x.1.length,40,4,none⟩)],2,[]⟩
theorem vg{a b:List ah}(h:a≠b):(a==b)=false:=by simpa using h
theorem re{a b:List ah}(h:a≠b):(a !=b)=true:=by simpa using h
set_option maxRecDepth 8000 in
theorem ah8(l:List (List ah))(aG:l.length<=100000)(hw:∀w∈l,w≠[]):∀n i:Nat,i<=l.length->2*(l.length-i)+1<=n->ct aQ 209 [.slice 1 .no (cl l),.int .i64 i] (kk l (qp l i) (rd hS n (l.drop i))):=by
 intro n;induction n using Nat.strongRecOn with
 |_ n bp=>
 intro i h2 aJ;obtain⟨n,rfl⟩:∃m,n=m+1:=⟨n-1,Ω⟩;rcases jJ h2 with rfl|aE
 ·have e:kk l (qp l l.length) (rd hS (n+1) (l.drop l.length))= .tuple [T.nil.e,.int .i64 0,.bool false]:=by rw[kG];simp[rd,kk,qp]
  rw[e];clear bp;refine bW hE zo Al fun aL=>?_;unfold xr;clear aL;exact cB
 obtain⟨w,ad⟩:∃v,l[i]? =some v:=⟨_,cS aE⟩;have eR:∀h,((cl l)[i]'h)= .str w:=fun h=>by rw[mc aE];rw[cS aE]at ad;rw[hd ad]
 have tL:=hw w (fq ad);have iK:¬(l.length:Int)<=i:=Ω
 rw[fH ad];by_cases e1:w=[41]
 ·subst e1;have e:kk l (qp l i) (rd hS (n+1) ([41]::l.drop (i+1)))= .tuple [T.nil.e,.int .i64 0,.bool false]:=by simp[rd,kk,qp,ad]
  rw[e];clear bp;refine bW hE zo Al fun aL=>?_;unfold xr;clear aL;exact cB
 by_cases pe:w=[46]
 ·subst pe;have e:kk l (qp l i) (rd hS (n+1) ([46]::l.drop (i+1)))= .tuple [T.nil.e,.int .i64 0,.bool false]:=by simp[rd,kk,qp,ad]
  rw[e];clear bp;refine bW hE zo Al fun aL=>?_;unfold xr;clear aL;exact cB
 have rb:=vg e1;have FZ:=vg pe;have cb:aZ ((i:Int)+1):=by unfold aZ;omega
 by_cases oA:w=[40];rotate_left
 ·have su:=re oA;have eF:=ah7 w tL;have aB:qp l i=(i:Int)+1:=by unfold qp;rw[ad];simp[oA,e1,pe]
  have aU:rd hS (n+1) (w::l.drop (i+1))=(hS w).map fun t=>(t,l.drop (i+1)):=by simp[rd,oA,e1,pe]
  rw[aB,aU];unfold Hz at eF;cases bM:hS w with
  |none=>rw[bM]at eF;simp only[Option.map_none,kk,Option.getD_none,um]at eF⊢;clear bp;refine bW hE zo Al fun aL=>?_;unfold xr;clear aL;simp;((with_reducible repeat' first|refine av ?_|refine ba eF ?_|refine bb eF ?_|simp[iK,aE,eR,ad,su,rb,FZ,cb]|((first|apply cN|apply cP|apply cO)<;>intro h<;>try simp at h))<;>(try exact dr));all_goals simp[b8,wU,bg,bh,bf]
  |some t=>
   rw[bM]at eF;have bn:((l.length-(l.drop (i+1)).length:Nat):Int)=(i:Int)+1:=by rw[hG];omega
   simp only[oa,kk,qE,Option.isSome_some,bn]at eF⊢;clear bp bn;refine bW hE zo Al fun aL=>?_;unfold xr;clear aL;simp;((with_reducible repeat' first|refine av ?_|refine ba eF ?_|refine bb eF ?_|simp[iK,aE,eR,ad,su,rb,FZ,cb]|((first|apply cN|apply cP|apply cO)<;>intro h<;>try simp at h))<;>(try exact dr));all_goals simp[b8,wU,bg,bh,bf]
 subst oA;have aB:qp l i=0:=by unfold qp;rw[ad];simp
 have aU:rd hS (n+1) ([40]::l.drop (i+1))=b5 hS n (l.drop (i+1)) []:=by simp[rd]
 rw[aB,aU];obtain⟨R,bH⟩:∃R,R=kk l 0 (b5 hS n (l.drop (i+1)) []):=⟨_,rfl⟩;rw[<-bH];have nI:ak (fun _=>dD) R:=by rw[bH];unfold kk;split<;>simp[ak,aj]
 refine bW hE zo Al (fun aL=>?_) (hr:=nI);unfold xr;clear aL;simp;((with_reducible repeat' first|refine av ?_|simp[iK,aE,eR,ad,rb,FZ,cb]|((first|apply cN|apply cP|apply cO)<;>intro h<;>try simp at h))<;>(try exact dr));refine gf (qN l) (fun x=>l.length-x.2.1) (fun x=>x.2.1<=l.length/\2*(l.length-x.2.1)+2<=x.2.2/\x.2.2<=n/\kk l 0 (b5 hS x.2.2 (l.drop x.2.1) x.1)=R/\x.1.length<=x.2.1) ([],i+1,n) (by simp[qN];exact cX) ⟨aE,by simp;omega,c7 _,bH.symm,Ψ⟩ ?_;rintro⟨acc,j,k⟩ ⟨aD,aa,k3,dR,mA⟩ _;simp only at aD aa k3 dR mA;clear bH cb eR ad tL iK rb FZ aB aU e1 pe;obtain⟨k,rfl⟩:∃m,k=m+1:=⟨k-1,Ω⟩;rcases jJ aD with rfl|fJ
 ·rw[kG]at dR;simp only[b5,kk]at dR;subst dR;clear bp;simp[qN];((with_reducible repeat' first|refine av ?_|simp|((first|apply cN|apply cP|apply cO)<;>intro h<;>try simp at h))<;>(try exact dr));all_goals simp[b8,wU,bg,bh,bf]
 obtain⟨v,aK⟩:∃v,l[j]? =some v:=⟨_,cS fJ⟩;have gh:∀h,((cl l)[j]'h)= .str v:=fun h=>by rw[mc fJ];rw[cS fJ]at aK;rw[hd aK]
 have h3:aZ ((j:Int)+1):=by unfold aZ;omega
 have Cb:¬(l.length:Int)<=j:=Ω
 rw[fH aK]at dR;by_cases e1:v=[41]
 ·subst e1;have bn:((l.length-(l.drop (j+1)).length:Nat):Int)=(j:Int)+1:=by rw[hG];omega
  have he:b5 hS (k+1) ([41]::l.drop (j+1)) acc=some (gi acc .nil,l.drop (j+1)):=by simp[b5]
  rw[he]at dR;simp only[kk,bn]at dR;subst dR;have zZ:=VO acc .nil;clear bp;simp[qN];exact cB
 have rb:=vg e1;have nn:=re e1;by_cases pe:v=[46]
 ·subst pe;have dP:=bp k Ω (j+1) Ω Ω;have IX:((j+1:Nat):Int)=(j:Int)+1:=Ω
  rw[IX]at dP;cases eb:rd hS k (l.drop (j+1))with
  |none=>
   rw[eb]at dP;have he:b5 hS (k+1) ([46]::l.drop (j+1)) acc=none:=by simp[b5,eb]
   rw[he]at dR;simp only[kk]at dR dP;subst dR;clear bp;simp[qN];exact cB
  |some tr=>
   obtain⟨t,rest⟩:=tr;rw[eb]at dP;obtain⟨gK,nT⟩:=GL (tX k _ _ _ eb).1;obtain⟨p,bn⟩:∃p,p=l.length-rest.length:=⟨_,rfl⟩;have fx:p<=l.length:=Ω
   simp only[kk,<-bn]at dP;rw[<-bn]at gK;by_cases zC:acc=[]
   ·have he:b5 hS (k+1) ([46]::l.drop (j+1)) acc=none:=by simp[b5,zC]
    rw[he]at dR;simp only[kk]at dR;subst dR;subst zC;clear bp;simp[qN];((with_reducible repeat' first|refine av ?_|refine ba dP ?_|refine bb dP ?_|simp[fJ,gh,aK,Cb,h3,nn]|((first|apply cN|apply cP|apply cO)<;>intro h<;>try simp at h))<;>(try exact dr));all_goals simp[b8,wU,bg,bh,bf]
   have QE:((acc.length:Int)==0)=false:=jy.2 (by have:=sY.2 zC;omega);rcases jJ fx with hpe|fx
   ·have he:b5 hS (k+1) ([46]::l.drop (j+1)) acc=none:=by
     have:rest=[]:=by rw[gK,hpe,kG]
     simp[b5,eb,zC,this]
    rw[he]at dR;simp only[kk]at dR;subst dR;rw[hpe]at dP;clear bp;simp[qN];exact cB
   obtain⟨u,hu⟩:∃v,l[p]? =some v:=⟨_,cS fx⟩;have ki:∀h,((cl l)[p]'h)= .str u:=fun h=>by rw[mc fx];rw[cS fx]at hu;rw[hd hu]
   have Rh:¬(l.length:Int)<=p:=Ω
   have Rf:aZ ((p:Int)+1):=by unfold aZ;omega
   rw[fH hu]at gK;by_cases JO:u=[41]
   ·subst JO;have Jw:((l.length-(l.drop (p+1)).length:Nat):Int)=(p:Int)+1:=by rw[hG];omega
    have he:b5 hS (k+1) ([46]::l.drop (j+1)) acc=some (gi acc t,l.drop (p+1)):=by simp[b5,eb,zC,gK]
    rw[he]at dR;simp only[kk,Jw]at dR;subst dR;have zZ:=VO acc t;clear bp;simp[qN];((with_reducible repeat' first|refine av ?_|refine ba dP ?_|refine bb dP ?_|refine ba zZ ?_|refine bb zZ ?_|simp[fJ,gh,aK,Cb,h3,nn,QE,fx,ki,hu,Rh,Rf]|((first|apply cN|apply cP|apply cO)<;>intro h<;>try simp at h))<;>(try exact dr));all_goals simp[b8,wU,bg,bh,bf]
   ·have aeC:=re JO;have he:b5 hS (k+1) ([46]::l.drop (j+1)) acc=none:=by simp[b5,eb,zC,gK,JO]
    rw[he]at dR;simp only[kk]at dR;subst dR;clear bp;simp[qN];((with_reducible repeat' first|refine av ?_|refine ba dP ?_|refine bb dP ?_|simp[fJ,gh,aK,Cb,h3,nn,QE,fx,ki,hu,Rh,Rf,aeC]|((first|apply cN|apply cP|apply cO)<;>intro h<;>try simp at h))<;>(try exact dr));all_goals simp[b8,wU,bg,bh,bf]
 have Su:=re pe;have dP:=bp k Ω j Ω Ω;rw[fH aK]at dP;have he:b5 hS (k+1) (v::l.drop (j+1)) acc=match rd hS k (v::l.drop (j+1))with
   |some (t,dh)=>b5 hS k dh (acc++[t])
   |none=>none:=by
  conv=>lhs;unfold b5
  rw[bo e1,bo pe];cases rd hS k (v::l.drop (j+1))<;>rfl
 rw[he]at dR;cases eb:rd hS k (v::l.drop (j+1))with
 |none=>rw[eb]at dP dR;simp only[kk]at dR dP;subst dR;clear bp he;generalize qp l j=q at dP;simp[qN];((with_reducible repeat' first|refine av ?_|refine ba dP ?_|refine bb dP ?_|simp[fJ,gh,aK,Cb,nn,Su]|((first|apply cN|apply cP|apply cO)<;>intro h<;>try simp at h))<;>(try exact dr));all_goals simp[b8,wU,bg,bh,bf]
 |some tr=>
  obtain⟨t,rest⟩:=tr;rw[eb]at dP dR;obtain⟨gK,nT⟩:=GL (j:=j) (by rw[fH aK];exact(tX k _ _ _ eb).1);have Cr:=(tX k _ _ _ eb).2;have Ro:rest.length<l.length-j:=by simp at Cr;omega
  obtain⟨p,bn⟩:∃p,p=l.length-rest.length:=⟨_,rfl⟩;simp only[kk,<-bn]at dP;simp only at dR;rw[<-bn]at gK;rw[gK]at dR;have hZ:acc.length+1<=bs:=by unfold bs;omega
  clear bp he;simp[qN];((with_reducible repeat' first|refine av ?_|refine ba dP ?_|refine bb dP ?_|simp[fJ,gh,aK,Cb,nn,Su,hZ]|((first|apply cN|apply cP|apply cO)<;>intro h<;>try simp at h))<;>(try exact dr));refine bU.whl (acc++[t],p,k) (by show l.length-p<l.length-j;omega) ⟨by show p<=l.length;omega,by show 2*(l.length-p)+2<=k;omega,by show k<=n;omega,dR,by simp;omega⟩ (by simp[qN];exact⟨by simp[fresh,aj,ak,bj,ag,Pv.look,bC],cg (by simp[fresh,aj,ak,bj,ag,Pv.look,bC]),ch (by simp[fresh,aj,ak,cc,ag,Pv.look,bC]),Ψ⟩)
def iE(g:Gm)(room:Int):Int:=if g.shape=true/\(g.sz:Int)<=room then g.sz else-1
theorem wF{g:Gm}{room:Int}(h:g.shape=true)(J:(g.sz:Int)<=room):iE g room=g.sz:=bP ⟨h,J⟩
theorem wE{g:Gm}{room:Int}(h:g.shape=false):iE g room= -1:=bo fun J=>by rw[h]at J;cases J.1
theorem aeH{g:Gm}{room:Int}(h:room<g.sz):iE g room= -1:=bo fun J=>Ω
theorem qu(g:Gm):g.shape=(g.ts.all aV.fits&&(
  if 0<=g.kind/\g.kind<=6 then g.name==[]&&g.gs.isEmpty&&decide ((g.ts.length:Int)=lb g.kind)&&(g.kind !=6||(match g.ts with|x::_=>decide (x.kind=2)|[]=>false))
  else if g.kind=9 then eS g.name&&g.gs.isEmpty&&decide (g.ts.length<=4)
  else if g.kind=7\/g.kind=8 then g.name==[]&&g.ts.isEmpty&&decide (g.gs.length<=8)&&g.gs.all Gm.shape
  else if g.kind=10 then g.name==[]&&g.ts.isEmpty&&(match g.gs with|[x]=>decide (x.kind=9)|_=>false)&&g.gs.all Gm.shape
  else false)):=by
 have xO:∀l:List Gm,hO l=l.all Gm.shape:=by
  intro l;induction l with
  |nil=>rfl
  |cons x l bp=>simp[hO,bp]
 cases g;simp only[Gm.shape,Gm.kind,Gm.name,Gm.ts,Gm.gs,xO];rfl
theorem ud(g:Gm):g.sz=1+(g.gs.map Gm.sz).sum:=by
 have xO:∀l:List Gm,jQ l=(l.map Gm.sz).sum:=by
  intro l;induction l with
  |nil=>rfl
  |cons x l bp=>simp[jQ,bp]
 cases g;simp only[Gm.sz,Gm.gs,xO]
abbrev LV:List (Int×al):=nG 6 (.int .i64 2) (nG 5 (.int .i64 1) (nG 4 (.int .i64 1) (nG 3 (.int .i64 2) (nG 2 (.int .i64 2) []))))
theorem sr(f:aO->a1 (List al))(m:aO)(k:Int)(hm:f m=some (lJ LV)):oN f .i (.int .i64 0) false (.gmap m) (.int .i64 k)=some (True,.int .i64 (lb k)):=by
 rw[np _ _ _ _ false k hm];by_cases J:k=2
 ·subst J;rfl
 by_cases aA:k=3
 ·subst aA;rfl
 by_cases aS:k=4
 ·subst aS;rfl
 by_cases bG:k=5
 ·subst bG;rfl
 by_cases cq:k=6
 ·subst cq;rfl
 have:vO k LV=none:=by have e:LV=[(2,.int .i64 2),(3,.int .i64 2),(4,.int .i64 1),(5,.int .i64 1),(6,.int .i64 2)]:=rfl;rw[e];simp[vO,J,aA,aS,bG,cq]
 rw[this];simp[lb,J,aA,aS,bG,cq]
theorem adY(k:Int):k=0\/k=1\/k=2\/k=3\/k=4\/k=5\/k=6\/k=7\/k=8\/k=9\/k=10\/(k<0\/10<k):=Ω
theorem Vr{α:Type}{l:List α}(h:l.length=2):∃x y,l=[x,y]:=by
 match l,h with
 |[x,y],_=>exact⟨x,y,rfl⟩
theorem aa8(g:Gm){room:Int}(h:room<1):ct aQ 117 [g.e,.int .i64 room] (.int .i64 (-1)):=by refine bW kU rW sy fun aL=>?_;unfold qS;clear aL;exact cB
theorem abd(g:Gm){room:Int}(h:¬room<1)(aI:g.ts.all aV.fits=false):ct aQ 117 [g.e,.int .i64 room] (.int .i64 (-1)):=by have cW:=ug g.ts;rw[aI]at cW;refine bW kU rW sy fun aL=>?_;unfold qS;clear aL;exact cB
theorem aa6(g:Gm){room:Int}(h:¬room<1)(aI:g.ts.all aV.fits=true)(aa:0<=g.kind/\g.kind<=6):ct aQ 117 [g.e,.int .i64 room] (.int .i64 (if g.shape then 1 else-1)):=by
 have cW:=ug g.ts;rw[aI]at cW;generalize bH:(if g.shape then(1:Int)else-1)=R;rw[qu,aI,bP aa,Bool.true_and]at bH;have pg:g.kind=0\/g.kind=1\/g.kind=2\/g.kind=3\/g.kind=4\/g.kind=5\/g.kind=6:=Ω
 have ao:∀l:List Gm,((l.length:Int) !=0)= !l.isEmpty:=fun l=>by simp only[bne,FQ]
 clear aa aI;rcases pg with aa|aa|aa|aa|aa|aa|aa;all_goals
  rw[aa]at bH
  simp[lb]at bH
  refine bW kU rW sy fun aL=>?_;unfold qS
  clear aL
  simp
  simp[aa]
  ((with_reducible repeat' first|refine av ?_|refine ba cW ?_|refine bb cW ?_|simp[h,aa,sr,lb,ao,-np]|((first|apply cN|apply cP|apply cO)<;>intro h<;>try simp at h))<;>(try exact dr))
  all_goals try(simp[b8,tV,bg,bh,bf];simp_all;done)
  all_goals
   obtain⟨x,y,e⟩:∃x y,g.ts=[x,y]:=Vr Ω
   simp only[e]at bH⊢
   simp
   ((with_reducible repeat' first|refine av ?_|simp|((first|apply cN|apply cP|apply cO)<;>intro h<;>try simp at h))<;>(try exact dr))
   all_goals(simp[b8,tV,bg,bh,bf];simp_all;done)
theorem aa5(g:Gm){room:Int}(h:¬room<1)(aI:g.ts.all aV.fits=true)(aa:g.kind=9):ct aQ 117 [g.e,.int .i64 room] (.int .i64 (if g.shape then 1 else-1)):=by
 have cW:=ug g.ts;rw[aI]at cW;have nm:=Md g.name;generalize bH:(if g.shape then(1:Int)else-1)=R;have he:g.shape=(eS g.name&&g.gs.isEmpty&&decide (g.ts.length<=4)):=by rw[qu,aI,aa];rfl
 rw[he]at bH;clear he;have ao:∀l:List Gm,((l.length:Int) !=0)= !l.isEmpty:=fun l=>by simp only[bne,FQ]
 have aH:decide ((4:Int)<g.ts.length)= !decide (g.ts.length<=4):=by
  by_cases h:g.ts.length<=4
  ·rw[nD h];simp;omega
  ·rw[decide_eq_false h];simp;omega
 cases aE:eS g.name;all_goals
  rw[aE]at nm bH
  refine bW kU rW sy fun aL=>?_;unfold qS
  clear aL
  simp
  simp[aa]
  ((with_reducible repeat' first|refine av ?_|refine ba cW ?_|refine bb cW ?_|refine ba nm ?_|refine bb nm ?_|simp[h,aa,sr,lb,ao,-np]|((first|apply cN|apply cP|apply cO)<;>intro h<;>try simp at h))<;>(try exact dr))
  all_goals(simp[b8,tV,bg,bh,bf];simp_all)
  all_goals omega
theorem abc(g:Gm){room:Int}(h:¬room<1)(aa:g.kind<0\/10<g.kind):ct aQ 117 [g.e,.int .i64 room] (.int .i64 (-1)):=by
 have cW:=ug g.ts;have e:∀n:Int,0<=n->n<=10->(g.kind==n)=false:=fun n I J=>jy.2 Ω;have mY:=e 0 Ω Ω;have aB:=e 1 Ω Ω;have aU:=e 2 Ω Ω;have b1:=e 3 Ω Ω;have dN:=e 4 Ω Ω;have hJ:=e 5 Ω Ω;have hx:=e 6 Ω Ω;have mw:=e 7 Ω Ω;have ou:=e 8 Ω Ω;have Yb:=e 9 Ω Ω;have Ye:=e 10 Ω Ω;clear e aa;cases aI:g.ts.all aV.fits;all_goals
  rw[aI]at cW
  refine bW kU rW sy fun aL=>?_;unfold qS
  clear aL
  simp
  (with_reducible repeat' first|refine av ?_|refine ba cW ?_|refine bb cW ?_|simp[h,sr,mY,aB,aU,b1,dN,hJ,hx,mw,ou,Yb,Ye,-np])
  simp[b8,tV,bg,bh,bf]
set_option maxRecDepth 8000 in
theorem aa9(g:Gm){room:Int}(h:¬room<1)(aI:g.ts.all aV.fits=true)(aa:g.kind=7\/g.kind=8\/g.kind=10)(aJ:g.name.isEmpty=false):ct aQ 117 [g.e,.int .i64 room] (.int .i64 (-1)):=by
 have cW:=ug g.ts;rw[aI]at cW;rcases aa with aa|aa|aa;all_goals
  refine bW kU rW sy fun aL=>?_;unfold qS
  clear aL
  simp
  (with_reducible repeat' first|refine av ?_|refine ba cW ?_|refine bb cW ?_|simp[h,sr,aa,aJ,-np])
  simp[b8,tV,bg,bh,bf]
set_option maxRecDepth 8000 in
theorem abe(g:Gm){room:Int}(h:¬room<1)(aI:g.ts.all aV.fits=true)(aa:g.kind=7\/g.kind=8\/g.kind=10)(aJ:g.name.isEmpty=true)(J:¬g.ts.length=0):ct aQ 117 [g.e,.int .i64 room] (.int .i64 (-1)):=by
 have cW:=ug g.ts;rw[aI]at cW;have aA:((g.ts.length:Int) !=0)=true:=by simpa using J
 rcases aa with aa|aa|aa;all_goals
  refine bW kU rW sy fun aL=>?_;unfold qS
  clear aL
  simp
  (with_reducible repeat' first|refine av ?_|refine ba cW ?_|refine bb cW ?_|simp[h,sr,aa,aJ,aA,-np])
  simp[b8,tV,bg,bh,bf]
set_option maxRecDepth 8000 in
theorem aa7(g:Gm){room:Int}(h:¬room<1)(aI:g.ts.all aV.fits=true)(aa:g.kind=7\/g.kind=8)(aJ:g.name.isEmpty=true)(J:g.ts.length=0)(aS:¬g.gs.length<=8):ct aQ 117 [g.e,.int .i64 room] (.int .i64 (-1)):=by
 have cW:=ug g.ts;rw[aI]at cW;have bG:(8:Int)<g.gs.length:=Ω
 rcases aa with aa|aa;all_goals
  refine bW kU rW sy fun aL=>?_;unfold qS
  clear aL
  simp
  (with_reducible repeat' first|refine av ?_|refine ba cW ?_|refine bb cW ?_|simp[h,sr,aa,aJ,J,bG,-np])
  simp[b8,tV,bg,bh,bf]
set_option maxRecDepth 8000 in
theorem aba(g:Gm){room:Int}(h:¬room<1)(aI:g.ts.all aV.fits=true)(aa:g.kind=10)(aJ:g.name.isEmpty=true)(J:g.ts.length=0)(aS:¬g.gs.length=1):ct aQ 117 [g.e,.int .i64 room] (.int .i64 (-1)):=by
 have cW:=ug g.ts;rw[aI]at cW;have bG:((g.gs.length:Int) !=1)=true:=by simp;omega
 refine bW kU rW sy fun aL=>?_;unfold qS;clear aL;simp;(with_reducible repeat' first|refine av ?_|refine ba cW ?_|refine bb cW ?_|simp[h,sr,aa,aJ,J,bG,-np]);simp[b8,tV,bg,bh,bf]
set_option maxRecDepth 8000 in
theorem abb(g:Gm){room:Int}(h:¬room<1)(aI:g.ts.all aV.fits=true)(aa:g.kind=10)(aJ:g.name.isEmpty=true)(J:g.ts.length=0){x:Gm}(aS:g.gs=[x])(bG:¬x.kind=9):ct aQ 117 [g.e,.int .i64 room] (.int .i64 (-1)):=by
 have cW:=ug g.ts;rw[aI]at cW;have cq:(x.kind !=9)=true:=by simpa using bG
 refine bW kU rW sy fun aL=>?_;unfold qS;clear aL;simp;(with_reducible repeat' first|refine av ?_|refine ba cW ?_|refine bb cW ?_|simp[h,sr,aa,aJ,J,aS,cq,-np]);simp[b8,tV,bg,bh,bf]
theorem LS{l:List Gm}{i:Nat}{x:Gm}(h:l[i]? =some x):((l.take (i+1)).map Gm.sz).sum=((l.take i).map Gm.sz).sum+x.sz:=by rw[kV,h];simp
theorem LQ{l:List Gm}(i:Nat):((l.take i).map Gm.sz).sum<=(l.map Gm.sz).sum:=by
 conv=>rhs;rw[<-List.take_append_drop i l]
 rw[List.map_append,List.sum_append];omega
def ml(g:Gm)(room:Int)(i:Nat)(n:Int):a6:=⟨[(1,.int .i64 room),(6,.int .i64 n),(124,.slice 4 .no (g.gs.map Gm.e)),(125,.int .i64 g.gs.length),(126,.int .i64 i)],[],[],0,[]⟩
def yY(g:Gm)(room:Int)(i:Nat)(n:Int):Prop:=n=1+(((g.gs.take i).map Gm.sz).sum:Nat)/\oL Gm.shape g.gs i ()/\n<=room
set_option maxRecDepth 8000 in
theorem Qp(g:Gm){room:Int}(h:¬room<1)(hr:room<=1000)(aI:g.ts.all aV.fits=true)(aa:g.kind=7\/g.kind=8\/g.kind=10)(aJ:g.name.isEmpty=true)(J:g.ts.length=0)(aS:g.kind≠10->g.gs.length<=8)(bG:g.kind=10->∃x,g.gs=[x]/\x.kind=9)
  (gA:g.shape=g.gs.all Gm.shape) (bp:∀x∈g.gs,∀r:Int,-1000<=r/\r<=1000->ct aQ 117 [x.e,.int .i64 r] (.int .i64 (iE x r))):ct aQ 117 [g.e,.int .i64 room] (.int .i64 (iE g room)):=by
 have cW:=ug g.ts;rw[aI]at cW;have Jc:g.gs.length<=1000:=by
  rcases aa with aa|aa|aa
  ·have:=aS Ω;omega
  ·have:=aS Ω;omega
  ·obtain⟨x,ad,_⟩:=bG aa;rw[ad];simp
 have dW:g.kind≠10->¬(8:Int)<g.gs.length:=fun e=>by have:=aS e;omega
 rcases aa with aa|aa|aa;all_goals
  refine bW kU rW sy fun aL=>?_;unfold qS
  clear aL
  simp
 ·have fZ:=dW Ω;clear aS bG dW;(with_reducible repeat' first|refine av ?_|refine ba cW ?_|refine bb cW ?_|simp[h,sr,aa,aJ,J,fZ,-np]);refine gP (ml g room) g.gs.length (yY g room) 1 (by simp[ml];exact cX) ⟨Ψ,fun k b aa=>Ω,Ω⟩ (fun n aD _=>?_) (fun i n aE aD _=>?_)
  ·obtain⟨nl,lF,CH⟩:=aD;rw[kH]at nl;have:iE g room=n:=by rw[wF (by rw[gA];exact lF.fin) (by rw[ud];omega),ud];omega
   rw[this];clear nl lF bp gA this;simp[ml];exact cB
  ·obtain⟨y,bB,ih⟩:=gp aE;obtain⟨nl,lF,CH⟩:=aD;have oH:=LS bB;have wy:=LQ (l:=g.gs) (i+1);have cb:aZ ((i:Int)+1):=by unfold aZ;omega
   have Cp:aZ (room-n):=by unfold aZ;omega
   have ky:=bp y (fq bB) (room-n) Ω;by_cases ku:y.shape=true/\(y.sz:Int)<=room-n
   ·rw[wF ku.1 ku.2]at ky;have x7:aZ (n+y.sz):=by unfold aZ;omega
    have bY:¬(y.sz:Int)<0:=Ω
    have jl:yY g room (i+1) (n+y.sz):=⟨by rw[oH];omega,lF.step bB ku.1,Ω⟩;clear nl lF bp gA oH wy bB;simp[ml,aE,ih];(with_reducible repeat' first|refine av ?_|refine ba ky ?_|refine bb ky ?_|simp[aE,ih,cb,Cp,x7,bY]);refine bU.rng (n+y.sz) aE jl (by simp[ml];exact cX)
   ·have cp:iE y (room-n)= -1:=bo ku;rw[cp]at ky;have:iE g room= -1:=by
     unfold iE;rw[bo];rintro⟨g1,g2⟩;refine ku ⟨?_,?_⟩
     ·rw[gA,hq]at g1;exact g1 y (fq bB)
     ·rw[ud]at g2;omega
    rw[this];clear nl lF bp gA oH wy bB ku cp this;simp[ml,aE,ih];exact cB
 ·have fZ:=dW Ω;clear aS bG dW;(with_reducible repeat' first|refine av ?_|refine ba cW ?_|refine bb cW ?_|simp[h,sr,aa,aJ,J,fZ,-np]);refine gP (ml g room) g.gs.length (yY g room) 1 (by simp[ml];exact cX) ⟨Ψ,fun k b aa=>Ω,Ω⟩ (fun n aD _=>?_) (fun i n aE aD _=>?_)
  ·obtain⟨nl,lF,CH⟩:=aD;rw[kH]at nl;have:iE g room=n:=by rw[wF (by rw[gA];exact lF.fin) (by rw[ud];omega),ud];omega
   rw[this];clear nl lF bp gA this;simp[ml];exact cB
  ·obtain⟨y,bB,ih⟩:=gp aE;obtain⟨nl,lF,CH⟩:=aD;have oH:=LS bB;have wy:=LQ (l:=g.gs) (i+1);have cb:aZ ((i:Int)+1):=by unfold aZ;omega
   have Cp:aZ (room-n):=by unfold aZ;omega
   have ky:=bp y (fq bB) (room-n) Ω;by_cases ku:y.shape=true/\(y.sz:Int)<=room-n
   ·rw[wF ku.1 ku.2]at ky;have x7:aZ (n+y.sz):=by unfold aZ;omega
    have bY:¬(y.sz:Int)<0:=Ω
    have jl:yY g room (i+1) (n+y.sz):=⟨by rw[oH];omega,lF.step bB ku.1,Ω⟩;clear nl lF bp gA oH wy bB;simp[ml,aE,ih];(with_reducible repeat' first|refine av ?_|refine ba ky ?_|refine bb ky ?_|simp[aE,ih,cb,Cp,x7,bY]);refine bU.rng (n+y.sz) aE jl (by simp[ml];exact cX)
   ·have cp:iE y (room-n)= -1:=bo ku;rw[cp]at ky;have:iE g room= -1:=by
     unfold iE;rw[bo];rintro⟨g1,g2⟩;refine ku ⟨?_,?_⟩
     ·rw[gA,hq]at g1;exact g1 y (fq bB)
     ·rw[ud]at g2;omega
    rw[this];clear nl lF bp gA oH wy bB ku cp this;simp[ml,aE,ih];exact cB
 ·obtain⟨x,ad,ads⟩:=bG aa;clear aS bG dW;(with_reducible repeat' first|refine av ?_|refine ba cW ?_|refine bb cW ?_|simp[h,sr,aa,aJ,J,ad,ads,-np]);refine gP (ml g room) g.gs.length (yY g room) 1 (by simp[ml];exact⟨by simp[fresh,aj,ak,bj,ag,Pv.look,ad],cg (by simp[fresh,aj,ak,bj,ag,Pv.look,ad]),ch (by simp[fresh,aj,ak,cc,ag,Pv.look,ad]),Ψ⟩) ⟨Ψ,fun k b aa=>Ω,Ω⟩ (fun n aD _=>?_) (fun i n aE aD _=>?_)
  ·obtain⟨nl,lF,CH⟩:=aD;rw[kH]at nl;have:iE g room=n:=by rw[wF (by rw[gA];exact lF.fin) (by rw[ud];omega),ud];omega
   rw[this];clear nl lF bp gA this;simp[ml];exact cB
  ·obtain⟨y,bB,ih⟩:=gp aE;obtain⟨nl,lF,CH⟩:=aD;have oH:=LS bB;have wy:=LQ (l:=g.gs) (i+1);have cb:aZ ((i:Int)+1):=by unfold aZ;omega
   have Cp:aZ (room-n):=by unfold aZ;omega
   have ky:=bp y (fq bB) (room-n) Ω;by_cases ku:y.shape=true/\(y.sz:Int)<=room-n
   ·rw[wF ku.1 ku.2]at ky;have x7:aZ (n+y.sz):=by unfold aZ;omega
    have bY:¬(y.sz:Int)<0:=Ω
    have jl:yY g room (i+1) (n+y.sz):=⟨by rw[oH];omega,lF.step bB ku.1,Ω⟩;clear nl lF bp gA oH wy bB;simp[ml,aE,ih];(with_reducible repeat' first|refine av ?_|refine ba ky ?_|refine bb ky ?_|simp[aE,ih,cb,Cp,x7,bY]);refine bU.rng (n+y.sz) aE jl (by simp[ml];exact cX)
   ·have cp:iE y (room-n)= -1:=bo ku;rw[cp]at ky;have:iE g room= -1:=by
     unfold iE;rw[bo];rintro⟨g1,g2⟩;refine ku ⟨?_,?_⟩
     ·rw[gA,hq]at g1;exact g1 y (fq bB)
     ·rw[ud]at g2;omega
    rw[this];clear nl lF bp gA oH wy bB ku cp this;simp[ml,aE,ih];exact cB
theorem Mh:∀(n:Nat) (g:Gm),g.sz<=n->∀room:Int,-1000<=room/\room<=1000->ct aQ 117 [g.e,.int .i64 room] (.int .i64 (iE g room)):=by
 intro n;induction n with
 |zero=>intro g aR;have:=g.sz_pos;omega
 |succ n bp=>
 intro g aR room hr;by_cases h:room<1
 ·rw[aeH (by have:=g.sz_pos;omega)];exact aa8 g h
 cases aI:g.ts.all aV.fits
 ·rw[wE (by rw[qu,aI];rfl)];exact abd g h aI
 have leaf:∀au:g.gs=[]\/g.shape=false,iE g room=if g.shape then 1 else-1:=by
  intro au;cases gA:g.shape
  ·rw[wE gA];rfl
  ·rw[gA]at au;have au:g.gs=[]:=by simpa using au
   have I:g.sz=1:=by rw[ud,au];rfl
   rw[wF gA Ω,I];rfl
 rcases adY g.kind with aa|aa|aa|aa|aa|aa|aa|aa|aa|aa|aa|aa;case inr.inr.inr.inr.inr.inr.inr.inr.inr.inr.inr=>rw[wE (by rw[qu,bo Ω,bo Ω,bo Ω,bo Ω,Bool.and_false])];exact abc g h aa
 case inr.inr.inr.inr.inr.inr.inr.inr.inr.inl=>
  rw[leaf ?_]
  ·exact aa5 g h aI aa
  ·by_cases au:g.gs=[]
   ·exact .inl au
   ·right;rw[qu,aI,aa];have:g.gs.isEmpty=false:=by simpa using au
    simp[this]
 case inr.inr.inr.inr.inr.inr.inr.inl|inr.inr.inr.inr.inr.inr.inr.inr.inl|inr.inr.inr.inr.inr.inr.inr.inr.inr.inr.inl=>
  have gV:g.kind=7\/g.kind=8\/g.kind=10:=Ω
  have kR:=qu g;rw[aI,Bool.true_and,bo Ω,bo Ω]at kR;cases aJ:g.name.isEmpty
  ·have gS:(g.name==[])=false:=by simpa using aJ
   rw[wE (by rw[kR,gS];simp)];exact aa9 g h aI gV aJ
  have gS:(g.name==[])=true:=by simpa using aJ
  by_cases J:g.ts.length=0;rotate_left
  ·have uI:g.ts.isEmpty=false:=by simpa using J
   rw[wE (by rw[kR,uI];simp)];exact abe g h aI gV aJ J
  have uI:g.ts.isEmpty=true:=by simpa using J
  rw[gS,uI,Bool.true_and]at kR;have uZ:∀x∈g.gs,∀r:Int,-1000<=r/\r<=1000->ct aQ 117 [x.e,.int .i64 r] (.int .i64 (iE x r)):=fun x ad r hr=>bp x (by have:=g.gs_lt ad;omega) r hr;by_cases fh:g.kind=10
  ·rw[bo Ω,bP fh,Bool.true_and]at kR;by_cases aS:g.gs.length=1
   ·obtain⟨x,ad⟩:=List.length_eq_one_iff.1 aS;by_cases ee:x.kind=9
    ·exact Qp g h hr.2 aI gV aJ J (fun e=>absurd fh e) (fun _=>⟨x,ad,ee⟩) (by rw[kR,ad];simp[ee]) uZ
    ·rw[wE (by rw[kR,ad];simp[ee])];exact abb g h aI fh aJ J ad ee
   ·rw[wE (by
     rw[kR];match aR:g.gs with
     |[]=>rfl
     |[x]=>rw[aR]at aS;simp at aS
     |x::y::l=>rfl)]
    exact aba g h aI fh aJ J aS
  ·have xM:g.kind=7\/g.kind=8:=Ω
   rw[bP xM,Bool.true_and]at kR;by_cases aS:g.gs.length<=8
   ·exact Qp g h hr.2 aI gV aJ J (fun _=>aS) (fun e=>absurd e fh) (by rw[kR,nD aS];rfl) uZ
   ·rw[wE (by rw[kR,decide_eq_false aS];rfl)];exact aa7 g h aI xM aJ J aS
 all_goals
  rw[leaf ?_]
  ·exact aa6 g h aI Ω
  ·by_cases au:g.gs=[]
   ·exact .inl au
   ·right;rw[qu,aI,aa]
    have:g.gs.isEmpty=false:=by simpa using au
    simp[this]
theorem Mc(g:Gm):ct aQ 115 [g.e] (.bool (g.fits 80)):=by
 have cE:=Mh g.sz g (c7 _) 80 Ω;have ao:decide ((0:Int)<iE g 80)=g.fits 80:=by
  unfold iE Gm.fits;have:=g.sz_pos;by_cases h:g.shape=true/\(g.sz:Int)<=80
  ·rw[bP h,h.1];simp;omega
  ·rw[bo h];cases au:g.shape
   ·rfl
   ·rw[au]at h;simp at h⊢;omega
 refine bW kU Zq ae5 fun aL=>?_;unfold NC;clear aL;exact cB
def Sv(l:List (Int×T)):List al:=lJ (l.map fun x=>(x.1,x.2.e))
@[simp]theorem alC:Sv []=lJ []:=rfl
@[simp]theorem alW(l:List (Int×T)):iH (Sv l)=false:=rfl
end
end Go.Proofs.YtlnndmgfngfeiaaGreatDoor
namespace Go.Proofs
section
open Go.Shelf
def Tryz.lays191_ren:Go.Shelf.Ren:=⟨fun|191=>213|189=>254|125=>202|257=>272|128=>240|129=>241|294=>284|295=>285|296=>286|297=>287|298=>288|299=>289|216=>290|300=>291|301=>292|328=>298|329=>299|330=>300|331=>301|332=>302|215=>303|343=>306|n=>n,fun|28=>136|0=>0|3=>3|46=>209|51=>265|53=>267|4=>4|183=>309|182=>308|131=>214|5=>5|9=>9|218=>319|222=>292|228=>328|229=>305|n=>n,fun|n=>n⟩
theorem Tryz.lays191:Go.Proofs.Lays.n191 aQ Tryz.lays191_ren:={
 mixed:=by kernel_rfl
 f125:=Tryz.func202.trans (dZ some (by kernel_rfl))
 f128:=Tryz.func240.trans (dZ some (by kernel_rfl))
 f129:=Tryz.func241.trans (dZ some (by kernel_rfl))
 f189:=Tryz.func254.trans (dZ some (by kernel_rfl))
 f191:=Tryz.func213.trans (dZ some (by kernel_rfl))
 f215:=Tryz.func303.trans (dZ some (by kernel_rfl))
 f216:=Tryz.func290.trans (dZ some (by kernel_rfl))
 f257:=Tryz.func272.trans (dZ some (by kernel_rfl))
 f294:=Tryz.func284.trans (dZ some (by kernel_rfl))
 f295:=Tryz.func285.trans (dZ some (by kernel_rfl))
 f296:=Tryz.func286.trans (dZ some (by kernel_rfl))
 f297:=Tryz.func287.trans (dZ some (by kernel_rfl))
 f298:=Tryz.func288.trans (dZ some (by kernel_rfl))
 f299:=Tryz.func289.trans (dZ some (by kernel_rfl))
 f300:=Tryz.func291.trans (dZ some (by kernel_rfl))
 f301:=Tryz.func292.trans (dZ some (by kernel_rfl))
 f328:=Tryz.func298.trans (dZ some (by kernel_rfl))
 f329:=Tryz.func299.trans (dZ some (by kernel_rfl))
 f330:=Tryz.func300.trans (dZ some (by kernel_rfl))
 f331:=Tryz.func301.trans (dZ some (by kernel_rfl))
 f332:=Tryz.func302.trans (dZ some (by kernel_rfl))
 f343:=Tryz.func306.trans (dZ some (by kernel_rfl))
 t0:=Tryz.underlying0
 a0:=Tryz.isAgg0
 z0:=Tryz.sizeOf0
 v0:=Tryz.zeroValue0
 t3:=Tryz.underlying3
 a3:=Tryz.isAgg3
 z3:=Tryz.sizeOf3
 v3:=Tryz.zeroValue3
 t4:=Tryz.underlying4
 a4:=Tryz.isAgg4
 z4:=Tryz.sizeOf4
 v4:=Tryz.zeroValue4
 t5:=Tryz.underlying5
 a5:=Tryz.isAgg5
 z5:=Tryz.sizeOf5
 v5:=Tryz.zeroValue5
 t9:=Tryz.underlying9
 a9:=Tryz.isAgg9
 z9:=Tryz.sizeOf9
 v9:=Tryz.zeroValue9
 t28:=Tryz.underlying136
 a28:=Tryz.isAgg136
 z28:=Tryz.sizeOf136
 v28:=Tryz.zeroValue136
 t46:=Tryz.underlying209
 a46:=Tryz.isAgg209
 z46:=Tryz.sizeOf209
 v46:=Tryz.zeroValue209
 t51:=Tryz.underlying265
 a51:=Tryz.isAgg265
 z51:=Tryz.sizeOf265
 v51:=Tryz.zeroValue265
 t53:=Tryz.underlying267
 a53:=Tryz.isAgg267
 z53:=Tryz.sizeOf267
 v53:=Tryz.zeroValue267
 t131:=Tryz.underlying214
 a131:=Tryz.isAgg214
 z131:=Tryz.sizeOf214
 v131:=Tryz.zeroValue214
 t182:=Tryz.underlying308
 a182:=Tryz.isAgg308
 z182:=Tryz.sizeOf308
 v182:=Tryz.zeroValue308
 t183:=Tryz.underlying309
 a183:=Tryz.isAgg309
 z183:=Tryz.sizeOf309
 v183:=Tryz.zeroValue309
 t218:=Tryz.underlying319
 a218:=Tryz.isAgg319
 z218:=Tryz.sizeOf319
 v218:=Tryz.zeroValue319
 t222:=Tryz.underlying292
 a222:=Tryz.isAgg292
 z222:=Tryz.sizeOf292
 v222:=Tryz.zeroValue292
 t228:=Tryz.underlying328
 a228:=Tryz.isAgg328
 z228:=Tryz.sizeOf328
 v228:=Tryz.zeroValue328
 t229:=Tryz.underlying305
 a229:=Tryz.isAgg305
 z229:=Tryz.sizeOf305
 v229:=Tryz.zeroValue305}
end
end Go.Proofs

namespace Go.Proofs.YtlnndmgfngfeiaaGreatDoor
section
open Go Go.Pv
def eg(xs:List Int):List al:=xs.map (al.int .i64)
theorem UE{w:World}{ν:aW}:∀{xs:List Int} {us:List Value},cR w ν 1 (eg xs) us->us=xs.map (mP .i64)
 |[],us,h=>by simpa[eg,cR]using h
 |x::xs,us,h=>by simp only[eg,ek,cR]at h;obtain⟨u,bI,rfl,⟨I,_,_⟩,J⟩:=h;simp only[aT]at I;subst I;rw[UE J];rfl
theorem RL(w:World)(ν:aW):∀xs:List Int,cR w ν 1 (eg xs) (xs.map (mP .i64))
 |[]=>by simp[eg,cR]
 |x::xs=>by simp only[eg,ek,cR];exact⟨.int .i64 x,_,rfl,⟨by simp[aT],rfl,by intro c aH;simp[mf]at aH;subst aH;rfl⟩,RL w ν xs⟩
def mS(K:Nat)(xs:List Int):dF:=⟨[],[(.obj K,⟨xs.length,3,1,some (eg xs)⟩)]⟩
theorem tM(S:aO->Prop)(xs:List Int):aj S (eg xs):=by
 induction xs with
 |nil=>simp[eg,aj]
 |cons x r bp=>simp only[eg,ek,aj,ak];exact⟨trivial,bp⟩
theorem Hl(K:Nat)(xs:List Int):gJ (mS K xs):=by unfold mS;refine gJ.of ⟨by intro m;simp[Pv.look],by intro m;simp[Pv.look]⟩ Ψ ?_;intro x ad ys bB;simp at ad;subst ad;simp at bB;subst bB;exact tM _ xs
def qw(xs:List Int):List Int:=xs.mergeSort fun x y=>decide (x<=y)
theorem LK(xs:List Int):(qw xs).length=xs.length:=List.length_mergeSort xs
theorem aaZ(K:Nat)(xs:List Int)(aG:xs.length<=1000000):bJ aQ 213 [.row 1 (.obj K) xs.length] (mS K xs) fun r aq=>r= .tuple []/\aq=mS K (qw xs):=by
 refine bJ.sem (Hl K xs).obj fun w ν vs _ gh hr=>?_;refine .inl ⟨⟨Tryz.f213,Tryz.func213,by kernel_rfl,by kernel_rfl⟩,?_⟩;have l7:=hr.slot 0;simp only[kA,Pv.get,if_true]at l7;have kP:Pv.look (.obj K) (mS K xs).e=some ⟨xs.length,3,1,some (eg xs)⟩:=by simp[mS,Pv.look]
 obtain⟨v,us,cz,db,eo,dC⟩:=hr.good.own (.obj K) _ kP;obtain⟨dc,lL,sB⟩:=dC _ rfl;have ki:=UE lL;subst ki;simp only[aT]at l7;obtain⟨⟨Nd,OI,qY⟩,_,n',u,aB,aU,b1⟩:=l7;rw[cz]at aB;simp only[dH,gz]at aB;obtain⟨rfl,rfl⟩:=aB;have aK:=b1 rfl;have uY:vs= #[v]:=by
  have I:vs.size=1:=by simpa using gh
  apply Array.ext (by simpa using I);intro i J aA;simp at aA;subst aA;rw[<-aK];simp[Array.getD,I]
 have cD:v≠ .slice none 0 0:=by rw[<-aK,qY];simp
 obtain⟨g,cap,rfl,_,mE,lz,akD,akE,abu⟩:=Lib.holds_of_ownsRow db cD;have aH:=Any.sort_Ints Tryz.lays191 g 0 cap xs w abu mE Ω;subst uY;refine aH.mono ?_;rintro e w' ⟨rfl,n,os,rfl⟩;have k7:=LK xs;have kt:=Lib.ownsRow_putRow (q:=n) (k:=xs.length) (ys:=qw xs) db k7 (c7 _);rw[rH Ω]at kt;obtain⟨jW,gv,_⟩:=hr.setRowM (w':=Sort.putRow (mP .i64) (Sort.ahead w n) g 0 (qw xs).toArray) kP rfl cz (bl:=g) rfl (v':= .slice (some ⟨g,0,none⟩) xs.length cap) rfl (xs':=eg (qw xs)) (us:=(qw xs).map (mP .i64)) (.inl ⟨by simp[eg,k7],rfl⟩) rfl rfl rfl
  (fun j aD=>by simp[Sort.putRow,Sort.mapBlock,Sort.ahead,Array.getElem?_modify,Ne.symm aD]) (by simp[Sort.putRow,Sort.mapBlock,Sort.ahead]) (by simpa[eg,k7]using kt) (RL _ _ _)
 have C6:=jW.grown (w':=Sort.grow (Sort.putRow (mP .i64) (Sort.ahead w n) g 0 (qw xs).toArray) os) ⟨rfl,rfl,rfl,Ψ,fun k aa _=>Sort.heap_grow_old _ _ aa⟩;refine⟨_,_,_,_,.tuple [],mS K (qw xs),rfl,C6,by simp[aT,cw],by simp[mS,gE],?_,?_,?_,(Hl K _).obj,by simp[ak,aj],rfl,rfl⟩
 ·simp[mS,gE,ag,Pv.look]
 ·intro k cs aa;simp[mS,Pv.look]at aa
 ·intro k o aa;have hm:=wD aa;simp[mS]at hm;obtain⟨rfl,rfl⟩:=hm;refine⟨by simp[mS,Pv.look,dd,eg,k7],.inr (by simp[aa]),fun ys bB=>?_⟩;simp at bB;subst bB;exact tM _ _
def oi(l:List Int):List al:=lJ (l.map fun x=>(x,.bool true))
theorem lG(S:aO->Prop)(l:List Int):aj S (oi l):=by
 have:∀l:List Int,aj S (lx (l.map fun x=>(x,.bool true))):=by
  intro l;induction l with
  |nil=>simp[lx,aj]
  |cons x r bp=>simp[lx,aj,bp,ak]
 simp[oi,lJ,aj,this,ak]
def qP(v:Int)(l:List Int):List Int:=if v∈l then l else l++[v]
theorem Nb(k:Int):∀l:List Int,qR k (.bool true) (l.map fun x=>(x,al.bool true))=if k∈l then some (l.map fun x=>(x,al.bool true))else none
 |[]=>rfl
 |i::r=>by
  by_cases h:k=i
  ·simp[qR,h]
  ·by_cases J:k∈r<;>simp[qR,h,J,Nb k r]
@[simp]theorem alH(k:Int)(l:List Int):ra .i (.int .i64 k) (.bool true) (oi l)=some (oi (qP k l)):=by
 simp only[oi,aeA,nG,Nb,qP];split<;>rename_i h
 ·split at h
  ·simp at h;subst h;simp[*]
  ·cases h
 ·split at h
  ·cases h
  ·simp[*]
@[simp]theorem ajg:oi []=lJ []:=rfl
@[simp]theorem alV(l:List Int):iH (oi l)=false:=rfl
@[simp]theorem alZ(m:aO)(l:List Int):Dj m (oi l)=some (bj l.length [] m):=by simp[oi]
theorem aes(f:aO->a1 (List al))(hl mk:aO)(n:Nat)(seen:List Nat)(b:Nat)(l:List Int)(x:Int)(aE:f hl=some (bj n (seen++[b]) mk))(hm:f mk=some (oi l))(aJ:n=l.length)(ad:l[b]? =some x):tP f (.ptr hl 0)=some (True,.tuple [.int .i64 x,.bool true]):=by rw[aeu f hl mk n seen b _ aE hm (by simpa using aJ)];simp[ad]
theorem Ym{st:a6}{d:Nat}{K:a6->Prop}{hl mk:aO}{n:Nat}{seen:List Nat}{l:List Int}(aE:Pv.look hl st.b=some (bj n seen mk))(hm:Pv.look mk st.b=some (oi l))(aJ:n=l.length)
  (I:(∀b,b<l.length->b∈seen)->K {st with t:=Pv.put d (.tuple [.bool false]) st.t}) (J:∀b x,l[b]? =some x->b∉seen->K {st with t:=Pv.put d (.tuple [.bool true,.int .i64 x,.bool true]) st.t,b:=dd hl (bj n (seen++[b]) mk) st.b}):
  xA st d (.ptr hl 0) K:=by
 refine Yn aE hm (by simpa using aJ) (fun h=>I fun b ao=>h b Ω) (fun b k v ao au=>?_);simp only[pQ,hc]at ao;obtain⟨x,aB,aU⟩:=ao;simp only[gz]at aU;obtain⟨rfl,rfl⟩:=aU;exact J b x aB au
def _root_.Go.Pv.T.fold{α:Type}(f:Int->α->α):T->α->α
 | .var n,a=>f n a
 | .pair x y,a=>y.fold f (x.fold f a)
 |_,a=>a
theorem aaN{α:Type}(S:α->dF)(gR:∀a,gJ (S a))(fa:∀a b,Same (S a) (S b))(g:Nat)(dy:List al)(aH:∀a,aj (ag (S a)) dy)(eA:ca dy=dy)(f:Int->α->α)(aY:∀v a,bJ aQ g (.int .i64 v::dy) (S a) fun r aq=>r= .tuple []/\aq=S (f v a))(t:T):
  ∀a,bJ aQ 79 [t.e,.func g dy] (S a) fun r aq=>r= .tuple []/\aq=S (t.fold f a):=by
 have aJ:∀a m,Pv.look (.loc m) (S a).b=none:=fun a=>(gR a).obj.1;have hu:∀a m cs,dd (.loc m) cs (S a).b=(S a).b++[(.loc m,cs)]:=fun a m cs=>Vx (aJ a m);have az:∀a m,aO.loc m∉gj (S a):=fun a=>aej (gR a).obj;induction t with
 |pair x y JY JZ=>intro a;have au:=gR a;refine bJ.mk mixed sQ Ix KL Ψ au.obj fun aL bT=>?_;unfold D5;simp[hu,az,sp,aJ,eA];(with_reducible repeat' first|refine av ?_|simp[hu,az,sp,aJ]);refine bc.ob (JY a) au ai ai (by simp[aH]) ?_;rintro r aq ⟨rfl,rfl⟩;refine⟨fa _ _,?_⟩;simp[DP,DO,aX,aJ];(with_reducible repeat' first|refine av ?_|simp[hu,az,sp,aJ]);rw[eA];refine bc.ob (JZ (x.fold f a)) (gR (x.fold f a)) ai ai (by simp[aH]) ?_;rintro r aq ⟨rfl,rfl⟩;refine⟨fa _ _,?_⟩;simp[DP,DO,aX,aJ];refine bL.at (S (y.fold f (x.fold f a))) (.inr rfl) (gR _) (fa _ _) ai ai ?_;simp[bV,Gr,bg,bh,bf];simp[T.fold]
 |var n=>intro a;have au:=gR a;refine bJ.mk mixed sQ Ix KL Ψ au.obj fun aL bT=>?_;unfold D5;simp[hu,az,sp,aJ,eA];(with_reducible repeat' first|refine av ?_|simp[hu,az,sp,aJ]);refine bc.ob (aY n a) au ai ai (by simp[aH]) ?_;rintro r aq ⟨rfl,rfl⟩;refine⟨fa _ _,?_⟩;simp[DP,DO,aX,aJ,sp];refine bL.at (S (f n a)) (.inr rfl) (gR _) (fa _ _) ai ai ?_;simp[bV,Gr,bg,bh,bf];simp[T.fold]
 |_=>intro a;have au:=gR a;refine bJ.mk mixed sQ Ix KL Ψ au.obj fun aL bT=>?_;unfold D5;simp[hu,az,sp,aJ,eA];(with_reducible repeat' first|refine av ?_|simp[hu,az,sp,aJ]);refine bL.at (S a) (.inr rfl) au (Same.refl _) ai ai ?_;simp[bV,Gr,bg,bh,bf];simp[T.fold]
def fu(l:List Int):dF:=⟨[(.obj 304,oi l),(.obj 305,[.gmap (.obj 304)])],[]⟩
theorem rK(l:List Int):gJ (fu l):=by unfold fu;exact gJ.of ⟨by intro m;simp[Pv.look],by intro m;simp[Pv.look]⟩ (by simp[lG,aj,ak,ag,Pv.look]) Ψ
theorem vK(l cF:List Int):Same (fu l) (fu cF):=by refine⟨fun k=>?_,fun k=>rfl⟩;simp only[fu,Pv.look];split<;>rfl
def ur(l:List Int):dF:=⟨[(.obj 304,oi l)],[]⟩
theorem MT(l:List Int):gJ (ur l):=by unfold ur;exact gJ.of ⟨by intro m;simp[Pv.look],by intro m;simp[Pv.look]⟩ (by simp[lG,aj,ak,ag,Pv.look]) Ψ
theorem ahu{a b:List Int}(h:a.Perm b):qw a=qw b:=by
 have aI:∀a b c:Int,(decide (a<=b))=true->(decide (b<=c))=true->(decide (a<=c))=true:=by intro a b c;simp;omega
 have Cv:∀a b:Int,(decide (a<=b)||decide (b<=a))=true:=by intro a b;simp;omega
 have I:=List.pairwise_mergeSort aI Cv a;have J:=List.pairwise_mergeSort aI Cv b;refine amU (le:=fun x y:Int=>(decide (x<=y))=true) (fun x y _ _ I J=>by simp at I J;omega) I J ?_;exact(List.mergeSort_perm a _).trans (h.trans (List.mergeSort_perm b _).symm)
def adJ(l:List Int)(k:Nat)(st:a6):Prop:=∃(seen:List Nat) (xs:List Int),seen.Nodup/\(∀b∈seen,b<l.length)/\k=l.length-seen.length/\xs=seen.filterMap (fun b=>l[b]?)/\xs.length=seen.length/\st=⟨[(3,.row 1 (.obj 306) xs.length),(7,.ptr (.loc 0) 0)],[(.obj 304,oi l),(.loc 0,bj l.length seen (.obj 304))],[(.obj 306,⟨xs.length,3,1,some (eg xs)⟩)],1,[.obj 306,.obj 304]⟩
@[simp]theorem ak0(xs:List Int):(eg xs).length=xs.length:=by simp[eg]
@[simp]theorem amz(xs:List Int):ca (eg xs)=eg xs:=by
 induction xs with
 |nil=>rfl
 |cons x r bp=>simp only[eg,ek,ca,cm]at bp⊢;rw[bp]
@[simp]theorem ak1:eg []=[]:=rfl
theorem adE(xs:List Int)(x:Int):eg xs++[al.int .i64 x]=eg (xs++[x]):=by simp[eg]
theorem aa0(l:List Int)(aG:l.length<=1000000):bJ aQ 160 [.gmap (.obj 304)] (ur l) fun r aq=>r= .slice 1 .no (eg (qw l))/\aq=ur l:=by
 have au:=MT l;unfold ur at au⊢;refine bJ.mk mixed sQ ZG afl Ψ au.obj fun aL bT=>?_;unfold NT;simp;refine xB (adJ l) l.length _ ⟨by simp[fresh,aj,ak,bj,ag,Pv.look,lG,tM],cg (by simp[fresh,aj,ak,bj,ag,Pv.look,lG,tM]),ch (by simp[fresh,aj,ak,cc,ag,Pv.look,lG,tM]),Ψ⟩ ⟨[],[],Ψ,Ψ,Ψ,Ψ,Ψ,rfl⟩ ?_;rintro k st ⟨seen,xs,aP,bY,aa,eR,oK,rfl⟩ qZ bT;clear qZ bT;have hle:=UY aP bY;simp;refine Ym (mk:= .obj 304) (seen:=seen) (l:=l) Ψ Ψ rfl (fun j9=>?_) (fun b x ad ao=>?_)
 ·simp;have Rg:=ahd aP bY j9;rw[<-eR]at Rg;refine bc.ob (aaZ 306 xs Ω) (Hl 306 xs) (by unfold mS;exact ai) (by unfold mS;exact ai) (by simp[mS,ag,Pv.look]) ?_;rintro r aq ⟨rfl,rfl⟩;refine⟨⟨fun _=>rfl,fun k=>by simp only[mS,Pv.look];split<;>rfl⟩,?_⟩;unfold mS;simp[aX,LK];refine bL.at _ (.inl rfl) au (Same.refl _) ai ai ?_;simp[bV,TU,bg,bh,bf];rw[ahu Rg];simp[ak,tM]
 ·have acO:∀f:aO->a1 (List al),f (.loc 0)=some (bj l.length (seen++[b]) (.obj 304))->f (.obj 304)=some (oi l)->tP f (.ptr (.loc 0) 0)=some (True,.tuple [.int .i64 x,.bool true]):=fun f I J=>aes f (.loc 0) (.obj 304) l.length seen b l x I J rfl ad;have eE:b<l.length:=(eV.1 ad).1;have k7:=ahe aP bY eE ao;simp[acO,adE];refine⟨by unfold bs;omega,?_⟩;refine bU.next (l.length-(seen.length+1)) Ω ⟨seen++[b],xs++[x],aeP aP ao,(by simp;intro c aH;rcases aH with aH|rfl;exact bY c aH;exact eE),Ψ,by rw[List.filterMap_append,<-eR];simp[ad],by simp[oK],rfl⟩ ⟨by simp[fresh,aj,ak,bj,ag,Pv.look,lG,tM],cg (by simp[fresh,aj,ak,bj,ag,Pv.look,lG,tM]),ch (by simp[fresh,aj,ak,cc,ag,Pv.look,lG,tM]),Ψ⟩
@[simp]theorem alc(S:aO->Prop)(xs:List Int):aj S (eg xs)=True:=eq_true (tM S xs)
@[simp]theorem ajO:cells .junk=[.junk]:=rfl
def hI(vs:List Int)(l:List Int):List Int:=vs.foldl (fun l v=>qP v l) l
theorem DV(a b l:List Int):hI (a++b) l=hI b (hI a l):=List.foldl_append
theorem Ht(vs:List Int):∀(l:List Int) (v:Int),v∈hI vs l↔v∈l\/v∈vs:=by
 induction vs with
 |nil=>intro l v;simp[hI]
 |cons x vs bp=>
  intro l v;show v∈hI vs (qP x l)↔_;rw[bp,qP];split
  ·rename_i h;constructor
   ·rintro(cx|cx)
    ·exact .inl cx
    ·exact .inr (by simp[cx])
   ·rintro(cx|cx)
    ·exact .inl cx
    ·rcases gb.1 cx with rfl|cx
     ·exact .inl h
     ·exact .inr cx
  ·simp[or_assoc]
theorem M2(vs:List Int):∀l:List Int,l.Nodup->(hI vs l).Nodup:=by
 induction vs with
 |nil=>intro l h;exact h
 |cons x vs bp=>
  intro l h;refine bp _ ?_;show(qP x l).Nodup;unfold qP;split
  ·exact h
  ·rename_i ad;rw[rG];exact⟨h,Ψ,fun a bM b ao=>by simp at ao;subst ao;rintro rfl;exact ad bM⟩
theorem aav(t:T):∀l:List Int,t.fold qP l=hI t.tm.vs l:=by
 induction t with
 |pair a b qe qf=>
  intro l;have:(T.pair a b).tm.vs=a.tm.vs++b.tm.vs:=by simp[T.tm,aV.vs,aV.vsL]
  rw[this,DV,<-qe,<-qf];rfl
 |var n=>intro l;simp[T.tm,aV.vs,T.fold,hI]
 |_=>intro l;simp[T.tm,aV.vs,aV.vsL,T.fold,hI]
theorem V2(x:T)(h:x.ok=true):∀v∈x.tm.vs,0<=v/\v<=100000:=by
 induction x with
 |pair a b qe qf=>
  intro v aK;simp only[T.ok,bF]at h;have:(T.pair a b).tm.vs=a.tm.vs++b.tm.vs:=by simp[T.tm,aV.vs,aV.vsL]
  rw[this,fM]at aK;rcases aK with aK|aK
  ·exact qe h.1 v aK
  ·exact qf h.2 v aK
 |var n=>intro v aK;simp[T.tm,aV.vs]at aK;subst aK;simpa[T.ok]using h
 |_=>intro v aK;simp[T.tm,aV.vs,aV.vsL]at aK
theorem yR:∀l:List aV,aV.vsL l=l.flatMap aV.vs
 |[]=>rfl
 |x::l=>by simp[aV.vsL,yR l]
theorem xL:∀l:List Gm,Gm.vsL l=l.flatMap Gm.vs
 |[]=>rfl
 |x::l=>by simp[Gm.vsL,xL l]
theorem IN(g:Gm):g.vs=aV.vsL g.ts++Gm.vsL g.gs:=by cases g;rfl
theorem ua{g:Gm}(h:g.shape=true):∀t∈g.ts,t.fits=true:=by rw[qu,bF]at h;exact fun t aI=>hq.1 h.1 t aI
theorem sI{g:Gm}(h:g.shape=true):∀x∈g.gs,x.shape=true:=by
 rw[qu,bF]at h;obtain⟨_,h⟩:=h;intro x ad;have no:g.gs.isEmpty=false:=by
  cases aR:g.gs with
  |nil=>rw[aR]at ad;cases ad
  |cons=>rfl
 rw[no]at h;repeat' split at h
 all_goals simp at h
 ·exact h.2 x ad
 ·exact h.2 x ad
theorem EN:∀(n:Nat) (g:Gm),g.sz<=n->g.shape=true->∀v∈g.vs,0<=v/\v<=100000:=by
 intro n;induction n with
 |zero=>intro g aR;have:=g.sz_pos;omega
 |succ n bp=>
  intro g aR au v aK;rw[IN,yR,xL,fM,List.mem_flatMap,List.mem_flatMap]at aK;rcases aK with⟨t,aI,aK⟩|⟨x,ad,aK⟩
  ·obtain⟨x,rfl,J⟩:=aV.fits_ex (ua au t aI);exact V2 x (p4 J) v aK
  ·exact bp x (by have:=g.gs_lt ad;omega) (sI au x ad) v aK
theorem Ky{l:List Int}(aJ:l.Nodup)(h:∀v∈l,0<=v/\v<=100000):l.length<=100001:=by
 have I:(l.map Int.toNat).Nodup:=by refine amT _ (fun a b tC=>?_) (amS (S:=fun a b=>a≠b/\(0<=a/\0<=b)) (fun bM ao tC=>⟨tC,(h _ bM).1,(h _ ao).1⟩) aJ);intro e;apply tC.1;omega
 have J:=aiP I (l₂:=List.range 100001) fun x ad=>by obtain⟨v,aK,rfl⟩:=n8.1 ad;have:=h v aK;simp;omega
 simpa using J
theorem aaQ(v:Int)(l:List Int):bJ aQ 159 [.int .i64 v,.ptr (.obj 305) 0] (fu l) fun r aq=>r= .tuple []/\aq=fu (qP v l):=by have au:=rK l;have gq:=rK (qP v l);have fa:=vK l (qP v l);unfold fu at au gq fa⊢;refine bJ.mk mixed kU ZA aff Ψ au.obj fun aL bT=>?_;unfold NN;simp;refine bL.at _ (.inr rfl) gq fa ai ai ?_;simp[bV,TR,bg,bh,bf]
theorem aaO{t:aV}(h:t.fits=true)(l:List Int):bJ aQ 79 [enc t,.func 159 [.ptr (.obj 305) 0]] (fu l) fun r aq=>r= .tuple []/\aq=fu (hI t.vs l):=by obtain⟨x,rfl,_⟩:=aV.fits_ex h;rw[tq,<-aav];exact aaN fu rK vK 159 [.ptr (.obj 305) 0] (by intro a;simp[ag,fu,Pv.look,aj,ak]) Ψ qP aaQ x l
theorem aiv{ts:List aV}{i:Nat}{t:aV}(h:ts[i]? =some t)(l:List Int):hI (aV.vsL (ts.take (i+1))) l=hI t.vs (hI (aV.vsL (ts.take i)) l):=by rw[kV,h,yR,yR,<-DV];simp
theorem abn{gs:List Gm}{i:Nat}{g:Gm}(h:gs[i]? =some g)(l:List Int):hI (Gm.vsL (gs.take (i+1))) l=hI g.vs (hI (Gm.vsL (gs.take i)) l):=by rw[kV,h,xL,xL,<-DV];simp
theorem aaP(g:Gm)(aY:∀t∈g.ts,t.fits=true)(l:List Int):bJ aQ 158 [g.e,.ptr (.obj 305) 0] (fu l) fun r aq=>r= .tuple []/\aq=fu (hI (aV.vsL g.ts) l):=by
 have au:=rK l;have gq:=rK (hI (aV.vsL g.ts) l);have fa:=vK l (hI (aV.vsL g.ts) l);unfold fu at au;refine bJ.mk mixed kU Zz afe Ψ au.obj fun aL bT=>?_;unfold NM;have gg:g.ts.length<=68719476736:=by rw[Gm.e_eq]at aL;simp[lY,kn,kX,bs]at aL;omega
 clear aL bT;unfold fu;simp;(with_reducible repeat' first|refine av ?_|simp);refine gP (fun i (_:Unit)=>⟨[(1,.ptr (.obj 305) 0),(6,.slice 4 .no (g.ts.map enc)),(7,.int .i64 g.ts.length),(8,.int .i64 i)],(fu (hI (aV.vsL (g.ts.take i)) l)).b,[],0,[.obj 304,.obj 305]⟩) g.ts.length (fun _ _=>True) () (by simp[fu,hI,aV.vsL];exact⟨by simp[fresh,aj,ak,bj,ag,Pv.look,lG],cg (by simp[fresh,aj,ak,bj,ag,Pv.look,lG]),ch (by simp[fresh,aj,ak,cc,ag,Pv.look,lG]),Ψ⟩) trivial (fun _ _ _=>?_) (fun i _ aE _ _=>?_)
 ·simp only[kH,fu]at gq fa⊢;simp;(with_reducible repeat' first|refine av ?_|simp);all_goals refine bL.at _ (.inr rfl) gq fa ai ai ?_
  all_goals simp[bV,TQ,bg,bh,bf]
 ·obtain⟨b,ao,oC⟩:=gp aE;have nU:=aaO (aY b (fq ao)) (hI (aV.vsL (g.ts.take i)) l);rw[<-aiv ao]at nU;have cb:aZ ((i:Int)+1):=by unfold aZ;omega
  clear gq fa;simp only[fu];simp[aE,oC];(with_reducible repeat' first|refine av ?_|simp[aE,oC]);refine bc.ob nU (rK _) (by unfold fu;exact ai) (by unfold fu;exact ai) (by simp[ag,fu,Pv.look]) ?_;rintro r aq ⟨rfl,rfl⟩;refine⟨vK _ _,?_⟩;unfold fu;simp[aX];(with_reducible repeat' first|refine av ?_|simp[cb]);all_goals refine bU.rng () aE trivial (by simp[fu];exact⟨by simp[fresh,aj,ak,bj,ag,Pv.look,lG],cg (by simp[fresh,aj,ak,bj,ag,Pv.look,lG]),ch (by simp[fresh,aj,ak,cc,ag,Pv.look,lG]),Ψ⟩)
theorem Dv{g:Gm}(h:g.shape=true):g.gs.length<=8/\g.ts.length<=4:=by
 rw[qu,bF]at h;obtain⟨_,h⟩:=h;have aJ:lb g.kind<=2:=by unfold lb;(repeat' split)<;>omega
 split at h
 ·simp at h;obtain⟨⟨⟨_,I⟩,J⟩,_⟩:=h;rw[I];simp;omega
 ·split at h
  ·simp at h;rw[h.1.2];simp;omega
  ·split at h
   ·simp at h;rw[h.1.1.2];simp;omega
   ·split at h
    ·simp at h;rw[h.1.1.2];have:=h.1.2;split at this
     ·rename_i x ad;rw[ad];simp
     ·cases this
    ·cases h
theorem aaM:∀(n:Nat) (g:Gm),g.sz<=n->g.shape=true->∀l:List Int,bJ aQ 157 [g.e,.func 158 [.ptr (.obj 305) 0]] (fu l) fun r aq=>r= .tuple []/\aq=fu (hI g.vs l):=by
 intro n;induction n with
 |zero=>intro g aR;have:=g.sz_pos;omega
 |succ n bp=>
 intro g aR gA l;have au:=rK l;have gq:=rK (hI g.vs l);have fa:=vK l (hI g.vs l);have nU:=aaP g (ua gA) l;have uZ:∀x∈g.gs,∀l:List Int,bJ aQ 157 [x.e,.func 158 [.ptr (.obj 305) 0]] (fu l) fun r aq=>r= .tuple []/\aq=fu (hI x.vs l):=fun x ad l=>bp x (by have:=g.gs_lt ad;omega) (sI gA x ad) l;rw[IN,DV]at gq fa⊢;generalize jT:hI (aV.vsL g.ts) l=lI at nU gq fa⊢;have ack:g.gs.length<=1000000:=by have:=(Dv gA).1;omega
 unfold fu at au;refine bJ.mk mixed kU PB Te Ψ au.obj fun aL bT=>?_;unfold HI;clear aL bT;unfold fu;simp;refine bc.ob (nU) (rK _) (by unfold fu;exact ai) (by unfold fu;exact ai) (by simp[ag,fu,Pv.look]) ?_;rintro r aq ⟨rfl,rfl⟩;refine⟨vK _ _,?_⟩;unfold fu;simp[aX];(with_reducible repeat' first|refine av ?_|simp);refine gP (fun i (_:Unit)=>⟨[(1,.func 158 [.ptr (.obj 305) 0]),(10,.slice 4 .no (g.gs.map Gm.e)),(11,.int .i64 g.gs.length),(12,.int .i64 i)],(fu (hI (Gm.vsL (g.gs.take i)) lI)).b,[],0,[.obj 304,.obj 305]⟩) g.gs.length (fun _ _=>True) () (by simp[fu,hI,Gm.vsL];exact⟨by simp[fresh,aj,ak,bj,ag,Pv.look,lG],cg (by simp[fresh,aj,ak,bj,ag,Pv.look,lG]),ch (by simp[fresh,aj,ak,cc,ag,Pv.look,lG]),Ψ⟩) trivial (fun _ _ _=>?_) (fun i _ aE _ _=>?_)
 ·simp only[kH,fu]at gq fa⊢;simp;(with_reducible repeat' first|refine av ?_|simp);all_goals refine bL.at _ (.inr rfl) gq fa ai ai ?_
  all_goals simp[bV,KU,bg,bh,bf]
 ·obtain⟨b,ao,oC⟩:=gp aE;have kb:=uZ b (fq ao) (hI (Gm.vsL (g.gs.take i)) lI);rw[<-abn ao]at kb;have cb:aZ ((i:Int)+1):=by unfold aZ;omega
  clear gq fa;simp only[fu];simp[aE,oC];(with_reducible repeat' first|refine av ?_|simp[aE,oC]);refine bc.ob (kb) (rK _) (by unfold fu;exact ai) (by unfold fu;exact ai) (by simp[ag,fu,Pv.look]) ?_;rintro r aq ⟨rfl,rfl⟩;refine⟨vK _ _,?_⟩;unfold fu;simp[aX];(with_reducible repeat' first|refine av ?_|simp[cb]);all_goals refine bU.rng () aE trivial (by simp[fu];exact⟨by simp[fresh,aj,ak,bj,ag,Pv.look,lG],cg (by simp[fresh,aj,ak,bj,ag,Pv.look,lG]),ch (by simp[fresh,aj,ak,cc,ag,Pv.look,lG]),Ψ⟩)
def v7(g:Gm):List Int:=qw (hI g.vs [])
theorem ah2(g:Gm)(h:g.shape=true):ct aQ 90 [g.e] (.slice 1 .no (eg (v7 g))):=by
 have aG:(hI g.vs []).length<=1000000:=by have:=Ky (M2 g.vs [] .nil) fun v aK=>EN g.sz g (c7 _) h v (by simpa[Ht]using aK);omega
 have nU:=aaM g.sz g (c7 _) h [];have b7:=aa0 (hI g.vs []) aG;refine bW kU Zy afd fun aL=>?_;unfold NL;clear aL;simp;(with_reducible repeat' first|refine av ?_|simp);refine bc.ob (nU) (rK _) (by unfold fu;exact ai) (by unfold fu;exact ai) (by simp[ag,fu,Pv.look]) ?_;rintro r aq ⟨rfl,rfl⟩;refine⟨vK _ _,?_⟩;unfold fu;simp[aX];refine bc.ob b7 (MT _) (by unfold ur;exact ai) (by unfold ur;exact ai) (by simp[ag,ur,Pv.look]) ?_;rintro r aq ⟨rfl,rfl⟩;refine⟨Same.refl _,?_⟩;unfold ur;simp[aX];simp[b8,TP,bg,bh,bf];simp[v7]
theorem P8(g:Gm)(v:Int):v∈v7 g↔v∈g.vs:=by unfold v7 qw;rw[List.mem_mergeSort,Ht];simp
theorem aaB(g:Gm)(h:g.shape=true):(v7 g).length<=100001:=by unfold v7;rw[LK];exact Ky (M2 g.vs [] .nil) fun v aK=>EN g.sz g (c7 _) h v (by simpa[Ht]using aK)
def o1(g:Gm)(n:Int):Bool:=(v7 g).all fun v=>decide (v<n)
theorem Ms(g:Gm)(n:Int):o1 g n=true↔Mr g n:=by unfold o1 Mr;rw[hq];exact⟨fun h v aK=>by simpa using h v ((P8 g v).2 aK),fun h v aK=>by simpa using h v ((P8 g v).1 aK)⟩
theorem adF{l:List Int}{i:Nat}(h:i<(eg l).length):(eg l)[i]= .int .i64 (l[i]'(by simpa using h)):=by simp[eg]
theorem Mn(g:Gm)(h:g.shape=true)(n:Int):ct aQ 120 [g.e,.int .i64 n] (.bool (o1 g n)):=by
 have iq:=ah2 g h;have hlen:=aaB g h;unfold o1;generalize v7 g=l at iq hlen⊢;generalize bH:(l.all fun v=>decide (v<n))=R;refine bW kU ZM afr fun aL=>?_;unfold NZ;clear aL;simp;(with_reducible repeat' first|refine av ?_|refine ba iq ?_|refine bb iq ?_|simp);refine gP (fun i (_:Unit)=>⟨[(1,.int .i64 n),(8,.slice 1 .no (eg l)),(9,.int .i64 l.length),(10,.int .i64 i)],[],[],0,[]⟩) l.length (oL (fun v=>decide (v<n)) l) () (by simp;exact cX) (fun k b aa=>Ω) (fun _ aD _=>?_) (fun i _ aE aD _=>?_)
 ·have:R=true:=by rw[<-bH];exact aD.fin
  subst this;clear aD bH;exact cB
 ·obtain⟨v,aK⟩:∃v,l[i]? =some v:=⟨_,cS aE⟩;have akQ:∀h,((eg l)[i]'h)= .int .i64 v:=fun h=>by rw[adF h];rw[cS aE]at aK;rw[hd aK]
  have cb:aZ ((i:Int)+1):=by unfold aZ;omega
  by_cases Ry:v<n
  ·have aJ:=aD.step aK (by simpa using Ry);have J:¬n<=v:=Ω
   clear aD bH;exact wS
  ·have:R=false:=by rw[<-bH];exact xi aK (by simpa using Ry)
   subst this;have J:n<=v:=Ω
   clear aD bH;exact cB
theorem Mm(l:List aV):ct aQ 253 [.slice 4 .no (l.map enc)] (.bool (l.all aV.fits)):=by
 generalize bH:l.all aV.fits=R;refine bW lP Z1 afG fun aL=>?_;unfold Og;have gg:l.length<=68719476736:=by simp[lY,kn,kX,bs]at aL;omega
 clear aL;simp;refine gP (fun i (_:Unit)=>⟨[(5,.slice 4 .no (l.map enc)),(6,.int .i64 l.length),(7,.int .i64 i)],[],[],0,[]⟩) l.length (oL aV.fits l) () cX (fun k b aa=>Ω) (fun _ aD _=>?_) (fun i _ aE aD _=>?_)
 ·have:R=true:=by rw[<-bH];exact aD.fin
  subst this;clear aD bH;exact cB
 ·obtain⟨t,aI,adj⟩:=gp aE;have cW:=ain t;cases g:t.fits
  ·rw[g]at cW;have:R=false:=by rw[<-bH];exact xi aI g
   subst this;clear aI aD bH;exact cB
  ·rw[g]at cW;have aJ:=aD.step aI g;clear aI aD bH;exact wS
mutual
def ls:Gm->Int->Int
 | .mk _ _ _ gs,m=>om gs 1 m
def om:List Gm->Int->Int->Int
 |[],n,_=>n
 |x::xs,n,m=>if m<n then n else om xs (n+ls x (m-n)) m
end
mutual
theorem H8:∀(t:Gm) (m:Int),0<=m->1<=ls t m/\ls t m<=m+1
 | .mk _ _ _ gs,m,h=>by simp only[ls];exact OX gs 1 m h Ω Ω
theorem OX:∀(l:List Gm) (n m:Int),0<=m->1<=n->n<=m+1->1<=om l n m/\om l n m<=m+1
 |[],n,m,_,I,J=>by simp only[om];exact⟨I,J⟩
 |x::xs,n,m,bK,I,J=>by
  simp only[om];split
  ·exact⟨I,J⟩
  ·have:=H8 x (m-n) Ω;exact OX xs _ m bK Ω Ω
end
mutual
theorem H9:∀(t:Gm) (m:Int),0<=m->(ls t m<=m↔(t.sz:Int)<=m)/\((t.sz:Int)<=m->ls t m=t.sz)
 | .mk _ _ _ gs,m,h=>by have:=OY gs 1 m h Ω;simp only[ls,Gm.sz];exact⟨this.1.trans Ω,fun h=>by rw[this.2 Ω];omega⟩
theorem OY:∀(l:List Gm) (n m:Int),0<=m->1<=n->(om l n m<=m↔n+(jQ l:Int)<=m)/\(n+(jQ l:Int)<=m->om l n m=n+jQ l)
 |[],n,m,_,I=>by simp[om,jQ]
 |x::xs,n,m,bK,I=>by
  simp only[om,jQ];have bn:=x.sz_pos;by_cases hm:m<n
  ·rw[bP hm];exact⟨Ω,fun h=>Ω⟩
  ·rw[bo hm];obtain⟨b4,a2⟩:=H9 x (m-n) Ω;have a3:=H8 x (m-n) Ω;obtain⟨ck,cr⟩:=OY xs (n+ls x (m-n)) m bK Ω;by_cases ad:(x.sz:Int)<=m-n
   ·rw[a2 ad]at ck cr⊢;exact⟨ck.trans Ω,fun h=>by rw[cr Ω];omega⟩
   ·have:¬ls x (m-n)<=m-n:=fun h=>ad (b4.1 h);exact⟨ck.trans ⟨fun h=>Ω,fun h=>Ω⟩,fun h=>Ω⟩
end
theorem XP(g:Gm)(m:Int):ls g m=om g.gs 1 m:=by cases g;rfl
theorem VR:∀(k:Nat) (t:Gm),t.sz<=k->∀m:Int,0<=m->m<=1000000->ct aQ 210 [t.e,.int .i64 m] (.int .i64 (ls t m)):=by
 intro k;induction k with
 |zero=>intro t aI;have:=t.sz_pos;omega
 |succ k bp=>
  intro t aI m bK I;refine bW lP aab afQ fun aL=>?_;unfold Ou;have gg:t.gs.length<=68719476736:=by rw[Gm.e_eq]at aL;simp[lY,kn,kX,bs]at aL;omega
  clear aL;simp;refine gP (fun i (n:Int)=>⟨[(1,.int .i64 m),(5,.int .i64 n),(9,.slice 4 .no (t.gs.map Gm.e)),(10,.int .i64 t.gs.length),(11,.int .i64 i)],[],[],0,[]⟩) t.gs.length (fun i n=>(1<=n/\n<=m+1)/\om (t.gs.drop i) n m=ls t m) 1 (by simp;exact cX) ⟨Ω,by simp[XP]⟩ (fun n aD _=>?_) (fun i n aE aD _=>?_)
  ·have he:n=ls t m:=by have:=aD.2;simp[om]at this;exact this
   subst he;clear aD;exact cB
  ·obtain⟨⟨mF,uV⟩,aD⟩:=aD;obtain⟨x,ad,gr⟩:=gp aE;have aP:t.gs.drop i=x::t.gs.drop (i+1):=by rw[uk aE,gr]
   have ef:x.sz<=k:=by have:=t.gs_lt (fq ad);omega
   have cb:aZ ((i:Int)+1):=by unfold aZ;omega
   rw[aP]at aD;simp only[om]at aD;by_cases ao:m<n
   ·rw[bP ao]at aD;subst aD;clear bp;exact cB
   ·rw[bo ao]at aD;have aH:=H8 x (m-n) Ω;have fD:=bp x ef (m-n) Ω Ω;have en:aZ (m-n):=by unfold aZ;omega
    have akq:aZ (n+ls x (m-n)):=by unfold aZ;omega
    have jl:(1<=n+ls x (m-n)/\n+ls x (m-n)<=m+1)/\om (t.gs.drop (i+1)) (n+ls x (m-n)) m=ls t m:=⟨Ω,aD⟩;clear bp;have wB:=fD;exact wS
mutual
def _root_.Go.Pv.Gm.w:Gm->Nat
 | .mk _ _ t g=>1+aV.szL t+mZ g
def mZ:List Gm->Nat
 |[]=>0
 |x::xs=>x.w+mZ xs
end
theorem IP:∀l:List Gm,mZ l=(l.map Gm.w).sum
 |[]=>rfl
 |x::l=>by simp[mZ,IP l]
theorem AM:∀l:List aV,aV.szL l=(l.map aV.sz).sum
 |[]=>rfl
 |x::l=>by simp[aV.szL,AM l]
theorem MA(g:Gm):g.w=1+(g.ts.map aV.sz).sum+(g.gs.map Gm.w).sum:=by rw[<-IP,<-AM];cases g;rfl
theorem RZ(L:List (List ah)):(fK [32] L).length<=(L.map fun x=>x.length+1).sum:=by
 induction L with
 |nil=>simp[fK]
 |cons x r bp=>
  cases r with
  |nil=>simp[fK]
  |cons y r=>simp only[fK,fU,ek,qD,List.length_singleton]at bp⊢;omega
theorem ahF{t:aV}(h:t.fits=true):(iu t).length<=26*t.sz:=by
 obtain⟨x,rfl,J⟩:=aV.fits_ex h;have:=Ex x (p4 J);rw[GY];have e:x.tm.sz=x.size:=by
  clear this J h;induction x with
  |pair a b qe qf=>simp[T.tm,aV.sz,aV.szL,T.size,qe,qf];omega
  |_=>rfl
 omega
theorem zl(g:Gm):ff g=if g.kind=0\/g.kind=1 then h0 g.kind else 40::(fK [32] ((if g.kind=9 then g.name else h0 g.kind)::(g.ts.map iu++g.gs.map ff))++[41]):=by cases g;simp only[ff,Ew,Gm.kind,Gm.name,Gm.ts,Gm.gs];rfl
theorem QR(k:Int):(h0 k).length<=12:=by
 unfold h0;repeat' split
 all_goals decide
theorem LG{g:Gm}(h:g.shape=true):g.name.length<=12:=by
 rw[qu,bF]at h;obtain⟨_,h⟩:=h;split at h
 ·simp at h;rw[h.1.1.1];simp
 ·split at h
  ·simp at h;have:=h.1.1;unfold eS at this;rw[bF]at this;exact F1 this.2
  ·split at h
   ·simp at h;rw[h.1.1.1];simp
   ·split at h
    ·simp at h;rw[h.1.1.1];simp
    ·cases h
theorem LR{α:Type}{f g:α->Nat}{k:Nat}:∀{l:List α},(∀x∈l,f x<=k*g x)->(l.map f).sum<=k*(l.map g).sum
 |[],_=>by simp
 |x::l,h=>by have I:=h x Ψ;have J:=LR (l:=l) fun y bB=>h y (by simp[bB]);simp only[ek,qD,Nat.mul_add];omega
theorem BG:∀(n:Nat) (g:Gm),g.sz<=n->g.shape=true->(ff g).length+1<=30*g.w:=by
 intro n;induction n with
 |zero=>intro g aR;have:=g.sz_pos;omega
 |succ n bp=>
  intro g aR au;rw[zl,MA];split
  ·have:=QR g.kind;omega
  ·have I:(if g.kind=9 then g.name else h0 g.kind).length<=12:=by
    split
    ·exact LG au
    ·exact QR _
   have J:=RZ ((if g.kind=9 then g.name else h0 g.kind)::(g.ts.map iu++g.gs.map ff));have aA:((g.ts.map iu).map fun x=>x.length+1).sum<=27*(g.ts.map aV.sz).sum:=by
    rw[List.map_map];refine LR fun t aI=>?_;have:=ahF (ua au t aI);have bn:1<=t.sz:=by cases t;simp[aV.sz]
    simp only[Function.comp];omega
   have aS:((g.gs.map ff).map fun x=>x.length+1).sum<=30*(g.gs.map Gm.w).sum:=by rw[List.map_map];exact LR fun x ad=>bp x (by have:=g.gs_lt ad;omega) (sI au x ad)
   simp only[ek,List.map_append,qD,List.sum_append]at J;simp only[ga,fU,mh];omega
abbrev Vf:List (Int×al):=nG 10 (.str [110,111,116]) (nG 8 (.str [111,114]) (nG 7 (.str [97,110,100]) (nG 6 (.str [97,98,115,101,110,116]) (nG 5 (.str [110,117,109,98,101,114]) (nG 4 (.str [115,121,109,98,111,108]) (nG 3 (.str [47,61]) (nG 2 (.str [61]) [])))))))
theorem FX(f:aO->a1 (List al))(m:aO)(k:Int)(hm:f m=some (lJ Vf)):oN f .i (.str []) false (.gmap m) (.int .i64 k)=some (True,.str (if k=0\/k=1 then []else h0 k)):=by
 rw[np _ _ _ _ false k hm];have e:Vf=[(2,.str [61]),(3,.str [47,61]),(4,.str [115,121,109,98,111,108]),(5,.str [110,117,109,98,101,114]),(6,.str [97,98,115,101,110,116]),(7,.str [97,110,100]),(8,.str [111,114]),(10,.str [110,111,116])]:=rfl;rw[e];by_cases J:k=2
 ·subst J;rfl
 by_cases aA:k=3
 ·subst aA;rfl
 by_cases aS:k=4
 ·subst aS;rfl
 by_cases bG:k=5
 ·subst bG;rfl
 by_cases cq:k=6
 ·subst cq;rfl
 by_cases dW:k=7
 ·subst dW;rfl
 by_cases fZ:k=8
 ·subst fZ;rfl
 by_cases fh:k=10
 ·subst fh;rfl
 have h:(if k=0\/k=1 then([]:List ah)else h0 k)=[]:=by
  split
  ·rfl
  ·rename_i h;rw[not_or]at h;simp[h0,J,aA,aS,bG,cq,dW,fZ,fh,h.1,h.2]
 rw[h];simp[vO,J,aA,aS,bG,cq,dW,fZ,fh]
def td(g:Gm)(i:Nat)(p:List (List ah)):a6:=⟨[(1,.ptr (.loc 0) 0),(4,.slice 1 (.own (.loc 2)) (cl p)),(27,.slice 4 .no (g.ts.map enc)),(28,.int .i64 g.ts.length),(29,.int .i64 i)],[(.loc 0,[.int .i64 g.kind,.str g.name,.slice 4 .no (g.ts.map enc),.slice 4 .no (g.gs.map Gm.e)])],[(.loc 2,⟨p.length,9,1,none⟩)],3,[]⟩
def te(g:Gm)(i:Nat)(p:List (List ah)):a6:=⟨[(4,.slice 1 (.own (.loc 2)) (cl p)),(40,.slice 4 .no (g.gs.map Gm.e)),(41,.int .i64 g.gs.length),(42,.int .i64 i)],[],[(.loc 2,⟨p.length,9,1,none⟩)],3,[]⟩
theorem FV{α β:Type}(f:α->β){l:List α}{i:Nat}{x:α}(h:l[i]? =some x):(l.map f).take (i+1)=(l.map f).take i++[f x]:=by rw[kV,pQ,h];simp
theorem oW(x:List ah)(l:List (List ah)):cl (x::l)= .str x::cl l:=rfl
theorem pE:cl []=[]:=rfl
theorem ub(a b:List (List ah)):cl (a++b)=cl a++cl b:=List.map_append
theorem FP{α:Type}(f:α->Nat){x:α}:∀{l:List α},x∈l->f x<=(l.map f).sum
 |y::l,h=>by
  simp only[ek,qD];rcases gb.1 h with rfl|h
  ·omega
  ·have:=FP f h;omega
theorem VM:∀(n:Nat) (g:Gm),g.sz<=n->g.shape=true->g.w<=100000000->ct aQ 65 [g.e] (.str (ff g)):=by
 intro n;induction n with
 |zero=>intro g aR;have:=g.sz_pos;omega
 |succ n bp=>
 intro g aR au hw;refine bW kU Zx afc fun aL=>?_;unfold NK;clear aL;simp;by_cases bK:g.kind=0
 ·rw[show ff g=hb by rw[zl,bK];rfl];(with_reducible repeat' first|refine av ?_|simp[FX,bK,-np]);simp[b8,KV,bg,bh,bf];rfl
 by_cases I:g.kind=1
 ·rw[show ff g=hQ by rw[zl,I];rfl];(with_reducible repeat' first|refine av ?_|simp[FX,I,-np]);simp[b8,KV,bg,bh,bf];rfl
 have qY:(g.kind==0)=false:=jy.2 bK;have jn:(g.kind==1)=false:=jy.2 I;have k7:=Dv au;have IQ:¬(g.kind=0\/g.kind=1):=fun h=>h.elim bK I;by_cases ee:g.kind=9
 ·(with_reducible repeat' first|refine av ?_|simp[FX,ee,-np]);refine gP (td g) g.ts.length (fun i p=>p=g.name::(g.ts.map iu).take i) [g.name] (by simp[td,oW,pE,ee];exact cX) Ψ (fun p aD _=>?_) (fun i p aE aD _=>?_)
  ·rw[<-pR (f:=iu),kH]at aD;subst aD;simp[td];(with_reducible repeat' first|refine av ?_|simp);refine gP (te g) g.gs.length (fun i p=>p=g.name::(g.ts.map iu++(g.gs.map ff).take i)) (g.name::g.ts.map iu) (by simp[te,oW];exact cX) Ψ (fun p aD _=>?_) (fun i p aE aD _=>?_)
   ·rw[<-pR (f:=ff),kH]at aD;have B5:ff g=40::(fK [32] p++[41]):=by rw[zl,bo IQ,aD];simp[ee,ee]
    have nM:=BG g.sz g (c7 _) au;rw[B5]at nM⊢;simp only[ga,fU,mh]at nM;have jT:(fK [32] p).length<=bs:=by unfold bs;omega
    have hz:(fK [32] p).length+1<=bs:=by unfold bs;omega
    have acE:(fK [32] p).length+1+1<=bs:=by unfold bs;omega
    have acF:1+(fK [32] p).length<=bs:=by unfold bs;omega
    have acG:1+(fK [32] p).length+1<=bs:=by unfold bs;omega
    have q9:=Me p [32] jT;clear aD B5 nM bp;simp[te];exact cB
   ·obtain⟨x,ad,gr⟩:=gp aE;have qc:=fq ad;have fD:=bp x (by have:=g.gs_lt qc;omega) (sI au x qc) (by rw[MA]at hw;have:=FP Gm.w qc;omega)
    have fx:p.length+1<=bs:=by rw[aD];simp;unfold bs;omega
    have cb:aZ ((i:Int)+1):=by unfold aZ;omega
    have aJ:p++[ff x]=g.name::(g.ts.map iu++(g.gs.map ff).take (i+1)):=by rw[aD,FV ff ad];simp
    clear bp aD ad;simp[te,aE,gr];(with_reducible repeat' first|refine av ?_|refine ba fD ?_|refine bb fD ?_|simp[aE,gr,fx,cb]);refine bU.rng (p++[ff x]) aE aJ (by simp[te,ub,oW,pE];exact⟨by simp[fresh,aj,ak,bj,ag,Pv.look,bC],cg (by simp[fresh,aj,ak,bj,ag,Pv.look,bC]),ch (by simp[fresh,aj,ak,cc,ag,Pv.look,bC]),Ψ⟩)
  ·obtain⟨x,ad,gr⟩:=gp aE;have fD:=VD x (ua au x (fq ad));have fx:p.length+1<=bs:=by rw[aD];simp;unfold bs;omega
   have cb:aZ ((i:Int)+1):=by unfold aZ;omega
   have aJ:p++[iu x]=g.name::(g.ts.map iu).take (i+1):=by rw[aD,FV iu ad];simp
   clear bp aD ad;simp[td,aE,gr];(with_reducible repeat' first|refine av ?_|refine ba fD ?_|refine bb fD ?_|simp[aE,gr,fx,cb]);refine bU.rng (p++[iu x]) aE aJ (by simp[td,ub,oW,pE];exact⟨by simp[fresh,aj,ak,bj,ag,Pv.look,bC],cg (by simp[fresh,aj,ak,bj,ag,Pv.look,bC]),ch (by simp[fresh,aj,ak,cc,ag,Pv.look,bC]),Ψ⟩)
 ·have QI:(g.kind==9)=false:=jy.2 ee;(with_reducible repeat' first|refine av ?_|simp[FX,qY,jn,QI,IQ,-np]);refine gP (td g) g.ts.length (fun i p=>p=h0 g.kind::(g.ts.map iu).take i) [h0 g.kind] (by simp[td,oW,pE,ee];exact cX) Ψ (fun p aD _=>?_) (fun i p aE aD _=>?_)
  ·rw[<-pR (f:=iu),kH]at aD;subst aD;simp[td];(with_reducible repeat' first|refine av ?_|simp);refine gP (te g) g.gs.length (fun i p=>p=h0 g.kind::(g.ts.map iu++(g.gs.map ff).take i)) (h0 g.kind::g.ts.map iu) (by simp[te,oW];exact cX) Ψ (fun p aD _=>?_) (fun i p aE aD _=>?_)
   ·rw[<-pR (f:=ff),kH]at aD;have B5:ff g=40::(fK [32] p++[41]):=by rw[zl,bo IQ,aD];simp[QI,ee]
    have nM:=BG g.sz g (c7 _) au;rw[B5]at nM⊢;simp only[ga,fU,mh]at nM;have jT:(fK [32] p).length<=bs:=by unfold bs;omega
    have hz:(fK [32] p).length+1<=bs:=by unfold bs;omega
    have acE:(fK [32] p).length+1+1<=bs:=by unfold bs;omega
    have acF:1+(fK [32] p).length<=bs:=by unfold bs;omega
    have acG:1+(fK [32] p).length+1<=bs:=by unfold bs;omega
    have q9:=Me p [32] jT;clear aD B5 nM bp;simp[te];exact cB
   ·obtain⟨x,ad,gr⟩:=gp aE;have qc:=fq ad;have fD:=bp x (by have:=g.gs_lt qc;omega) (sI au x qc) (by rw[MA]at hw;have:=FP Gm.w qc;omega)
    have fx:p.length+1<=bs:=by rw[aD];simp;unfold bs;omega
    have cb:aZ ((i:Int)+1):=by unfold aZ;omega
    have aJ:p++[ff x]=h0 g.kind::(g.ts.map iu++(g.gs.map ff).take (i+1)):=by rw[aD,FV ff ad];simp
    clear bp aD ad;simp[te,aE,gr];(with_reducible repeat' first|refine av ?_|refine ba fD ?_|refine bb fD ?_|simp[aE,gr,fx,cb]);refine bU.rng (p++[ff x]) aE aJ (by simp[te,ub,oW,pE];exact⟨by simp[fresh,aj,ak,bj,ag,Pv.look,bC],cg (by simp[fresh,aj,ak,bj,ag,Pv.look,bC]),ch (by simp[fresh,aj,ak,cc,ag,Pv.look,bC]),Ψ⟩)
  ·obtain⟨x,ad,gr⟩:=gp aE;have fD:=VD x (ua au x (fq ad));have fx:p.length+1<=bs:=by rw[aD];simp;unfold bs;omega
   have cb:aZ ((i:Int)+1):=by unfold aZ;omega
   have aJ:p++[iu x]=h0 g.kind::(g.ts.map iu).take (i+1):=by rw[aD,FV iu ad];simp
   clear bp aD ad;simp[td,aE,gr];(with_reducible repeat' first|refine av ?_|refine ba fD ?_|refine bb fD ?_|simp[aE,gr,fx,cb]);refine bU.rng (p++[iu x]) aE aJ (by simp[td,ub,oW,pE];exact⟨by simp[fresh,aj,ak,bj,ag,Pv.look,bC],cg (by simp[fresh,aj,ak,bj,ag,Pv.look,bC]),ch (by simp[fresh,aj,ak,cc,ag,Pv.look,bC]),Ψ⟩)
theorem UP:cl hN=[.str [116,114,117,101],.str [102,97,105,108],.str [115,121,109,98,111,108],.str [110,117,109,98,101,114],.str [97,98,115,101,110,116],.str [97,110,100],.str [111,114],.str [110,111,116],.str [100,101,102,105,110,101]]:=rfl
theorem VX(s:List ah):ct aQ 128 [.str s] (.bool (eS s)):=by
 have cU:=gZ s;generalize bH:eS s=R;refine bW lP ZS afx fun aL=>?_;unfold N5;clear aL;simp[<-UP];refine⟨by rw[UP];simp[qQ],?_⟩;refine gP (fun i (_:Unit)=>⟨[(0,.str s),(5,.slice 1 (.own (.loc 0)) (cl hN)),(6,.int .i64 hN.length),(7,.int .i64 i)],[],[(.loc 0,⟨9,9,1,none⟩)],1,[]⟩) hN.length (oL (fun w=>w !=s) hN) () cX (fun k b aa=>Ω) (fun _ aD _=>?_) (fun i _ aE aD _=>?_)
 ·have aJ:hN.contains s=false:=by
   have:=(show oL (fun w=>w !=s) hN hN.length ()from aD).fin;rw[hq]at this;cases aH:hN.contains s with
   |false=>rfl
   |true=>
    have I:s∈hN:=by simpa using aH
    have:=this s I;simp at this
  have:R=fA s:=by rw[<-bH,eS,aJ];rfl
  rw[this];clear bH aD;exact cB
 ·have h2:i<hN.length:=aE;obtain⟨w,hw⟩:∃w,hN[i]? =some w:=⟨_,cS h2⟩;have adp:∀h,((cl hN)[i]'h)= .str w:=fun h=>by rw[mc h2];rw[cS h2]at hw;rw[hd hw]
  have akH:(i:Int)<9:=by have h:i<9:=h2;omega
  have cb:aZ ((i:Int)+1):=by unfold aZ;omega
  have acH:i<(cl hN).length:=h2;have q4:(cl hN)[i]? =some (.str w):=by rw[cS acH,adp]
  by_cases he:w=s
  ·have:R=false:=by
    rw[<-bH,eS];have:hN.contains s=true:=by rw[<-he];simpa using fq hw
    rw[this];rfl
   subst this;subst he;clear bH aD;exact cB
  ·have aJ:=aD.step hw (by simpa using he);have akA:(w==s)=false:=by simpa using he
   clear bH aD;exact wS
def w1(k:Int)(n:Int):Int:=if k=9 then n else lb k
def hdS(g:Gm):Prop:=(g.ts.length:Int)=w1 g.kind g.ts.length/\g.ts.length<=4/\(g.kind<7->g.gs=[])/\g.gs.length<=8
def sM(g:Gm):Bool:=if g.kind=6 then(match g.ts with|x::_=>decide (x.kind=2)|[]=>false)else if g.kind=9 then g.gs.isEmpty&&eS g.name else if g.kind=10 then(match g.gs with|[x]=>decide (x.kind=9)|_=>false)else true
theorem aeE(k:Int):0<=lb k/\lb k<=2:=by
 unfold lb;repeat' split
 all_goals omega
theorem U0(g:Gm):g.shape=true↔(0<=g.kind/\g.kind<=10)/\(g.kind≠9->g.name=[])/\g.ts.all aV.fits=true/\hdS g/\g.gs.all Gm.shape=true/\sM g=true:=by
 rw[qu,bF];have aJ:=aeE g.kind;unfold hdS w1 sM;by_cases I:0<=g.kind/\g.kind<=6
 ·rw[bP I,bo (show¬g.kind=9 by omega)];by_cases cq:g.kind=6
  ·simp[cq];constructor
   ·rintro⟨a,⟨⟨b,c⟩,d⟩,e⟩;rw[c]at*;refine⟨b,a,⟨d,by rw[cq]at aJ;omega,rfl,Ψ⟩,Ψ,e⟩
   ·rintro⟨a,b,⟨c,d,e,_⟩,_,f⟩;exact⟨b,⟨⟨a,e⟩,c⟩,f⟩
  ·have aeD:¬g.kind=9:=Ω
   have n10:¬g.kind=10:=Ω
   simp[cq,aeD,n10];constructor
   ·rintro⟨a,⟨b,c⟩,d⟩;rw[c];exact⟨Ω,b,a,⟨d,Ω,fun _=>rfl,Ψ⟩,Ψ⟩
   ·rintro⟨_,a,b,⟨c,d,e,_⟩,_⟩;exact⟨b,⟨a,e Ω⟩,c⟩
 ·rw[bo I];by_cases ee:g.kind=9
  ·simp[ee];intro _;constructor
   ·rintro⟨⟨b,c⟩,d⟩;rw[c];exact⟨⟨d,Ψ⟩,Ψ,rfl,b⟩
   ·rintro⟨⟨b,c⟩,d,e,f⟩;exact⟨⟨f,e⟩,b⟩
  ·rw[bo ee];by_cases xM:g.kind=7\/g.kind=8
   ·rw[bP xM];have cp:lb g.kind=0:=by rcases xM with h|h<;>rw[h]<;>rfl
    rw[cp];rcases xM with h|h;all_goals
     simp[h]
     constructor
     ·rintro⟨a,⟨⟨b,c⟩,d⟩,e⟩
      rw[c];exact⟨b,Ψ,⟨rfl,Ψ,d⟩,e⟩
     ·rintro⟨a,b,⟨c,d,e⟩,f⟩
      exact⟨b,⟨⟨a,c⟩,e⟩,f⟩
   ·rw[bo xM];by_cases fh:g.kind=10
    ·simp[fh,lb];constructor
     ·rintro⟨a,⟨⟨b,c⟩,d⟩,e⟩;rw[c];refine⟨b,Ψ,⟨rfl,Ψ,?_⟩,e,d⟩;split at d
      ·rename_i x ad;rw[ad];simp
      ·cases d
     ·rintro⟨a,b,⟨c,d,e⟩,f,h⟩;exact⟨b,⟨⟨a,c⟩,h⟩,f⟩
    ·rw[bo fh];constructor
     ·rintro⟨_,h⟩;cases h
     ·rintro⟨h,_⟩;omega
theorem ahj(g:Gm)(h:¬(0<=g.kind/\g.kind<=10)):ct aQ 211 [g.e] (.bool false):=by have ey:=et g.kind 0 10;rw[decide_eq_false h]at ey;refine bW lP tv tT fun aL=>?_;unfold rP;clear aL;exact cB
theorem ahl(g:Gm)(h:0<=g.kind/\g.kind<=10)(ee:¬g.kind=9)(aJ:g.name.isEmpty=false):ct aQ 211 [g.e] (.bool false):=by
 have ey:=et g.kind 0 10;rw[nD h]at ey;have xN:(g.kind !=9)=true:=by simpa using ee
 refine bW lP tv tT fun aL=>?_;unfold rP;clear aL;exact cB
theorem ahm(g:Gm)(h:0<=g.kind/\g.kind<=10)(aJ:g.kind≠9->g.name.isEmpty=true)(aI:g.ts.all aV.fits=false):ct aQ 211 [g.e] (.bool false):=by
 have ey:=et g.kind 0 10;rw[nD h]at ey;have eF:=Mm g.ts;rw[aI]at eF;by_cases ee:g.kind=9
 ·have xN:(g.kind !=9)=false:=by simpa using ee
  refine bW lP tv tT fun aL=>?_;unfold rP;clear aL;simp;((with_reducible repeat' first|refine av ?_|refine ba ey ?_|refine bb ey ?_|refine ba eF ?_|refine bb eF ?_|simp[xN]|((first|apply cN|apply cP|apply cO)<;>intro h<;>try simp at h))<;>(try exact dr));simp[b8,Ay,bg,bh,bf]
 ·have xN:(g.kind !=9)=true:=by simpa using ee
  have gS:=aJ ee;refine bW lP tv tT fun aL=>?_;unfold rP;clear aL;exact cB
set_option maxRecDepth 8000 in
theorem ahi(g:Gm)(h:0<=g.kind/\g.kind<=10)(aJ:g.kind≠9->g.name.isEmpty=true)(aI:g.ts.all aV.fits=true)(hB:¬hdS g):ct aQ 211 [g.e] (.bool false):=by
 have ey:=et g.kind 0 10;rw[nD h]at ey;have eF:=Mm g.ts;rw[aI]at eF;have pg:g.kind=0\/g.kind=1\/g.kind=2\/g.kind=3\/g.kind=4\/g.kind=5\/g.kind=6\/g.kind=7\/g.kind=8\/g.kind=9\/g.kind=10:=Ω
 have gS:g.kind≠9->g.name.isEmpty=true:=aJ;have x1:∀l:List Gm,decide ((0:Int)<l.length)= !l.isEmpty:=fun l=>by cases l<;>simp
 clear h aI aJ;have ER:¬((g.ts.length:Int)=w1 g.kind g.ts.length/\g.ts.length<=4/\(g.kind<7->g.gs=[])/\g.gs.length<=8):=hB;clear hB;by_cases ee:g.kind=9
 ·rw[ee]at ER ey;simp[w1]at ER;clear pg gS;refine bW lP tv tT fun aL=>?_;unfold rP;clear aL;simp;simp[ee];((with_reducible repeat' first|refine av ?_|refine ba ey ?_|refine bb ey ?_|refine ba eF ?_|refine bb eF ?_|simp[ee,x1]|((first|apply cN|apply cP|apply cO)<;>intro h<;>try simp at h))<;>(try exact dr));all_goals first|(simp[b8,Ay,bg,bh,bf];done)|(exfalso;clear ey eF;simp_all;done)|(exfalso;clear ey eF;simp_all;omega)|(exfalso;clear ey eF;grind)
 have pg:g.kind=0\/g.kind=1\/g.kind=2\/g.kind=3\/g.kind=4\/g.kind=5\/g.kind=6\/g.kind=7\/g.kind=8\/g.kind=10:=Ω
 rcases pg with aa|aa|aa|aa|aa|aa|aa|aa|aa|aa;all_goals
  rw[aa]at ER
  simp[w1,lb]at ER
  have iD:=gS Ω
  rw[aa]at ey
  refine bW lP tv tT fun aL=>?_;unfold rP
  clear aL
  simp
  simp[aa]
  ((with_reducible repeat' first|refine av ?_|refine ba ey ?_|refine bb ey ?_|refine ba eF ?_|refine bb eF ?_|simp[aa,iD,x1]|((first|apply cN|apply cP|apply cO)<;>intro h<;>try simp at h))<;>(try exact dr))
  all_goals first|(simp[b8,Ay,bg,bh,bf];done)|(exfalso;clear ey eF;simp_all;done)|(exfalso;clear ey eF;simp_all;omega)|(exfalso;clear ey eF;grind)
def jA(g:Gm)(i:Nat)(_:Unit):a6:=⟨[(1,.ptr (.loc 0) 0),(61,.slice 4 .no (g.gs.map Gm.e)),(62,.int .i64 g.gs.length),(63,.int .i64 i)],[(.loc 0,[.int .i64 g.kind,.str g.name,.slice 4 .no (g.ts.map enc),.slice 4 .no (g.gs.map Gm.e)])],[],2,[]⟩
set_option maxRecDepth 8000 in
theorem ahk(g:Gm)(h:0<=g.kind/\g.kind<=10)(aJ:g.kind≠9->g.name.isEmpty=true)(aI:g.ts.all aV.fits=true)(hB:hdS g)(bp:∀x∈g.gs,ct aQ 211 [x.e] (.bool x.shape)):ct aQ 211 [g.e] (.bool (g.gs.all Gm.shape&&sM g)):=by
 have ey:=et g.kind 0 10;rw[nD h]at ey;have eF:=Mm g.ts;rw[aI]at eF;have pg:g.kind=0\/g.kind=1\/g.kind=2\/g.kind=3\/g.kind=4\/g.kind=5\/g.kind=6\/g.kind=7\/g.kind=8\/g.kind=9\/g.kind=10:=Ω
 have gS:g.kind≠9->g.name.isEmpty=true:=aJ;have x1:∀l:List Gm,decide ((0:Int)<l.length)= !l.isEmpty:=fun l=>by cases l<;>simp
 clear h aI aJ;obtain⟨ck,cr,fo,Bn⟩:=hB;have y2:¬(4:Int)<g.ts.length:=Ω
 have D0:¬(8:Int)<g.gs.length:=Ω
 generalize bH:(g.gs.all Gm.shape&&sM g)=R;have Jc:g.gs.length<=1000000:=Ω
 by_cases ee:g.kind=9
 ·rw[ee]at ey;clear pg gS;refine bW lP tv tT fun aL=>?_;unfold rP;clear aL;simp;simp[ee];(with_reducible repeat' first|refine av ?_|refine ba ey ?_|refine bb ey ?_|refine ba eF ?_|refine bb eF ?_|simp[ee,x1,y2,D0]);refine gP (jA g) g.gs.length (oL Gm.shape g.gs) () (by simp[jA,ee];exact cX) (fun k b aa=>Ω) (fun _ aD _=>?_) (fun i _ aE aD _=>?_);rotate_left
  ·obtain⟨y,bB,ih⟩:=gp aE;have ky:=bp y (fq bB);have cb:aZ ((i:Int)+1):=by unfold aZ;omega
   cases h7:y.shape
   ·have hY:R=false:=by rw[<-bH,xi bB h7];rfl
    subst hY;rw[h7]at ky;clear bH aD bp;simp[jA,ee,aE,ih];exact cB
   ·have jl:=aD.step bB h7;rw[h7]at ky;clear bH aD bp;simp[jA,ee,aE,ih];(with_reducible repeat' first|refine av ?_|refine ba ky ?_|refine bb ky ?_|simp[aE,ih,cb]);refine bU.rng () aE jl (by simp[jA,ee];exact cX)
  have hY:R=(g.gs.isEmpty&&eS g.name):=by rw[<-bH,aD.fin];simp[sM,ee]
  subst hY;clear bH aD bp;have nm:=VX g.name;cases cp:g.gs.isEmpty
  ·have adv:((g.gs.length:Int)==0)=false:=by rw[FQ,cp]
   simp[jA,ee];have wB:=nm;exact cB
  ·have adv:((g.gs.length:Int)==0)=true:=by rw[FQ,cp]
   simp[jA,ee];have wB:=nm;exact cB
 have iD:=gS ee;have Nf:g.kind<7->¬0<g.gs.length:=fun h=>by rw[fo h];simp
 clear fo gS;by_cases cq:g.kind=6
 ·rw[cq]at ck ey;simp only[w1,lb,Int.reduceEq,reduceIte]at ck;have fo:=Nf Ω;refine bW lP tv tT fun aL=>?_;unfold rP;clear aL;simp;simp[cq];(with_reducible repeat' first|refine av ?_|refine ba ey ?_|refine bb ey ?_|refine ba eF ?_|refine bb eF ?_|simp[cq,iD,x1,ck,fo,y2,D0]);refine gP (jA g) g.gs.length (oL Gm.shape g.gs) () (by simp[jA,cq];exact cX) (fun k b aa=>Ω) (fun _ aD _=>?_) (fun i _ aE aD _=>?_);rotate_left
  ·obtain⟨y,bB,ih⟩:=gp aE;have ky:=bp y (fq bB);have cb:aZ ((i:Int)+1):=by unfold aZ;omega
   cases h7:y.shape
   ·have hY:R=false:=by rw[<-bH,xi bB h7];rfl
    subst hY;rw[h7]at ky;clear bH aD bp;simp[jA,cq,aE,ih];exact cB
   ·have jl:=aD.step bB h7;rw[h7]at ky;clear bH aD bp;simp[jA,cq,aE,ih];(with_reducible repeat' first|refine av ?_|refine ba ky ?_|refine bb ky ?_|simp[aE,ih,cb]);refine bU.rng () aE jl (by simp[jA,cq];exact cX)
  obtain⟨x,y,e⟩:∃x y,g.ts=[x,y]:=Vr Ω;have hY:R=decide (x.kind=2):=by rw[<-bH,aD.fin];simp[sM,cq,e]
  subst hY;clear bH aD bp;simp[jA,cq,e];(with_reducible repeat' first|refine av ?_|simp[cq]);simp[b8,Ay,bg,bh,bf];rfl
 by_cases fh:g.kind=10
 ·rw[fh]at ck ey;simp only[w1,lb,Int.reduceEq,reduceIte]at ck;refine bW lP tv tT fun aL=>?_;unfold rP;clear aL;simp;simp[fh];(with_reducible repeat' first|refine av ?_|refine ba ey ?_|refine bb ey ?_|refine ba eF ?_|refine bb eF ?_|simp[fh,iD,x1,ck,y2,D0]);refine gP (jA g) g.gs.length (oL Gm.shape g.gs) () (by simp[jA,fh];exact cX) (fun k b aa=>Ω) (fun _ aD _=>?_) (fun i _ aE aD _=>?_);rotate_left
  ·obtain⟨y,bB,ih⟩:=gp aE;have ky:=bp y (fq bB);have cb:aZ ((i:Int)+1):=by unfold aZ;omega
   cases h7:y.shape
   ·have hY:R=false:=by rw[<-bH,xi bB h7];rfl
    subst hY;rw[h7]at ky;clear bH aD bp;simp[jA,fh,aE,ih];exact cB
   ·have jl:=aD.step bB h7;rw[h7]at ky;clear bH aD bp;simp[jA,fh,aE,ih];(with_reducible repeat' first|refine av ?_|refine ba ky ?_|refine bb ky ?_|simp[aE,ih,cb]);refine bU.rng () aE jl (by simp[jA,fh];exact cX)
  by_cases mE:g.gs.length=1
  ·obtain⟨x,e⟩:=List.length_eq_one_iff.1 mE;have hY:R=decide (x.kind=9):=by rw[<-bH,aD.fin];simp[sM,fh,e]
   subst hY;clear bH aD bp;simp[jA,fh,e];(with_reducible repeat' first|refine av ?_|simp[fh]);simp[b8,Ay,bg,bh,bf];rfl
  ·have hY:R=false:=by
    rw[<-bH,aD.fin];simp[sM,fh];split
    ·rename_i x ad;rw[ad]at mE;simp at mE
    ·rfl
   subst hY;have akC:((g.gs.length:Int)==1)=false:=jy.2 Ω;clear bH aD bp;simp[jA,fh];exact cB
 have pg:g.kind=0\/g.kind=1\/g.kind=2\/g.kind=3\/g.kind=4\/g.kind=5\/g.kind=7\/g.kind=8:=Ω
 rcases pg with aa|aa|aa|aa|aa|aa|aa|aa;all_goals
  rw[aa]at ck ey
  simp only[w1,lb,Int.reduceEq,reduceIte]at ck
  have fo:=Nf
  simp only[aa,Int.reduceLT,forall_const,false_imp_iff]at fo
  refine bW lP tv tT fun aL=>?_;unfold rP
  clear aL
  simp
  simp[aa]
  (with_reducible repeat' first|refine av ?_|refine ba ey ?_|refine bb ey ?_|refine ba eF ?_|refine bb eF ?_|simp[aa,iD,x1,ck,fo,y2,D0])
  refine gP (jA g) g.gs.length (oL Gm.shape g.gs) () (by simp[jA,aa];exact cX) (fun k b aa=>Ω) (fun _ aD _=>?_) (fun i _ aE aD _=>?_)
  rotate_left
  ·obtain⟨y,bB,ih⟩:=gp aE
   have ky:=bp y (fq bB)
   have cb:aZ ((i:Int)+1):=by unfold aZ;omega
   cases h7:y.shape
   ·have hY:R=false:=by rw[<-bH,xi bB h7];rfl
    subst hY
    rw[h7]at ky
    clear bH aD bp
    simp[jA,aa,aE,ih]
    exact cB
   ·have jl:=aD.step bB h7
    rw[h7]at ky
    clear bH aD bp
    simp[jA,aa,aE,ih]
    (with_reducible repeat' first|refine av ?_|refine ba ky ?_|refine bb ky ?_|simp[aE,ih,cb])
    refine bU.rng () aE jl (by simp[jA,aa];exact cX)
  have hY:R=true:=by rw[<-bH,aD.fin];simp[sM,aa]
  subst hY
  clear bH aD bp
  simp[jA,aa]
  exact cB
end
end Go.Proofs.YtlnndmgfngfeiaaGreatDoor

namespace Go.Proofs.YtlnndmgfngfeiaaGreatDoor
section
open Go Go.Pv
def lE(n:Int):List Int->List Int
 |[]=>[n]
 |c::l=>if c<n then c::lE n l else if c=n then c::l else n::c::l
def s3(l:List Int):Prop:=l.Pairwise (· < ·)
theorem RF(n:Int):∀(l:List Int) (k:Nat),(∀i c,i<k->l[i]? =some c->c<n)->(∀c,l[k]? =some c->n<=c)->k<=l.length->lE n l=if l[k]? =some n then l else l.take k++n::l.drop k
 |[],k,_,_,aa=>by simp at aa;subst aa;rfl
 |c::l,0,_,J,_=>by
  have:=J c rfl;by_cases e:c=n
  ·simp[lE,e]
  ·have aA:¬c<n:=Ω
   simp[lE,aA,e]
 |c::l,k+1,I,J,aa=>by have bK:=I 0 c Ω rfl;simp only[lE,bP bK,rI,List.drop_succ_cons,ds,List.getElem?_cons_succ];rw[RF n l k (fun i d aE aP=>I (i+1) d Ω (by simpa using aP)) (fun d aP=>J d (by simpa using aP)) (by simpa using aa)];split<;>rfl
theorem Kk{n m:Int}:∀{l:List Int},m∈lE n l↔m=n\/m∈l
 |[]=>by simp[lE]
 |c::l=>by
  simp only[lE];split
  ·simp only[gb,Kk (l:=l)];constructor
   ·rintro(h|h|h)
    ·exact .inr (.inl h)
    ·exact .inl h
    ·exact .inr (.inr h)
   ·rintro(h|h|h)
    ·exact .inr (.inl h)
    ·exact .inl h
    ·exact .inr (.inr h)
  ·split
   ·rename_i h;subst h;simp
   ·simp
theorem J0{n:Int}:∀{l:List Int},s3 l->s3 (lE n l)
 |[],_=>by simp[lE,s3]
 |c::l,h=>by
  obtain⟨I,J⟩:=List.pairwise_cons.1 h;simp only[lE];split
  ·rename_i aA;refine List.pairwise_cons.2 ⟨fun m hm=>?_,J0 J⟩;rcases Kk.1 hm with rfl|hm
   ·exact aA
   ·exact I m hm
  ·split
   ·exact h
   ·refine List.pairwise_cons.2 ⟨fun m hm=>?_,h⟩;rcases gb.1 hm with rfl|hm
    ·omega
    ·have:=I m hm;omega
theorem RG(n:Int):∀l:List Int,(lE n l).length<=l.length+1
 |[]=>by simp[lE]
 |c::l=>by
  have:=RG n l;simp only[lE];split
  ·simp;omega
  ·split<;>simp
theorem RJ(l:List Int)(i:Nat):(eg l)[i]? =(l[i]?).map (al.int .i64):=by simp[eg]
theorem yL:∀l:List Int,ca (eg l)=eg l
 |[]=>by simp[eg,ca]
 |a::l=>by have:=yL l;simp only[eg,ek,ca,cm]at this⊢;rw[this]
theorem FA(l:List Int)(n:Int)(k:Nat):ca (List.take k (eg l)++al.int .i64 n::List.drop k (List.take l.length (eg l)))=eg (List.take k l++n::List.drop k l):=by
 have e:List.take l.length (eg l)=eg l:=rH (by simp[eg]);have aU:List.take k (eg l)++al.int .i64 n::List.drop k (eg l)=eg (List.take k l++n::List.drop k l):=by simp only[eg,List.map_append,ek,List.map_take,List.map_drop]
 rw[e,aU];exact yL _
theorem ah5(l:List Int)(n:Int)(aG:l.length<=1000000)(bM:s3 l):ct aQ 212 [.slice 1 .no (eg l),.int .i64 n] (.slice 1 .no (eg (lE n l))):=by
 refine bW ji Z5 afK fun aL=>?_;unfold Ol;simp;refine Pp [0,1] (fun(k:Nat)=>[(5,.int .i64 k)]) (fun k=>k) (fun k=>k<=l.length/\∀c,l[k]? =some c->n<=c) l.length cX ⟨Ω,fun c h=>by simp at h⟩ (fun k aD _=>?_);obtain⟨aa,aD⟩:=aD;have jq:(∀c,0<k->l[k-1]? =some c->c<n)->lE n l=if l[k]? =some n then l else l.take k++n::l.drop k:=fun h=>RF n l k (fun i c aE aH=>by
  obtain⟨d,aP⟩:∃d,l[k-1]? =some d:=⟨_,cS Ω⟩;have I:=h d Ω aP;rcases lU i (k-1)with J|J
  ·have xW:=(eV.1 aH);have zG:=(eV.1 aP);have:=List.pairwise_iff_getElem.1 bM i (k-1) xW.1 zG.1 J;rw[xW.2,zG.2]at this;omega
  ·have:i=k-1:=Ω
   subst this;rw[aP]at aH;cases aH;exact I) aD aa
 have l2:∀c,l[k]? =some c->∀h,((eg l)[k]'h)= .int .i64 c:=fun c h cx=>by have:=RJ l k;rw[h,cS cx]at this;exact hd this
 have iZ:(0<k->∃d,l[k-1]? =some d/\d<n)->∀P:Prop,(lE n l=(if l[k]? =some n then l else l.take k++n::l.drop k)->P)->P:=fun h P hW=>hW (jq fun c bK aH=>by obtain⟨d,aP,I⟩:=h bK;rw[aP]at aH;cases aH;exact I)
 rcases Nat.eq_zero_or_pos k with bK|gW
 ·have cp:decide ((0:Int)<k)=false:=by simp;omega
  refine iZ (fun h=>Ω) _ fun e=>?_;by_cases e2:k<l.length
  ·obtain⟨c,aH⟩:∃c,l[k]? =some c:=⟨_,cS e2⟩;have nd:=l2 c aH;rw[aH]at e;by_cases q:c=n
   ·have iQ:(c==n)=true:=by simp[q]
    rw[bP (by rw[q])]at e;rw[e];simp[cp,e2];((with_reducible repeat' first|refine av ?_|simp[cp,e2,nd,iQ]|((first|apply cN|apply cP|apply cO)<;>intro h<;>try simp at h))<;>(try exact dr));all_goals simp[b8,yv,bg,bh,bf]
   ·have iQ:(c==n)=false:=by simp[q]
    rw[bo (by simp[q])]at e;rw[e];simp[cp,e2];((with_reducible repeat' first|refine av ?_|simp[cp,e2,nd,iQ]|((first|apply cN|apply cP|apply cO)<;>intro h<;>try simp at h))<;>(try exact dr));all_goals simp[b8,yv,bg,bh,bf]
    all_goals exact FA l n k
  ·rw[List.getElem?_eq_none Ω]at e;simp only[reduceCtorEq,if_false]at e;rw[e];simp[cp,e2];((with_reducible repeat' first|refine av ?_|simp[cp,e2]|((first|apply cN|apply cP|apply cO)<;>intro h<;>try simp at h))<;>(try exact dr));all_goals simp[b8,yv,bg,bh,bf]
   all_goals exact FA l n k
 ·obtain⟨d,aP⟩:∃d,l[k-1]? =some d:=⟨_,cS Ω⟩;have aB:((k:Int)-1).toNat=k-1:=Ω
  have aU:∀h,((eg l)[k-1]'h)= .int .i64 d:=fun cx=>by have:=RJ l (k-1);rw[aP,cS cx]at this;exact hd this
  have tH:(0:Int)<k:=Ω
  have wh:k-1<l.length:=Ω
  by_cases ao:n<=d
  ·simp[gW,tH,aB,aU,ao,wh];(with_reducible repeat' first|refine av ?_|simp[gW,tH,aB,aU,ao,wh]);refine bU.whl (k-1) Ω ⟨Ω,fun c aH=>by rw[aP]at aH;cases aH;exact ao⟩ ?_;have b1:((k-1:Nat):Int)=(k:Int)-1:=Ω
   simp[b1];exact cX
  ·refine iZ (fun _=>⟨d,aP,Ω⟩) _ fun e=>?_;by_cases e2:k<l.length
   ·obtain⟨c,aH⟩:∃c,l[k]? =some c:=⟨_,cS e2⟩;have nd:=l2 c aH;rw[aH]at e;by_cases q:c=n
    ·have iQ:(c==n)=true:=by simp[q]
     rw[bP (by rw[q])]at e;rw[e];simp[gW,tH,aB,aU,ao,wh,e2];((with_reducible repeat' first|refine av ?_|simp[gW,tH,aB,aU,ao,wh,e2,nd,iQ]|((first|apply cN|apply cP|apply cO)<;>intro h<;>try simp at h))<;>(try exact dr));all_goals simp[b8,yv,bg,bh,bf]
    ·have iQ:(c==n)=false:=by simp[q]
     rw[bo (by simp[q])]at e;rw[e];simp[gW,tH,aB,aU,ao,wh,e2];(with_reducible repeat' first|refine av ?_|simp[gW,tH,aB,aU,ao,wh,e2,nd,iQ]);all_goals simp[b8,yv,bg,bh,bf]
     all_goals exact FA l n k
   ·rw[List.getElem?_eq_none Ω]at e;simp only[reduceCtorEq,if_false]at e;rw[e];simp[gW,tH,aB,aU,ao,wh,e2];(with_reducible repeat' first|refine av ?_|simp[gW,tH,aB,aU,ao,wh,e2]);all_goals simp[b8,yv,bg,bh,bf]
    all_goals exact FA l n k
def kC:T->List Int->List Int
 | .var n,l=>lE n l
 | .pair a b,l=>kC b (kC a l)
 |_,l=>l
theorem Mp:∀(t:T) {l:List Int},s3 l->s3 (kC t l)
 | .var _,_,h=>J0 h
 | .pair a b,_,h=>Mp b (Mp a h)
 | .nil,_,h=>h
 | .sym _,_,h=>h
 | .num _,_,h=>h
theorem Mq:∀(t:T) (l:List Int),(kC t l).length<=l.length+t.size
 | .var n,l=>by have:=RG n l;simp only[kC,T.size];omega
 | .pair a b,l=>by have I:=Mq a l;have J:=Mq b (kC a l);simp only[kC,T.size];omega
 | .nil,l=>by simp[kC]
 | .sym _,l=>by simp[kC]
 | .num _,l=>by simp[kC]
theorem Mk:∀(t:T) (l:List Int),l.length+t.size<=1000000->s3 l->ct aQ 156 [t.e,.slice 1 .no (eg l)] (.slice 1 .no (eg (kC t l)))
 | .var n,l,aG,bM=>by
  simp only[T.size]at aG;have key:=ah5 l n Ω bM;refine bW ji BJ C2 fun aL=>?_;unfold y9;simp;(with_reducible repeat' first|refine av ?_|refine ba key ?_|refine bb key ?_|simp);all_goals simp[b8,Ax,bg,bh,bf]
  all_goals simp[kC,yL]
 | .pair a b,l,aG,bM=>by
  simp only[T.size]at aG;have alr:=Mq a l;have cE:=Mk a l Ω bM;have dj:=Mk b (kC a l) Ω (Mp a bM);refine bW ji BJ C2 fun aL=>?_;unfold y9;simp;refine BE [15,16] (fun i (_:Unit)=>[(1,.slice 1 .no (eg (if i=0 then l else if i=1 then kC a l else kC b (kC a l)))),(17,.int .i64 i)]) 2 (fun _ _=>True) () cX trivial (fun _ _ _=>?_) (fun i _ aE _ _=>?_)
  ·simp;(with_reducible repeat' first|refine av ?_|simp);simp[b8,Ax,bg,bh,bf];simp[kC,yL]
  ·rcases(by omega:i=0\/i=1)with rfl|rfl
   ·simp;((with_reducible repeat' first|refine av ?_|refine ba cE ?_|refine bb cE ?_|simp|((first|apply cN|apply cP|apply cO)<;>intro h<;>try simp at h))<;>(try exact dr));exact bU.rng () aE trivial cX
   ·simp;((with_reducible repeat' first|refine av ?_|refine ba dj ?_|refine bb dj ?_|simp|((first|apply cN|apply cP|apply cO)<;>intro h<;>try simp at h))<;>(try exact dr));exact bU.rng () aE trivial cX
 | .nil,l,aG,bM=>by refine bW ji BJ C2 fun aL=>?_;unfold y9;simp;refine BE [15,16] (fun i (_:Unit)=>[(1,.slice 1 .no (eg l)),(17,.int .i64 i)]) 0 (fun _ _=>True) () cX trivial (fun _ _ _=>?_) (fun i _ aE _ _=>Ω);simp;((with_reducible repeat' first|refine av ?_|simp|((first|apply cN|apply cP|apply cO)<;>intro h<;>try simp at h))<;>(try exact dr));simp[b8,Ax,bg,bh,bf];simp[kC,yL]
 | .sym _,l,aG,bM=>by refine bW ji BJ C2 fun aL=>?_;unfold y9;simp;refine BE [15,16] (fun i (_:Unit)=>[(1,.slice 1 .no (eg l)),(17,.int .i64 i)]) 0 (fun _ _=>True) () cX trivial (fun _ _ _=>?_) (fun i _ aE _ _=>Ω);simp;(with_reducible repeat' first|refine av ?_|simp);simp[b8,Ax,bg,bh,bf];simp[kC,yL]
 | .num _,l,aG,bM=>by refine bW ji BJ C2 fun aL=>?_;unfold y9;simp;refine BE [15,16] (fun i (_:Unit)=>[(1,.slice 1 .no (eg l)),(17,.int .i64 i)]) 0 (fun _ _=>True) () cX trivial (fun _ _ _=>?_) (fun i _ aE _ _=>Ω);simp;(with_reducible repeat' first|refine av ?_|simp);simp[b8,Ax,bg,bh,bf];simp[kC,yL]
theorem ah9:∀(n:Nat) (g:Gm),g.sz<=n->ct aQ 211 [g.e] (.bool g.shape):=by
 intro n;induction n with
 |zero=>intro g aR;have:=g.sz_pos;omega
 |succ n bp=>
 intro g aR;have no:∀h:¬((0<=g.kind/\g.kind<=10)/\(g.kind≠9->g.name=[])/\g.ts.all aV.fits=true/\hdS g/\g.gs.all Gm.shape=true/\sM g=true),g.shape=false:=fun h=>by
  cases au:g.shape with
  |false=>rfl
  |true=>exact absurd ((U0 g).1 au) h
 by_cases I:0<=g.kind/\g.kind<=10;rotate_left
 ·rw[no fun h=>I h.1];exact ahj g I
 by_cases J:g.kind≠9->g.name=[];rotate_left
 ·rw[no fun h=>J h.2.1];rw[Classical.not_imp]at J;exact ahl g I J.1 (by simpa using J.2)
 have uI:g.kind≠9->g.name.isEmpty=true:=fun h=>by simpa using J h
 cases aA:g.ts.all aV.fits
 ·rw[no fun h=>by rw[aA]at h;cases h.2.2.1];exact ahm g I uI aA
 by_cases aS:hdS g;rotate_left
 ·rw[no fun h=>aS h.2.2.2.1];exact ahi g I uI aA aS
 have aG:=ahk g I uI aA aS fun x ad=>bp x (by have:=g.gs_lt ad;omega);have he:(g.gs.all Gm.shape&&sM g)=g.shape:=by rw[Bool.eq_iff_iff,bF,U0];exact⟨fun h=>⟨I,J,aA,aS,h.1,h.2⟩,fun h=>⟨h.2.2.2.2.1,h.2.2.2.2.2⟩⟩
 rwa[he]at aG
theorem VW(g:Gm):ct aQ 155 [g.e] (.bool (g.fits 80)):=by
 have jt:=VR g.sz g (c7 _) 80 Ω Ω;have jF:=ah9 g.sz g (c7 _);have aH:=(H9 g 80 Ω).1;by_cases h:g.sz<=80
 ·have I:ls g 80<=80:=aH.2 Ω;have aY:g.fits 80=g.shape:=by unfold Gm.fits;rw[nD h,Bool.and_true]
  rw[aY];refine bW lP PE Ti fun aL=>?_;unfold HO;clear aL;simp;((with_reducible repeat' first|refine av ?_|refine ba jt ?_|refine bb jt ?_|refine ba jF ?_|refine bb jF ?_|simp[I]|((first|apply cN|apply cP|apply cO)<;>intro h<;>try simp at h))<;>(try exact dr));simp[b8,KX,bg,bh,bf]
 ·have I:¬ls g 80<=80:=fun cx=>h (by have:=aH.1 cx;omega);have aY:g.fits 80=false:=by unfold Gm.fits;rw[decide_eq_false h,Bool.and_false]
  rw[aY];refine bW lP PE Ti fun aL=>?_;unfold HO;clear aL;simp;((with_reducible repeat' first|refine av ?_|refine ba jt ?_|refine bb jt ?_|refine ba jF ?_|refine bb jF ?_|simp[I]|((first|apply cN|apply cP|apply cO)<;>intro h<;>try simp at h))<;>(try exact dr));simp[b8,KX,bg,bh,bf]
def ij(vs:List Int)(l:List Int):List Int:=vs.foldl (fun l v=>lE v l) l
theorem Fz(a b l:List Int):ij (a++b) l=ij b (ij a l):=List.foldl_append
theorem RI(vs:List Int):∀(l:List Int) (v:Int),v∈ij vs l↔v∈l\/v∈vs:=by
 induction vs with
 |nil=>intro l v;simp[ij]
 |cons x vs bp=>
  intro l v;show v∈ij vs (lE x l)↔_;rw[bp,Kk];simp only[gb];constructor
  ·rintro((h|h)|h)
   ·exact .inr (.inl h)
   ·exact .inl h
   ·exact .inr (.inr h)
  ·rintro(h|h|h)
   ·exact .inl (.inr h)
   ·exact .inl (.inl h)
   ·exact .inr h
theorem RH(vs:List Int):∀{l:List Int},s3 l->s3 (ij vs l):=by
 induction vs with
 |nil=>intro l h;exact h
 |cons x vs bp=>intro l h;exact bp (J0 h)
theorem ais(t:T):∀l:List Int,kC t l=ij t.tm.vs l:=by
 induction t with
 |pair a b qe qf=>
  intro l;have:(T.pair a b).tm.vs=a.tm.vs++b.tm.vs:=by simp[T.tm,aV.vs,aV.vsL]
  rw[this,Fz,<-qe,<-qf];rfl
 |var n=>intro l;simp[T.tm,aV.vs,kC,ij]
 |_=>intro l;simp[T.tm,aV.vs,aV.vsL,kC,ij]
def pn(l:List Int):Prop:=s3 l/\∀v∈l,0<=v/\v<=100000
theorem pn.len{l:List Int}(h:pn l):l.length<=100001:=Ky (h.1.imp fun tC=>Int.ne_of_lt tC) h.2
theorem pn.ins{l vs:List Int}(h:pn l)(aK:∀v∈vs,0<=v/\v<=100000):pn (ij vs l):=⟨RH vs h.1,fun v hm=>by rcases(RI vs l v).1 hm with cx|cx;exact h.2 v cx;exact aK v cx⟩
theorem ah6{t:aV}(aI:t.fits=true){l:List Int}(aG:pn l):ct aQ 156 [enc t,.slice 1 .no (eg l)] (.slice 1 .no (eg (ij t.vs l))):=by
 obtain⟨x,rfl,ad⟩:=aV.fits_ex aI;rw[tq,<-ais];have bG:x.size<=5000:=by simp only[T.fit,bF,ea]at ad;exact ad.2
 exact Mk x l (by have:=aG.len;omega) aG.1
theorem aiw{t:aV}(aI:t.fits=true):∀v∈t.vs,0<=v/\v<=100000:=by obtain⟨x,rfl,ad⟩:=aV.fits_ex aI;exact V2 x (p4 ad)
theorem adC{ts:List aV}{i:Nat}{t:aV}(h:ts[i]? =some t)(l:List Int):ij (aV.vsL (ts.take (i+1))) l=ij t.vs (ij (aV.vsL (ts.take i)) l):=by rw[kV,h,yR,yR,<-Fz];simp
theorem adB{gs:List Gm}{i:Nat}{g:Gm}(h:gs[i]? =some g)(l:List Int):ij (Gm.vsL (gs.take (i+1))) l=ij g.vs (ij (Gm.vsL (gs.take i)) l):=by rw[kV,h,xL,xL,<-Fz];simp
def Bd(g:Gm)(l:List Int)(i:Nat)(_:Unit):a6:=⟨[(1,.slice 1 .no (eg (ij (aV.vsL (g.ts.take i)) l))),(2,.ptr (.loc 0) 0),(10,.slice 4 .no (g.ts.map enc)),(11,.int .i64 g.ts.length),(12,.int .i64 i)],[(.loc 0,[.int .i64 g.kind,.str g.name,.slice 4 .no (g.ts.map enc),.slice 4 .no (g.gs.map Gm.e)])],[],1,[]⟩
def Be(g:Gm)(l:List Int)(i:Nat)(_:Unit):a6:=⟨[(1,.slice 1 .no (eg (ij (Gm.vsL (g.gs.take i)) l))),(21,.slice 4 .no (g.gs.map Gm.e)),(22,.int .i64 g.gs.length),(23,.int .i64 i)],[],[],1,[]⟩
theorem pn.tk{g:Gm}(au:g.shape=true){l:List Int}(h:pn l)(i:Nat):pn (ij (aV.vsL (g.ts.take i)) l):=h.ins fun v aK=>by rw[yR,List.mem_flatMap]at aK;obtain⟨t,aI,aK⟩:=aK;exact aiw (ua au t (List.mem_of_mem_take aI)) v aK
theorem pn.gk{g:Gm}(au:g.shape=true){l:List Int}(h:pn l)(i:Nat):pn (ij (Gm.vsL (g.gs.take i)) l):=h.ins fun v aK=>by rw[xL,List.mem_flatMap]at aK;obtain⟨t,aI,aK⟩:=aK;exact EN t.sz t (c7 _) (sI au t (List.mem_of_mem_take aI)) v aK
theorem aia:∀(n:Nat) (g:Gm),g.sz<=n->g.shape=true->∀l:List Int,pn l->ct aQ 89 [g.e,.slice 1 .no (eg l)] (.slice 1 .no (eg (ij g.vs l))):=by
 intro n;induction n with
 |zero=>intro g aR;have:=g.sz_pos;omega
 |succ n bp=>
 intro g aR au l aG;have k7:=Dv au;rw[IN,Fz];refine bW lP aac afR fun aL=>?_;unfold Ov;clear aL;simp;refine gP (Bd g l) g.ts.length (fun _ _=>True) () (by simp[Bd,aV.vsL,ij];exact cX) trivial (fun _ _ _=>?_) (fun i _ aE _ _=>?_)
 ·have jT:=aG.tk au g.ts.length;rw[kH]at jT;simp[Bd];generalize ij (aV.vsL g.ts) l=lI at jT⊢;(with_reducible repeat' first|refine av ?_|simp);refine gP (Be g lI) g.gs.length (fun _ _=>True) () (by simp[Be,Gm.vsL,ij];exact cX) trivial (fun _ _ _=>?_) (fun i _ aE _ _=>?_)
  ·simp[Be];exact cB
  ·obtain⟨b,ao,oC⟩:=gp aE;have cb:aZ ((i:Int)+1):=by unfold aZ;omega
   have hm:=fq ao;have fD:=bp b (by have:=g.gs_lt hm;omega) (sI au b hm) _ (jT.gk au i);rw[<-adB ao]at fD;clear bp;simp[Be,aE,oC];(with_reducible repeat' first|refine av ?_|refine ba fD ?_|refine bb fD ?_|simp[aE,oC,cb]);refine bU.rng () aE trivial (by simp[Be];exact cX)
 ·obtain⟨b,ao,oC⟩:=gp aE;have cb:aZ ((i:Int)+1):=by unfold aZ;omega
  have fD:=ah6 (ua au b (fq ao)) (aG.tk au i);rw[<-adC ao]at fD;clear bp;simp[Bd,aE,oC];(with_reducible repeat' first|refine av ?_|refine ba fD ?_|refine bb fD ?_|simp[aE,oC,cb]);refine bU.rng () aE trivial (by simp[Bd];exact cX)
def r9:List (List ah):=[hb,hQ,sW,sV,pO,pM,pJ,pK,pN,[],pL]
theorem ab8:cl r9=[.str [116,114,117,101],.str [102,97,105,108],.str [61],.str [47,61],.str [115,121,109,98,111,108],.str [110,117,109,98,101,114],.str [97,98,115,101,110,116],.str [97,110,100],.str [111,114],.str [],.str [110,111,116]]:=rfl
theorem aid:ct aQ 131 [] (.slice 1 .no (cl r9)):=by rw[ab8];refine bW lP aaf afU fun aL=>?_;unfold Oy;clear aL;exact cB
end
end Go.Proofs.YtlnndmgfngfeiaaGreatDoor
namespace Go.Pv
section
open Go Go.Lib
def my:Gm:= .mk 0 [] [] []
def W2(es:List mj)(P:List Rl):Prop:= ∀(s:List ah) (r:Rl),P.find? (fun r=>r.name==s)=some r->∃(k:Nat) (f:mj),Yg es s=(k:Nat)/\es[k]? =some f/\f.ar=r.ar
section
variable {c:yW} {P:List Rl} {e:mj} {aj0:Int} (aH:W2 c.es P)
include aH
end
end
end Go.Pv
namespace Go.Proofs.YtlnndmgfngfeiaaGreatDoor
section
open Go Go.Pv
theorem gF:gJ ⟨[],[]⟩:=⟨⟨fun _=>rfl,fun _=>rfl⟩,fun k cs h=>by simp[Pv.look]at h,fun k cs h=>by simp[Pv.look]at h⟩
def A2(l:List (List ah))(o:a1 (Gm×List (List ah)))(r:al)(aq:dF):Prop:=aq=⟨[],[]⟩/\match o with
 |some (g,rest)=>r= .tuple [g.e,.int .i64 (l.length-rest.length:Nat),.bool true]
 |none=> ∃(g:Gm) (k:Int),r= .tuple [g.e,.int .i64 k,.bool false]
theorem bL.rd{e6:List cu}{e:Exit}{st:a6}(l:List (List ah))(o:a1 (Gm×List (List ah)))(x:al)(k:Int)(b:Bool)(k0:e= .ret\/e= .normal)(jm:A2 l o (.tuple [x,.int .i64 k,.bool b]) ⟨[],[]⟩)(aa:ak (fun _=>dD) x)(h:bV st e6 fun r=>r= .tuple [x,.int .i64 k,.bool b]):bL e6 ⟨[],[]⟩ (A2 l o) e st:=by
 refine bL.at ⟨[],[]⟩ k0 gF (Same.refl _) (fun k cs h=>by simp[Pv.look]at h) (fun k cs h=>by simp[Pv.look]at h) ?_;unfold bV at h⊢;split at h
 ·rename_i c b2 hr;refine⟨h.1,?_⟩;rw[h.2];refine⟨?_,jm⟩;simp only[ak,aj,and_true];exact u7 (fun _ h=>h.elim) _ aa
 ·exact h.elim
theorem o6{l:List (List ah)}{g:Gm}{x:al}(h:x=g.e)(k:Int):A2 l none (.tuple [x,.int .i64 k,.bool false]) ⟨[],[]⟩:=⟨rfl,g,k,by rw[h]⟩
theorem yZ{l rest:List (List ah)}{g:Gm}{x:al}(h:x=g.e){k:Int}(aa:k=(l.length-rest.length:Nat)):A2 l (some (g,rest)) (.tuple [x,.int .i64 k,.bool true]) ⟨[],[]⟩:=⟨rfl,by rw[h,aa]⟩
@[simp]theorem ak2(a b c d:al):Pv.isAgg 4 (.agg [a,b,c,d]):=⟨_,rfl,rfl⟩
theorem uH:my.e= .agg [.int .i64 0,.str [],.slice 4 .no [],.slice 4 .no []]:=by rw[Gm.e_eq];rfl
theorem gQ(k:Int)(s:List ah)(ts:List T)(gs:List Gm):(Gm.mk k s (ts.map T.tm) gs).e= .agg [.int .i64 k,.str s,.slice 4 .no (ts.map T.e),.slice 4 .no (gs.map Gm.e)]:=by rw[Gm.e_eq];simp only[Gm.kind,Gm.name,Gm.ts,Gm.gs,List.map_map];rw[show ts.map (enc∘T.tm)=ts.map T.e from List.map_congr_left fun t _=>tq t]
def mD(h:List ah):Nat->Int×List ah
 |0=>(9,h)
 |i+1=>if r9[i]? =some h then((i:Int),[])else mD h i
theorem abZ{h:List ah}(cD:h≠[]):Go.Pv.hdS h=some (mD h 11):=by
 unfold Go.Pv.hdS mC;by_cases a0:h=hb
 ·subst a0;rfl
 by_cases b4:h=hQ
 ·subst b4;rfl
 by_cases a2:h=sW
 ·subst a2;rfl
 by_cases a3:h=sV
 ·subst a3;rfl
 by_cases a4:h=pO
 ·subst a4;rfl
 by_cases a5:h=pM
 ·subst a5;rfl
 by_cases Ho:h=pJ
 ·subst Ho;rfl
 by_cases Hp:h=pK
 ·subst Hp;rfl
 by_cases Hq:h=pN
 ·subst Hq;rfl
 by_cases a9:h=pL
 ·subst a9;rfl
 rw[bo a0,bo b4,bo a2,bo a3,bo a4,bo a5,bo Ho,bo Hp,bo Hq,bo a9];have key:∀i,i<=11->mD h i=(9,h):=by
  intro i;induction i with
  |zero=>intro _;rfl
  |succ i bp=>
   intro aE;unfold mD;rw[bo fun e=>?_]
   ·exact bp Ω
   ·have:=fq e;simp[r9,a0,b4,a2,a3,a4,a5,Ho,Hp,Hq,a9,cD]at this
 rw[key 11 Ω]
theorem QP(h:List ah):∀i,i<=11->0<=(mD h i).1/\(mD h i).1<=10
 |0,_=>by simp[mD]
 |i+1,aE=>by
  unfold mD;split
  ·simp only;omega
  ·exact QP h i Ω
def hy(k:Int)(s:List ah)(x y:al):List (aO×List al):=[(.loc 0,[.int .i64 0,.str [],.slice 4 .nil [],.slice 4 .nil []]),(.loc 1,[.int .i64 k,.str s,x,y])]
def xf(l:List (List ah))(h:List ah)(i:Nat)(j:Nat)(_:Unit):a6:=⟨[(0,.slice 1 .no (cl l)),(1,.int .i64 i),(4,.ptr (.loc 0) 0),(7,.ptr (.loc 1) 0),(63,.slice 1 .no (cl r9)),(64,.int .i64 11),(65,.int .i64 j)],hy (mD h j).1 (mD h j).2 (.slice 4 .nil []) (.slice 4 .nil []),[],2,[]⟩
def qK(l:List (List ah))(cM:Int)(s:List ah):List Gm×Nat×Nat->a6
 |([],j,_)=>⟨[(0,.slice 1 .no (cl l)),(1,.int .i64 j),(4,.ptr (.loc 0) 0),(7,.ptr (.loc 1) 0)],hy cM s (.slice 4 .nil []) (.slice 4 .nil []),[],2,[]⟩
 |(x::xs,j,_)=>⟨[(0,.slice 1 .no (cl l)),(1,.int .i64 j),(4,.ptr (.loc 0) 0),(7,.ptr (.loc 1) 0)],hy cM s (.slice 4 .nil []) (.slice 4 (.own (.loc 4)) (x.e::xs.map Gm.e)),[(.loc 4,⟨xs.length+1,65,4,none⟩)],5,[]⟩
def o7(l:List (List ah))(cM:Int)(s:List ah):List T×Nat×Nat->a6
 |([],j,_)=>⟨[(0,.slice 1 .no (cl l)),(1,.int .i64 j),(4,.ptr (.loc 0) 0),(7,.ptr (.loc 1) 0)],hy cM s (.slice 4 .nil []) (.slice 4 .nil []),[],2,[]⟩
 |(x::xs,j,_)=>⟨[(0,.slice 1 .no (cl l)),(1,.int .i64 j),(4,.ptr (.loc 0) 0),(7,.ptr (.loc 1) 0)],hy cM s (.slice 4 (.own (.loc 4)) (x.e::xs.map T.e)) (.slice 4 .nil []),[(.loc 4,⟨xs.length+1,40,4,none⟩)],5,[]⟩
set_option maxRecDepth 8000 in
theorem aaY(l:List (List ah))(aG:l.length<=100000)(hw:∀w∈l,w≠[]):∀n i:Nat,i<=l.length->2*(l.length-i)+1<=n->bJ aQ 154 [.slice 1 .no (cl l),.int .i64 i] ⟨[],[]⟩ (A2 l (ed jw Go.Pv.hdS n (l.drop i))):=by
 intro n;induction n using Nat.strongRecOn with
 |_ n bp=>
 intro i h2 aJ;obtain⟨n,rfl⟩:∃m,n=m+1:=⟨n-1,Ω⟩;have cb:aZ ((i:Int)+1):=by unfold aZ;omega
 rcases jJ h2 with rfl|aE
 ·have e:ed jw Go.Pv.hdS (n+1) (l.drop l.length)=none:=by rw[kG];simp[ed]
  rw[e];clear bp;have iK:(l.length:Int)<=(l.length:Int)+1:=Ω
  have au:=gF;refine bJ.mk mixed hE xE yt Ψ au.obj fun aL bT=>?_;unfold vR;clear aL bT;simp;(with_reducible repeat' first|refine av ?_|simp[cb,iK]);refine bL.rd l _ (.agg [.int .i64 0,.str [],.slice 4 .no [],.slice 4 .no []]) 0 false Ψ (o6 uH.symm 0) (by simp[ak,aj]) ?_;simp[bV,lg,bg,bh,bf]
 obtain⟨w,ad⟩:∃v,l[i]? =some v:=⟨_,cS aE⟩;have eR:∀cp,((cl l)[i]'cp)= .str w:=fun cp=>by rw[mc aE];rw[cS aE]at ad;rw[hd ad]
 have bY:(i:Int)<l.length:=Ω
 rw[fH ad];by_cases aI:w=hb
 ·subst aI;have e:ed jw Go.Pv.hdS (n+1) (hb::l.drop (i+1))=some (.mk 0 [] [] [],l.drop (i+1)):=by simp[ed]
  rw[e];unfold hb at eR ad;clear bp;have au:=gF;refine bJ.mk mixed hE xE yt Ψ au.obj fun aL bT=>?_;unfold vR;clear aL bT;simp;(with_reducible repeat' first|refine av ?_|simp[cb,aE,bY,eR,ad]);refine bL.rd l _ (.agg [.int .i64 0,.str [],.slice 4 .no [],.slice 4 .no []]) ((i:Int)+1) true Ψ (yZ uH.symm (by rw[hG];omega)) (by simp[ak,aj]) ?_;simp[bV,lg,bg,bh,bf]
 have Af:(w==[116,114,117,101])=false:=vg aI;by_cases aY:w=hQ
 ·subst aY;have e:ed jw Go.Pv.hdS (n+1) (hQ::l.drop (i+1))=some (.mk 1 [] [] [],l.drop (i+1)):=by simp[ed,aI]
  rw[e];unfold hQ at eR ad Af;clear bp;have au:=gF;refine bJ.mk mixed hE xE yt Ψ au.obj fun aL bT=>?_;unfold vR;clear aL bT;simp;(with_reducible repeat' first|refine av ?_|simp[cb,aE,bY,eR,ad]);refine bL.rd l _ (.agg [.int .i64 1,.str [],.slice 4 .no [],.slice 4 .no []]) ((i:Int)+1) true Ψ (yZ (gQ 1 [] [] []).symm (by rw[hG];omega)) (by simp[ak,aj]) ?_;simp[bV,lg,bg,bh,bf]
 have CY:(w==[102,97,105,108])=false:=vg aY;by_cases oA:w=[40];rotate_left
 ·have su:=re oA;have e:ed jw Go.Pv.hdS (n+1) (w::l.drop (i+1))=none:=by simp[ed,aI,aY,oA]
  rw[e];clear bp;by_cases iK:(l.length:Int)<=(i:Int)+1
  ·have au:=gF;refine bJ.mk mixed hE xE yt Ψ au.obj fun aL bT=>?_;unfold vR;clear aL bT;simp;(with_reducible repeat' first|refine av ?_|simp[cb,aE,bY,eR,ad,Af,CY,iK]);refine bL.rd l _ (.agg [.int .i64 0,.str [],.slice 4 .no [],.slice 4 .no []]) 0 false Ψ (o6 uH.symm 0) (by simp[ak,aj]) ?_;simp[bV,lg,bg,bh,bf]
  ·have au:=gF;refine bJ.mk mixed hE xE yt Ψ au.obj fun aL bT=>?_;unfold vR;clear aL bT;simp;((with_reducible repeat' first|refine av ?_|simp[cb,aE,bY,eR,ad,Af,CY,iK,su]|((first|apply cN|apply cP|apply cO)<;>intro h<;>try simp at h))<;>(try exact dr));refine bL.rd l _ (.agg [.int .i64 0,.str [],.slice 4 .no [],.slice 4 .no []]) 0 false Ψ (o6 uH.symm 0) (by simp[ak,aj]) ?_;simp[bV,lg,bg,bh,bf]
 subst oA;rcases jJ (show i+1<=l.length from aE)with I|I
 ·have e:ed jw Go.Pv.hdS (n+1) ([40]::l.drop (i+1))=none:=by rw[I,kG];simp[ed,aI,aY]
  rw[e];have iK:(l.length:Int)<=(i:Int)+1:=Ω
  clear bp;have au:=gF;refine bJ.mk mixed hE xE yt Ψ au.obj fun aL bT=>?_;unfold vR;clear aL bT;simp;(with_reducible repeat' first|refine av ?_|simp[cb,aE,bY,eR,ad,Af,CY,iK]);refine bL.rd l _ (.agg [.int .i64 0,.str [],.slice 4 .no [],.slice 4 .no []]) 0 false Ψ (o6 uH.symm 0) (by simp[ak,aj]) ?_;simp[bV,lg,bg,bh,bf]
 obtain⟨h,bX⟩:∃v,l[i+1]? =some v:=⟨_,cS I⟩;have E6:∀cp,((cl l)[i+1]'cp)= .str h:=fun cp=>by rw[mc I];rw[cS I]at bX;rw[hd bX]
 have cD:=hw h (fq bX);have iK:¬(l.length:Int)<=(i:Int)+1:=Ω
 have nf:(0:Int)<=(i:Int)+1:=Ω
 have zJ:(i:Int)+1<l.length:=Ω
 have oF:((i:Int)+1).toNat=i+1:=Ω
 have Qx:aZ ((i:Int)+2):=by unfold aZ;omega
 have JB:=QP h;obtain⟨O,hK⟩:∃O,O=ed jw Go.Pv.hdS (n+1) ([40]::l.drop (i+1)):=⟨_,rfl⟩;rw[<-hK];have xP:eh jw Go.Pv.hdS n (mD h 11).1 (mD h 11).2 [] [] (l.drop (i+2))=O:=by rw[hK,fH bX];simp only[ed];rw[bo (by decide),bo (by decide),bP trivial,abZ cD]
 have FG:=aid;clear hK;have au:=gF;refine bJ.mk mixed hE xE yt Ψ au.obj fun aL bT=>?_;unfold vR;clear aL bT;simp;(with_reducible repeat' first|refine av ?_|refine ba FG ?_|refine bb FG ?_|simp[cb,aE,bY,eR,ad,Af,CY,iK,nf,zJ,oF,E6,bX,I]);refine gP (xf l h i) 11 (fun _ _=>True) () (by simp[xf,hy,mD,r9,nf];exact⟨by simp[fresh,aj,ak,bj,ag,Pv.look,eB],cg (by simp[fresh,aj,ak,bj,ag,Pv.look,eB]),ch (by simp[fresh,aj,ak,cc,ag,Pv.look,eB]),Ψ⟩) trivial (fun _ _ _=>?_) (fun j _ aD _ _=>?_);rotate_left
 ·obtain⟨u,hu⟩:∃u,r9[j]? =some u:=⟨_,cS aD⟩;have lA:j<r9.length:=aD;have ki:∀h,((cl r9)[j]'h)= .str u:=fun h=>by rw[mc lA];rw[cS lA]at hu;rw[hd hu]
  have h3:aZ ((j:Int)+1):=by unfold aZ;omega
  have fJ:j<(cl r9).length:=aD;have eZ:mD h (j+1)=if u=h then((j:Int),[])else mD h j:=by show(if r9[j]? =some h then((j:Int),[])else mD h j)=_;rw[hu];simp only[dH]
  clear bp xP JB FG;by_cases he:u=h
  ·subst he;rw[bP rfl]at eZ;simp[xf,hy,aD];((with_reducible repeat' first|refine av ?_|simp[aD,ki,hu,lA,fJ,cb,nf,zJ,oF,E6,bX,I,h3]|((first|apply cN|apply cP|apply cO)<;>intro h<;>try simp at h))<;>(try exact dr));refine bU.rng () aD trivial (by simp[xf,hy,eZ];exact⟨by simp[fresh,aj,ak,bj,ag,Pv.look,eB],cg (by simp[fresh,aj,ak,bj,ag,Pv.look,eB]),ch (by simp[fresh,aj,ak,cc,ag,Pv.look,eB]),Ψ⟩)
  ·rw[bo he]at eZ;have ao:=vg he;simp[xf,hy,aD];((with_reducible repeat' first|refine av ?_|simp[aD,ki,hu,lA,fJ,cb,nf,zJ,oF,E6,bX,I,h3,ao]|((first|apply cN|apply cP|apply cO)<;>intro h<;>try simp at h))<;>(try exact dr));refine bU.rng () aD trivial (by simp[xf,hy,eZ];exact⟨by simp[fresh,aj,ak,bj,ag,Pv.look,eB],cg (by simp[fresh,aj,ak,bj,ag,Pv.look,eB]),ch (by simp[fresh,aj,ak,cc,ag,Pv.look,eB]),Ψ⟩)
 obtain⟨Gp,eU⟩:=JB 11 Ω;have hj:((i+2:Nat):Int)=(i:Int)+2:=Ω
 clear FG JB eR ad E6 bX iK nf zJ oF cb Af CY aI aY bY;simp[xf,hy];generalize (mD h 11).1=cM at xP Gp eU⊢;generalize (mD h 11).2=jH at xP⊢;cases p6:jU cM
 ·have Fh:(cM==7)=false:=by simp[jU]at p6;exact jy.2 p6.1.1
  have Fi:(cM==8)=false:=by simp[jU]at p6;exact jy.2 p6.1.2
  have nO:(cM==10)=false:=by simp[jU]at p6;exact jy.2 p6.2
  (with_reducible repeat' first|refine av ?_|simp[Qx]);refine gf (o7 l cM jH) (fun x=>l.length-x.2.1) (fun x=>x.2.1<=l.length/\2*(l.length-x.2.1)+2<=x.2.2/\x.2.2<=n/\eh jw Go.Pv.hdS x.2.2 cM jH x.1 [] (l.drop x.2.1)=O/\x.1.length<=x.2.1) ([],i+2,n) (by simp[o7,hy,hj];exact cX) ⟨by simp;omega,by simp;omega,c7 _,xP,Ψ⟩ ?_;rintro⟨acc,j,k⟩ ⟨aD,aa,k3,dR,mA⟩ _;simp only at aD aa k3 dR mA;clear xP bp;obtain⟨k,rfl⟩:∃m,k=m+1:=⟨k-1,Ω⟩;have hZ:acc.length+1<=bs:=by unfold bs;omega
  rcases jJ aD with rfl|fJ
  ·rw[kG]at dR;simp only[eh]at dR;subst dR;have h3:aZ ((l.length:Int)+1):=by unfold aZ;omega
   cases acc with
   |nil=>simp[o7,hy];(with_reducible repeat' first|refine av ?_|simp[h3]);refine bL.rd l _ (.agg [.int .i64 cM,.str jH,.slice 4 .no [],.slice 4 .no []]) ((l.length:Int)+1) false Ψ (o6 (gQ cM jH [] []).symm _) (by simp[ak,aj]) ?_;simp[bV,lg,bg,bh,bf]
   |cons a eX=>simp[o7,hy];(with_reducible repeat' first|refine av ?_|simp[h3]);refine bL.rd l _ (.agg [.int .i64 cM,.str jH,.slice 4 .no ((a::eX).map T.e),.slice 4 .no []]) ((l.length:Int)+1) false Ψ (o6 (gQ cM jH (a::eX) []).symm _) (by simp[ak,aj]) ?_;simp[bV,lg,bg,bh,bf]
  obtain⟨v,aK⟩:∃v,l[j]? =some v:=⟨_,cS fJ⟩;have gh:∀cp,((cl l)[j]'cp)= .str v:=fun cp=>by rw[mc fJ];rw[cS fJ]at aK;rw[hd aK]
  have h3:aZ ((j:Int)+1):=by unfold aZ;omega
  have oG:(j:Int)<l.length:=Ω
  rw[fH aK]at dR;by_cases e1:v=[41]
  ·subst e1;simp only[eh,if_true]at dR;have ka:((j:Int)+1)=((l.length-(l.drop (j+1)).length:Nat):Int):=by rw[hG];omega
   by_cases jE:1<cM
   ·rw[bP jE]at dR;subst dR;cases acc with
    |nil=>simp[o7,hy];(with_reducible repeat' first|refine av ?_|simp[h3,fJ,oG,gh,aK,jE]);refine bL.rd l _ (.agg [.int .i64 cM,.str jH,.slice 4 .no [],.slice 4 .no []]) ((j:Int)+1) true Ψ (yZ (gQ cM jH [] []).symm ka) (by simp[ak,aj]) ?_;simp[bV,lg,bg,bh,bf]
    |cons a eX=>simp[o7,hy];(with_reducible repeat' first|refine av ?_|simp[h3,fJ,oG,gh,aK,jE]);refine bL.rd l _ (.agg [.int .i64 cM,.str jH,.slice 4 .no ((a::eX).map T.e),.slice 4 .no []]) ((j:Int)+1) true Ψ (yZ (gQ cM jH (a::eX) []).symm ka) (by simp[ak,aj]) ?_;simp[bV,lg,bg,bh,bf]
   ·rw[bo jE]at dR;subst dR;cases acc with
    |nil=>simp[o7,hy];(with_reducible repeat' first|refine av ?_|simp[h3,fJ,oG,gh,aK,jE]);refine bL.rd l _ (.agg [.int .i64 cM,.str jH,.slice 4 .no [],.slice 4 .no []]) ((j:Int)+1) false Ψ (o6 (gQ cM jH [] []).symm _) (by simp[ak,aj]) ?_;simp[bV,lg,bg,bh,bf]
    |cons a eX=>simp[o7,hy];(with_reducible repeat' first|refine av ?_|simp[h3,fJ,oG,gh,aK,jE]);refine bL.rd l _ (.agg [.int .i64 cM,.str jH,.slice 4 .no ((a::eX).map T.e),.slice 4 .no []]) ((j:Int)+1) false Ψ (o6 (gQ cM jH (a::eX) []).symm _) (by simp[ak,aj]) ?_;simp[bV,lg,bg,bh,bf]
  have nn:=re e1;have dP:=ah8 l aG hw (2*(l.length-j)+1) j Ω (c7 _);have fy:rd hS (2*(l.length-j)+1) (l.drop j)=jw (v::l.drop (j+1)):=by unfold jw;rw[<-fH aK,hG]
  rw[fy]at dP;simp only[eh,bo e1,p6,kE,if_false]at dR;cases eb:jw (v::l.drop (j+1))with
  |none=>
   rw[eb]at dP dR;simp only[kk]at dR dP;subst dR;generalize qp l j=q at dP;cases acc with
   |nil=>simp[o7,hy];((with_reducible repeat' first|refine av ?_|refine ba dP ?_|refine bb dP ?_|simp[h3,fJ,oG,gh,aK,nn,Fh,Fi,nO]|((first|apply cN|apply cP|apply cO)<;>intro h<;>try simp at h))<;>(try exact dr));refine bL.rd l _ (.agg [.int .i64 0,.str [],.slice 4 .no [],.slice 4 .no []]) 0 false Ψ (o6 uH.symm 0) (by simp[ak,aj]) ?_;simp[bV,lg,bg,bh,bf]
   |cons a eX=>simp[o7,hy];((with_reducible repeat' first|refine av ?_|refine ba dP ?_|refine bb dP ?_|simp[h3,fJ,oG,gh,aK,nn,Fh,Fi,nO]|((first|apply cN|apply cP|apply cO)<;>intro h<;>try simp at h))<;>(try exact dr));refine bL.rd l _ (.agg [.int .i64 0,.str [],.slice 4 .no [],.slice 4 .no []]) 0 false Ψ (o6 uH.symm 0) (by simp[ak,aj]) ?_;simp[bV,lg,bg,bh,bf]
  |some tr=>
   obtain⟨t,rest⟩:=tr;rw[eb]at dP dR;obtain⟨gK,nT⟩:=GL (j:=j) (by rw[fH aK];exact(DE _ _ _ eb).1);have Cr:=(DE _ _ _ eb).2;have Ro:rest.length<l.length-j:=by simp at Cr;omega
   obtain⟨p,bn⟩:∃p,p=l.length-rest.length:=⟨_,rfl⟩;simp only[kk,<-bn]at dP;simp only at dR;rw[<-bn]at gK;rw[gK]at dR;cases acc with
   |nil=>simp[o7,hy];((with_reducible repeat' first|refine av ?_|refine ba dP ?_|refine bb dP ?_|simp[h3,fJ,oG,gh,aK,nn,Fh,Fi,nO]|((first|apply cN|apply cP|apply cO)<;>intro h<;>try simp at h))<;>(try exact dr));refine bU.whl ([t],p,k) (by show l.length-p<l.length-j;omega) ⟨by show p<=l.length;omega,by show 2*(l.length-p)+2<=k;omega,by show k<=n;omega,dR,by simp;omega⟩ (by simp[o7,hy];exact⟨by simp[fresh,aj,ak,bj,ag,Pv.look,bC],cg (by simp[fresh,aj,ak,bj,ag,Pv.look,bC]),ch (by simp[fresh,aj,ak,cc,ag,Pv.look,bC]),Ψ⟩)
   |cons a eX=>simp only[ga]at hZ;simp[o7,hy];((with_reducible repeat' first|refine av ?_|refine ba dP ?_|refine bb dP ?_|simp[h3,fJ,oG,gh,aK,nn,Fh,Fi,nO,hZ]|((first|apply cN|apply cP|apply cO)<;>intro h<;>try simp at h))<;>(try exact dr));refine bU.whl (a::(eX++[t]),p,k) (by show l.length-p<l.length-j;omega) ⟨by show p<=l.length;omega,by show 2*(l.length-p)+2<=k;omega,by show k<=n;omega,dR,by simp at mA⊢;omega⟩ (by simp[o7,hy];exact⟨by simp[fresh,aj,ak,bj,ag,Pv.look,bC],cg (by simp[fresh,aj,ak,bj,ag,Pv.look,bC]),ch (by simp[fresh,aj,ak,cc,ag,Pv.look,bC]),Ψ⟩)
 ·have jE:1<cM:=by simp[jU]at p6;omega
  have pg:cM=7\/cM=8\/cM=10:=by simp[jU]at p6;omega
  (with_reducible repeat' first|refine av ?_|simp[Qx]);refine gf (qK l cM jH) (fun x=>l.length-x.2.1) (fun x=>x.2.1<=l.length/\2*(l.length-x.2.1)+2<=x.2.2/\x.2.2<=n/\eh jw Go.Pv.hdS x.2.2 cM jH [] x.1 (l.drop x.2.1)=O/\x.1.length<=x.2.1) ([],i+2,n) (by simp[qK,hy,hj];exact cX) ⟨by simp;omega,by simp;omega,c7 _,xP,Ψ⟩ ?_;rintro⟨acc,j,k⟩ ⟨aD,aa,k3,dR,mA⟩ _;simp only at aD aa k3 dR mA;clear xP;obtain⟨k,rfl⟩:∃m,k=m+1:=⟨k-1,Ω⟩;have hZ:acc.length+1<=bs:=by unfold bs;omega
  rcases jJ aD with rfl|fJ
  ·rw[kG]at dR;simp only[eh]at dR;subst dR;have h3:aZ ((l.length:Int)+1):=by unfold aZ;omega
   clear bp;cases acc with
   |nil=>simp[qK,hy];(with_reducible repeat' first|refine av ?_|simp[h3]);refine bL.rd l _ (.agg [.int .i64 cM,.str jH,.slice 4 .no [],.slice 4 .no []]) ((l.length:Int)+1) false Ψ (o6 (gQ cM jH [] []).symm _) (by simp[ak,aj]) ?_;simp[bV,lg,bg,bh,bf]
   |cons a eX=>simp[qK,hy];(with_reducible repeat' first|refine av ?_|simp[h3]);refine bL.rd l _ (.agg [.int .i64 cM,.str jH,.slice 4 .no [],.slice 4 .no ((a::eX).map Gm.e)]) ((l.length:Int)+1) false Ψ (o6 (gQ cM jH [] (a::eX)).symm _) (by simp[ak,aj]) ?_;simp[bV,lg,bg,bh,bf]
  obtain⟨v,aK⟩:∃v,l[j]? =some v:=⟨_,cS fJ⟩;have gh:∀cp,((cl l)[j]'cp)= .str v:=fun cp=>by rw[mc fJ];rw[cS fJ]at aK;rw[hd aK]
  have h3:aZ ((j:Int)+1):=by unfold aZ;omega
  have oG:(j:Int)<l.length:=Ω
  rw[fH aK]at dR;by_cases e1:v=[41]
  ·subst e1;simp only[eh,if_true]at dR;have ka:((j:Int)+1)=((l.length-(l.drop (j+1)).length:Nat):Int):=by rw[hG];omega
   rw[bP jE]at dR;subst dR;clear bp;cases acc with
   |nil=>simp[qK,hy];(with_reducible repeat' first|refine av ?_|simp[h3,fJ,oG,gh,aK,jE]);refine bL.rd l _ (.agg [.int .i64 cM,.str jH,.slice 4 .no [],.slice 4 .no []]) ((j:Int)+1) true Ψ (yZ (gQ cM jH [] []).symm ka) (by simp[ak,aj]) ?_;simp[bV,lg,bg,bh,bf]
   |cons a eX=>simp[qK,hy];(with_reducible repeat' first|refine av ?_|simp[h3,fJ,oG,gh,aK,jE]);refine bL.rd l _ (.agg [.int .i64 cM,.str jH,.slice 4 .no [],.slice 4 .no ((a::eX).map Gm.e)]) ((j:Int)+1) true Ψ (yZ (gQ cM jH [] (a::eX)).symm ka) (by simp[ak,aj]) ?_;simp[bV,lg,bg,bh,bf]
  have nn:=re e1;have dP:=bp k Ω j Ω Ω;rw[fH aK]at dP;simp only[eh,bo e1,p6,if_true]at dR;cases eb:ed jw Go.Pv.hdS k (v::l.drop (j+1))with
  |none=>
   rw[eb]at dP dR;simp only at dR;subst dR;clear bp;cases acc with
   |nil=>
    rcases pg with rfl|rfl|rfl;all_goals
     simp[qK,hy]
     ((with_reducible repeat' first|refine av ?_|simp[h3,fJ,oG,gh,aK,nn]|((first|apply cN|apply cP|apply cO)<;>intro h<;>try simp at h))<;>(try exact dr))
     refine bc.ob (dP) gF (fun k cs h=>by simp[Pv.look]at h) (fun k cs h=>by simp[Pv.look]at h) (by simp[aj,ak]) ?_
     rintro r aq bA
     obtain⟨rfl,x,q,rfl⟩:=bA
     refine⟨Same.refl _,?_⟩
     simp[aX]
     (with_reducible repeat' first|refine av ?_|simp)
     refine bL.rd l _ (.agg [.int .i64 0,.str [],.slice 4 .no [],.slice 4 .no []]) 0 false Ψ (o6 uH.symm 0) (by simp[ak,aj]) ?_
     simp[bV,lg,bg,bh,bf]
   |cons a eX=>
    rcases pg with rfl|rfl|rfl;all_goals
     simp[qK,hy]
     ((with_reducible repeat' first|refine av ?_|simp[h3,fJ,oG,gh,aK,nn]|((first|apply cN|apply cP|apply cO)<;>intro h<;>try simp at h))<;>(try exact dr))
     refine bc.ob (dP) gF (fun k cs h=>by simp[Pv.look]at h) (fun k cs h=>by simp[Pv.look]at h) (by simp[aj,ak]) ?_
     rintro r aq bA
     obtain⟨rfl,x,q,rfl⟩:=bA
     refine⟨Same.refl _,?_⟩
     simp[aX]
     (with_reducible repeat' first|refine av ?_|simp)
     refine bL.rd l _ (.agg [.int .i64 0,.str [],.slice 4 .no [],.slice 4 .no []]) 0 false Ψ (o6 uH.symm 0) (by simp[ak,aj]) ?_
     simp[bV,lg,bg,bh,bf]
  |some tr=>
   obtain⟨g,rest⟩:=tr;rw[eb]at dP dR;obtain⟨gK,nT⟩:=GL (j:=j) (by rw[fH aK];exact(yx DE _ _ _ _ eb).1);have Cr:=(yx DE _ _ _ _ eb).2;have Ro:rest.length<l.length-j:=by simp at Cr;omega
   obtain⟨p,bn⟩:∃p,p=l.length-rest.length:=⟨_,rfl⟩;simp only at dR;rw[<-bn]at gK;rw[gK]at dR;clear bp;cases acc with
   |nil=>
    rcases pg with rfl|rfl|rfl;all_goals
     simp[qK,hy]
     ((with_reducible repeat' first|refine av ?_|simp[h3,fJ,oG,gh,aK,nn]|((first|apply cN|apply cP|apply cO)<;>intro h<;>try simp at h))<;>(try exact dr))
     refine bc.ob (dP) gF (fun k cs h=>by simp[Pv.look]at h) (fun k cs h=>by simp[Pv.look]at h) (by simp[aj,ak]) ?_
     rintro r aq bA
     obtain⟨rfl,rfl⟩:=bA
     rw[<-bn]
     refine⟨Same.refl _,?_⟩
     simp[aX]
     (with_reducible repeat' first|refine av ?_|simp)
     refine bU.whl ([g],p,k) (by show l.length-p<l.length-j;omega) ⟨by show p<=l.length;omega,by show 2*(l.length-p)+2<=k;omega,by show k<=n;omega,dR,by simp;omega⟩ (by simp[qK,hy];exact⟨by simp[fresh,aj,ak,bj,ag,Pv.look,bC],cg (by simp[fresh,aj,ak,bj,ag,Pv.look,bC]),ch (by simp[fresh,aj,ak,cc,ag,Pv.look,bC]),Ψ⟩)
   |cons a eX=>
    simp only[ga]at hZ;rcases pg with rfl|rfl|rfl;all_goals
     simp[qK,hy]
     ((with_reducible repeat' first|refine av ?_|simp[h3,fJ,oG,gh,aK,nn]|((first|apply cN|apply cP|apply cO)<;>intro h<;>try simp at h))<;>(try exact dr))
     refine bc.ob (dP) gF (fun k cs h=>by simp[Pv.look]at h) (fun k cs h=>by simp[Pv.look]at h) (by simp[aj,ak]) ?_
     rintro r aq bA
     obtain⟨rfl,rfl⟩:=bA
     rw[<-bn]
     refine⟨Same.refl _,?_⟩
     simp[aX]
     (with_reducible repeat' first|refine av ?_|simp[hZ])
     refine bU.whl (a::(eX++[g]),p,k) (by show l.length-p<l.length-j;omega) ⟨by show p<=l.length;omega,by show 2*(l.length-p)+2<=k;omega,by show k<=n;omega,dR,by simp at mA⊢;omega⟩ (by simp[qK,hy];exact⟨by simp[fresh,aj,ak,bj,ag,Pv.look,bC],cg (by simp[fresh,aj,ak,bj,ag,Pv.look,bC]),ch (by simp[fresh,aj,ak,cc,ag,Pv.look,bC]),Ψ⟩)
def y6:C:=(af [cd (.alloc 2 none (.agg [.int .i64 0,.str [],.slice 4 .nil [],.slice 4 .nil []])),bZ 3 false] (af [ab 9 0,cC 10 82 9,ab 8 10,dI 11 0 8,dI 12 1 8,ab 4 11,ab 5 12] (.seq (af [ab 13 5,dq 14 13] (bt 14 (af [a8 15 (.build [.int .i64 0,.str [],.slice 4 .nil [],.slice 4 .nil []] []),bD 4 2 15,bZ 3 false] .ret) .skip)) (af [ab 16 4,a8 17 (.build [.slice 1 .nil [],.int .i64 0] [(0,1,(.t 16))]),cd (.box 18 (some 871) (.t 17)),ab 6 18] (af [ab 20 6,ab 21 6,a8 22 (.mkf 1000084 [.t 21]),eN 23 114 20 22,ab 19 23,dI 24 0 19,dI 25 1 19,cd (.alloc 7 none (.agg [.int .i64 0,.str [],.slice 4 .nil [],.slice 4 .nil []])),bD 4 7 24,ab 5 25] (.seq (af [ab 26 5,dq 27 26,ab 28 27,b0 28 false 29 6,aF 28 false (cC 30 83 29),aF 28 false (dq 31 30),cH 32 28 31,ab 33 32,aF 33 false (bO 34 4 7),aF 33 false (cC 35 115 34),aF 33 false (dq 36 35),cH 37 33 36] (bt 37 (af [a8 38 (.build [.int .i64 0,.str [],.slice 4 .nil [],.slice 4 .nil []] []),bD 4 2 38,bZ 3 false] .ret) .skip)) (af [bO 39 4 7,bD 4 2 39,bZ 3 true] .ret)))))))
@[simp] def KT:List cu:=[.cell 2 true 4,.tmp 3]
def Nx:C:=(af [fl 1 0,a8 2 (.mov (.c (.str [])))] (.seq (af [bO 3 4 1,cC 4 115 3,dq 5 4] (bt 5 (af [a8 2 (.mov (.c (.str [])))] .ret) .skip)) (af [bO 6 4 1,cC 7 65 6,ab 2 7] .ret)))
@[simp] def agl:List cu:=[.tmp 2]
def y8:C:=(.seq (.block 0 (.loop (.seq (af [ab 56 0,⟨none,.call (some 57) (.c (.func 177 [])) [.t 56,(.c (.str [41]))]⟩,dq 58 57] (bt 58 .skip (.exit 0))) (.block 1 (.seq (af [bm 59 0 1 10,a7 60 1 59,bk 61 .eql 60 7,ab 62 61,aF 62 false (bm 63 0 1 10),aF 62 false (a7 64 1 63),aF 62 false (bk 65 .eql 64 8),cH 66 62 65,ab 67 66,aF 67 false (bm 68 0 1 10),aF 67 false (a7 69 1 68),aF 67 false (bk 70 .eql 69 10),cH 71 67 70] (bt 71 (af [ab 73 0,ab 74 1,eN 75 114 73 74,ab 72 75,dI 76 0 72,dI 77 1 72,cd (.alloc 11 none (.agg [.int .i64 0,.str [],.slice 4 .nil [],.slice 4 .nil []])),bD 4 11 76,ab 12 77] (.seq (af [ab 78 12,dq 79 78] (bt 79 (af [a8 80 (.build [.int .i64 0,.str [],.slice 4 .nil [],.slice 4 .nil []] []),bD 4 4 80,bZ 5 false] .ret) .skip)) (af [bm 81 3 1 10,a7 82 1 81,bO 83 4 11,fm 84 4 65 [.t 83],j1 85 4 65 82 84,bm 86 3 1 10,bD 1 86 85] (.exit 1)))) .skip)) (af [ab 88 1,⟨none,.callb (some 89) (.t 88)⟩,ab 87 89,dI 90 0 87,dI 91 1 87,gI 13 dv,bD 4 13 90,ab 14 91] (.seq (af [ab 92 14,dq 93 92] (bt 93 (af [a8 94 (.build [.int .i64 0,.str [],.slice 4 .nil [],.slice 4 .nil []] []),bD 4 4 94,bZ 5 false] .ret) .skip)) (.region [bm 95 2 1 10,a7 96 1 95,bO 97 4 13,fm 98 4 40 [.t 97],j1 99 4 40 96 98,bm 100 2 1 10,bD 1 100 99])))))))) (af [bO 101 4 10,bD 4 4 101,bZ 5 true] .ret))
def vP:C:=(af [cd (.alloc 4 none (.agg [.int .i64 0,.str [],.slice 4 .nil [],.slice 4 .nil []])),bZ 5 false] (.seq (af [ab 15 0,⟨none,.call (some 16) (.c (.func 177 [])) [.t 15,(.c (.str [116,114,117,101]))]⟩] (bt 16 (af [a8 17 (.build [.int .i64 0,.str [],.slice 4 .nil [],.slice 4 .nil []] [(0,1,(b6 0))]),bD 4 4 17,bZ 5 true] .ret) .skip)) (.seq (af [ab 18 0,⟨none,.call (some 19) (.c (.func 177 [])) [.t 18,(.c (.str [102,97,105,108]))]⟩] (bt 19 (af [a8 20 (.build [.int .i64 0,.str [],.slice 4 .nil [],.slice 4 .nil []] [(0,1,(b6 1))]),bD 4 4 20,bZ 5 true] .ret) .skip)) (.seq (af [ab 21 0,⟨none,.call (some 22) (.c (.func 177 [])) [.t 21,(.c (.str [40]))]⟩,dq 23 22,ab 24 23,b0 24 false 25 0,aF 24 false (cC 26 83 25),cH 27 24 26] (bt 27 (af [a8 28 (.build [.int .i64 0,.str [],.slice 4 .nil [],.slice 4 .nil []] []),bD 4 4 28,bZ 5 false] .ret) .skip)) (af [ab 29 0,cC 30 178 29,ab 6 30] (af [ab 31 0,gy 32 31,bm 33 1 1 32,a7 34 1 33,bk 35 .add 34 1,gy 36 31,bm 37 1 1 36,bD 1 37 35] (af [cd (.mkmap 38 none),cd (.mput .s (.t 38) (.c (.str [61])) (b6 2)),cd (.mput .s (.t 38) (.c (.str [47,61])) (b6 3)),cd (.mput .s (.t 38) (.c (.str [115,121,109,98,111,108])) (b6 4)),cd (.mput .s (.t 38) (.c (.str [110,117,109,98,101,114])) (b6 5)),cd (.mput .s (.t 38) (.c (.str [97,98,115,101,110,116])) (b6 6)),cd (.mput .s (.t 38) (.c (.str [97,110,100])) (b6 7)),cd (.mput .s (.t 38) (.c (.str [111,114])) (b6 8)),cd (.mput .s (.t 38) (.c (.str [110,111,116])) (b6 10)),ab 39 38,ab 7 39] (af [ab 41 7,ab 42 6,a8 43 (.mget .s (.int .i64 0) true (.t 41) (.t 42)),ab 40 43,dI 44 0 40,dI 45 1 40,ab 8 44,ab 9 45] (af [ab 46 8,a8 47 (.build [.int .i64 0,.str [],.slice 4 .nil [],.slice 4 .nil []] [(0,1,(.t 46))]),cd (.alloc 10 none (.agg [.int .i64 0,.str [],.slice 4 .nil [],.slice 4 .nil []])),bD 4 10 47] (.seq (af [ab 48 9,dq 49 48] (bt 49 (.seq (af [ab 50 6,cC 51 103 50,dq 52 51] (bt 52 (af [a8 53 (.build [.int .i64 0,.str [],.slice 4 .nil [],.slice 4 .nil []] []),bD 4 4 53,bZ 5 false] .ret) .skip)) (.region [ab 54 6,a8 55 (.build [.int .i64 0,.str [],.slice 4 .nil [],.slice 4 .nil []] [(0,1,(b6 9)),(1,1,(.t 54))]),bD 4 10 55])) .skip)) y8))))))))))
@[simp] def agy:List cu:=[.cell 4 true 4,.tmp 5]
def G5:List (Nat×dt):=[
 (3,⟨1,8,.int .i64,.int .i64 0⟩),
 (9,⟨1,16,.str,.str []⟩),
 (38,⟨1,24,.slice 40,.slice 4 .nil []⟩),
 (40,⟨4,56,.struct [(0,3),(1,3),(2,9),(3,38)],.agg [.int .i64 0,.int .i64 0,.str [],.slice 4 .nil []]⟩),
 (63,⟨1,24,.slice 65,.slice 4 .nil []⟩),
 (65,⟨4,72,.struct [(0,3),(1,9),(2,38),(3,63)],.agg [.int .i64 0,.str [],.slice 4 .nil [],.slice 4 .nil []]⟩),
 (70,⟨1,24,.slice 9,.slice 1 .nil []⟩),
 (131,⟨2,32,.struct [(0,70),(1,3)],.agg [.slice 1 .nil [],.int .i64 0]⟩),
 (213,⟨1,8,.map 9 3,.junk⟩)]
theorem qy:e7 aQ G5=true:=by kernel_rfl
theorem C0:cI G5 y6 KT 1 Tryz.f44=true:=by kernel_rfl
theorem BH:aQ.funcs[(44:Nat)]? =some Tryz.f44:=Tryz.func44
theorem ae0:cI G5 Nx agl 1 Tryz.f45=true:=by kernel_rfl
theorem Zl:aQ.funcs[(45:Nat)]? =some Tryz.f45:=Tryz.func45
theorem yq:cI G5 vP agy 2 Tryz.f114=true:=by kernel_rfl
theorem xC:aQ.funcs[(114:Nat)]? =some Tryz.f114:=Tryz.func114
end
end Go.Proofs.YtlnndmgfngfeiaaGreatDoor
