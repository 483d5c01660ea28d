/- Contracts: kinds asked anew. -/
import Derived.Lib.OwnBridge
import Derived.Shelf.GgSortMore.Stable
import Derived.Shelf.GgSortFunc.SmallK
import Derived.Shelf.GgSortFunc.Slice
import Derived.Ground.GgsProg
import Derived.Test.YtfeencekjcjalaaGreatDoorProg
import Derived.Test.YtfeencekjcjalaaGreatDoorQ7
set_option linter.all false
set_option maxHeartbeats 4000000
set_option maxRecDepth 4000
open Array renaming getElem?_toList->tN
open BitVec renaming ofInt->rv
open Bool renaming eq_iff_iff->ry,false_eq_true->hz,or_eq_true->nL
open Go renaming Program->cz,TypeId->fF
open Go.Extern.ReflectliteSwapper renaming swap->F8,swapper->awh
open Go.Extern.ReflectliteValue renaming len->awi,method->awj,unpack->arP,valueError->arQ
open Go.Extern.Rtype renaming kind->abf
open Go.IntKind renaming bits->pe,i64->oz,signed->tP,u64->hM,wrap->tQ
open Go.IntWalk renaming i64_in->lT
open Go.Proofs.Tryz renaming prog->ar
open List renaming cons_append->bX,drop_eq_getElem_cons->mh,getElem?_eq_getElem->cl,getElem?_eq_some_iff->fy,getElem_of_mem->oC,length_cons->jc,map_cons->fA,map_nil->pg,mem_cons->gp,mem_cons_of_mem->p4,mem_of_getElem?->eQ,nil_append->b3,nodup_append->ss,pairwise_iff_getElem->qN,take_length->p5,take_of_length_le->gC
open List.cons renaming injEq->rA
open Nat renaming add_mul->p6,le_refl->eR,le_trans->jM,mul_le_mul_right->tR
open Ne renaming symm->k8
open Option renaming isSome_none->nh,map_eq_some_iff->gD,map_some->ni
open Option.some renaming injEq->dv
open Prod.mk renaming injEq->hN
open _root_ renaming Option->aW,UInt8->bV,beq_iff_eq->dS,congrArg->eu,decide_eq_false->pj,decide_eq_false_iff_not->iq,decide_eq_true->oE,decide_eq_true_eq->e8
namespace Go.Proofs.YtfeencekjcjalaaGreatDoor
section
open Go Go.Pv
variable {α:Type} [Inhabited α] {S:List α->cM} {n g cf:Nat} {lc b9:List ah} {lt:α->α->Bool}
theorem apT:∀x:Nat,x<256->((([0,1,2,2,3,3,3,3,4,4,4,4,4,4,4,4,5,5,5,5,5,5,5,5,5,5,5,5,5,5,5,5,6,6,6,6,6,6,6,6,6,6,6,6,6,6,6,6,6,6,6,6,6,6,6,6,6,6,6,6,6,6,6,6,7,7,7,7,7,7,7,7,7,7,7,7,7,7,7,7,7,7,7,7,7,7,7,7,7,7,7,7,7,7,7,7,7,7,7,7,7,7,7,7,7,7,7,7,7,7,7,7,7,7,7,7,7,7,7,7,7,7,7,7,7,7,7,7,8,8,8,8,8,8,8,8,8,8,8,8,8,8,8,8,8,8,8,8,8,8,8,8,8,8,8,8,8,8,8,8,8,8,8,8,8,8,8,8,8,8,8,8,8,8,8,8,8,8,8,8,8,8,8,8,8,8,8,8,8,8,8,8,8,8,8,8,8,8,8,8,8,8,8,8,8,8,8,8,8,8,8,8,8,8,8,8,8,8,8,8,8,8,8,8,8,8,8,8,8,8,8,8,8,8,8,8,8,8,8,8,8,8,8,8,8,8,8,8,8,8,8,8,8,8,8,8]:List bV)[x]?).getD 0).toNat=Sort.bitsLen x:=by decide+kernel
theorem Dz(x:Int):x.fdiv (2 ^ (min 32 hM.bits))=x/4294967296:=by rw[show(2:Int) ^ (min 32 hM.bits)=4294967296 from by decide,Int.fdiv_eq_ediv_of_nonneg _ Ω]
theorem Dy(x:Int):x.fdiv (2 ^ (min 16 hM.bits))=x/65536:=by rw[show(2:Int) ^ (min 16 hM.bits)=65536 from by decide,Int.fdiv_eq_ediv_of_nonneg _ Ω]
theorem DA(x:Int):x.fdiv (2 ^ (min 8 hM.bits))=x/256:=by rw[show(2:Int) ^ (min 8 hM.bits)=256 from by decide,Int.fdiv_eq_ediv_of_nonneg _ Ω]
theorem FP(x:Nat)(h:x<256):IntKind.u8.wrap (x:Int)=x:=by simp[tQ,pe,tP];omega
theorem Km(x k:Nat)(h:2 ^ k<=x):Sort.bitsLen x=Sort.bitsLen (x/2 ^ k)+k:=by
 have a:x≠0:=by have:=Nat.two_pow_pos k;omega
 have b:x/2 ^ k≠0:=by have:=Nat.div_pos h (Nat.two_pow_pos k);omega
 unfold Sort.bitsLen;rw[if_neg a,if_neg b];have c:=Nat.log2_lt a (k:=Nat.log2 (x/2 ^ k)+k+1);have J:Nat.log2 (x/2 ^ k)+k<=Nat.log2 x:=by
  rw[Nat.le_log2 a,Nat.pow_add];have:=Nat.log2_self_le b;calc 2 ^ (x/2 ^ k).log2*2 ^ k<=(x/2 ^ k)*2 ^ k:=tR _ this
   _<=x:=Nat.div_mul_le_self x _
 have U:Nat.log2 x<Nat.log2 (x/2 ^ k)+k+1:=by rw[c,show Nat.log2 (x/2 ^ k)+k+1=(Nat.log2 (x/2 ^ k)+1)+k by omega,Nat.pow_add];have:=Nat.lt_log2_self (n:=x/2 ^ k);exact(Nat.div_lt_iff_lt_mul (Nat.two_pow_pos k)).1 this
 omega
set_option maxRecDepth 20000 in
theorem aqg(x:Nat)(m:x<1099511627776):bL ar 227 [.int .u64 x] (.int .i64 (Sort.bitsLen x)):=by
 refine bL.mk mixed pa Tryz.func227 ams Ψ d9 fun n=>?_;unfold Se;have aM:=apT;generalize j:([0,1,2,2,3,3,3,3,4,4,4,4,4,4,4,4,5,5,5,5,5,5,5,5,5,5,5,5,5,5,5,5,6,6,6,6,6,6,6,6,6,6,6,6,6,6,6,6,6,6,6,6,6,6,6,6,6,6,6,6,6,6,6,6,7,7,7,7,7,7,7,7,7,7,7,7,7,7,7,7,7,7,7,7,7,7,7,7,7,7,7,7,7,7,7,7,7,7,7,7,7,7,7,7,7,7,7,7,7,7,7,7,7,7,7,7,7,7,7,7,7,7,7,7,7,7,7,7,8,8,8,8,8,8,8,8,8,8,8,8,8,8,8,8,8,8,8,8,8,8,8,8,8,8,8,8,8,8,8,8,8,8,8,8,8,8,8,8,8,8,8,8,8,8,8,8,8,8,8,8,8,8,8,8,8,8,8,8,8,8,8,8,8,8,8,8,8,8,8,8,8,8,8,8,8,8,8,8,8,8,8,8,8,8,8,8,8,8,8,8,8,8,8,8,8,8,8,8,8,8,8,8,8,8,8,8,8,8,8,8,8,8,8,8,8,8,8,8,8,8,8,8,8,8,8,8]:List bV)=tab at aM⊢;have d:tab.length=256:=by rw[<-j];rfl
 clear j;simp[d];have ae:∀y:Nat,y<256->Sort.bitsLen y<=8:=by decide+kernel
 have i:4294967296<=x->Sort.bitsLen x=Sort.bitsLen (x/4294967296)+32:=fun h=>Km x 32 h;have l:∀y,65536<=y->Sort.bitsLen y=Sort.bitsLen (y/65536)+16:=fun y h=>Km y 16 h;have k:∀y,256<=y->Sort.bitsLen y=Sort.bitsLen (y/256)+8:=fun y h=>Km y 8 h;by_cases J:4294967296<=x
 ·have c:(4294967296:Int)<=x:=Ω
  have g1:¬(65536:Int)<=(x:Int)/4294967296:=Ω
  have g3:¬(256:Int)<=(x:Int)/4294967296:=Ω
  (with_reducible repeat' first|refine al ?_|simp[c,g1,g3,Dz,Dy,DA,d]);have a:x/4294967296<256:=Ω
  have f:=ae _ a;have b:(x:Int)/4294967296=((x/4294967296:Nat):Int):=Ω
  rw[b,FP _ a,Int.toNat_natCast];refine⟨Ω,?_⟩;have e:=aM _ a;rw[e,lT _ Ω];refine⟨by unfold e3;omega,?_⟩;simp[bE,aX,a1,aV];try((rw[i J])<;>omega)
 ·have c:¬(4294967296:Int)<=x:=Ω
  by_cases U:65536<=x
  ·have g2:(65536:Int)<=x:=Ω
   by_cases g:256<=x/65536
   ·have g3:(256:Int)<=(x:Int)/65536:=Ω
    (with_reducible repeat' first|refine al ?_|simp[c,g2,g3,Dz,Dy,DA,d]);have a:x/65536/256<256:=Ω
    have f:=ae _ a;have b:(x:Int)/65536/256=((x/65536/256:Nat):Int):=Ω
    rw[b,FP _ a,Int.toNat_natCast];refine⟨Ω,?_⟩;have e:=aM _ a;rw[e,lT _ Ω];refine⟨by unfold e3;omega,?_⟩;simp[bE,aX,a1,aV];try((rw[l x U,k _ g])<;>omega)
   ·have g3:¬(256:Int)<=(x:Int)/65536:=Ω
    (with_reducible repeat' first|refine al ?_|simp[c,g2,g3,Dz,Dy,DA,d]);have a:x/65536<256:=Ω
    have f:=ae _ a;have b:(x:Int)/65536=((x/65536:Nat):Int):=Ω
    rw[b,FP _ a,Int.toNat_natCast];refine⟨Ω,?_⟩;have e:=aM _ a;rw[e,lT _ Ω];refine⟨by unfold e3;omega,?_⟩;simp[bE,aX,a1,aV];try((rw[l x U])<;>omega)
  ·have g2:¬(65536:Int)<=x:=Ω
   by_cases g:256<=x
   ·have g3:(256:Int)<=x:=Ω
    (with_reducible repeat' first|refine al ?_|simp[c,g2,g3,Dz,Dy,DA,d]);have a:x/256<256:=Ω
    have f:=ae _ a;have b:(x:Int)/256=((x/256:Nat):Int):=Ω
    rw[b,FP _ a,Int.toNat_natCast];refine⟨Ω,?_⟩;have e:=aM _ a;rw[e,lT _ Ω];refine⟨by unfold e3;omega,?_⟩;simp[bE,aX,a1,aV];try((rw[k x g])<;>omega)
   ·have g3:¬(256:Int)<=x:=Ω
    (with_reducible repeat' first|refine al ?_|simp[c,g2,g3,Dz,Dy,DA,d]);have a:x<256:=Ω
    have f:=ae _ a;have b:(x:Int)=((x:Nat):Int):=Ω
    rw[b,FP _ a,Int.toNat_natCast];refine⟨Ω,?_⟩;have e:=aM _ a;rw[e,lT _ Ω];refine⟨by unfold e3;omega,?_⟩;simp[bE,aX,a1,aV];try((rw[show Sort.bitsLen x=Sort.bitsLen x from rfl])<;>omega)
theorem aqf(x:Nat)(a:x<1099511627776):bL ar 207 [.int .u64 x] (.int .i64 (Sort.bitsLen x)):=by refine bL.mk mixed pa Tryz.func207 amr Ψ d9 fun c=>?_;unfold Sd;have b:=aqg x a;exact cn
theorem acb(x:Nat)(a:x<1099511627776):Sort.bitsLen x<=40:=by
 unfold Sort.bitsLen;split
 ·omega
 ·rename_i h;have:=(Nat.log2_lt h (k:=40)).2 Ω;omega
theorem apZ{x:Nat}(h:x≠0):2 ^ Sort.bitsLen x<=2*x/\x<2 ^ Sort.bitsLen x:=by unfold Sort.bitsLen;rw[if_neg h];have J:=Nat.log2_self_le h;have U:=Nat.lt_log2_self (n:=x);rw[Nat.pow_succ];rw[Nat.pow_succ]at U;omega
theorem aqX(x:Nat)(b:x<1099511627776):bL ar 250 [.int .i64 x] (.int .u64 (1<<<Sort.bitsLen x:Nat)):=by
 have ae:=acb x b;have a:hM.wrap ((x:Nat):Int)=x:=by simp[tQ,pe,tP];omega
 have f:hM.wrap ((Sort.bitsLen x:Nat):Int)=Sort.bitsLen x:=by simp[tQ,pe,tP];omega
 refine bL.mk mixed pa Tryz.func250 amz Ψ d9 fun g=>?_;unfold Sl;simp[a];refine cC.val Ψ (aqf x b) ?_;simp[a,f];simp[bE,aX,a1,aV];have hm:min (Sort.bitsLen x) hM.bits=Sort.bitsLen x:=by simp[pe];omega
 have e:2 ^ Sort.bitsLen x<=2 ^ 40:=Nat.pow_le_pow_right Ω ae;rw[hm];have ax:((2:Int) ^ Sort.bitsLen x)=((2 ^ Sort.bitsLen x:Nat):Int):=Ψ
 have c:((1<<<Sort.bitsLen x:Nat):Int)=((2 ^ Sort.bitsLen x:Nat):Int):=by rw[Nat.one_shiftLeft]
 have d:hM.wrap ((2:Int) ^ Sort.bitsLen x)=((1<<<Sort.bitsLen x:Nat):Int):=by rw[ax,c];generalize 2 ^ Sort.bitsLen x=y at e;simp[tQ,pe,tP];omega
 simpa using d
def nU(r:Nat):cM:=⟨[(.obj 902,[.int .u64 r])],[]⟩
theorem J5(r:Nat):ek (nU r):=by unfold nU;exact(ek.of ⟨by intro m;simp[Pv.look],by intro m;simp[Pv.look]⟩ g9 g9)
theorem Qn(a b:Nat):Same (nU a) (nU b):=⟨fun k=>by simp only[nU,Pv.look];split<;>rfl,fun _=>rfl⟩
theorem Kp(a b:Nat)(d:a<18446744073709551616)(ae:b<18446744073709551616):hM.wrap ((rv hM.bits (a:Int) ^^^ rv hM.bits (b:Int)).toNat:Int)=(a ^^^ b:Nat):=by
 have f:a ^^^ b<18446744073709551616:=Nat.xor_lt_two_pow (n:=64) d ae;have e:(rv hM.bits (a:Int) ^^^ rv hM.bits (b:Int)).toNat=a ^^^ b:=by
  rw[BitVec.toNat_xor,BitVec.toNat_ofInt,BitVec.toNat_ofInt];have g:((a:Int)%(2 ^ hM.bits:Nat)).toNat=a:=by simp[pe];omega
  have h:((b:Int)%(2 ^ hM.bits:Nat)).toNat=b:=by simp[pe];omega
  rw[g,h]
 rw[e];generalize a ^^^ b=c at f;simp[tQ,pe,tP];omega
theorem apd(r:Nat):hM.wrap ((r:Int)*2 ^ (min 13 hM.bits))=(r*8192%18446744073709551616:Nat):=by simp[tQ,pe,tP]
theorem ape(r:Nat):hM.wrap ((r:Int)*2 ^ (min 17 hM.bits))=(r*131072%18446744073709551616:Nat):=by simp[tQ,pe,tP]
theorem apf(r:Nat):((r:Int)).fdiv (2 ^ (min 7 hM.bits))=(r/128:Nat):=by rw[show(2:Int) ^ (min 7 hM.bits)=128 from by decide,Int.fdiv_eq_ediv_of_nonneg _ Ω];omega
theorem agZ(r:Nat)(j:r<18446744073709551616):bK ar 251 [.ptr (.obj 902) 0] (nU r) fun t u=>t= .int .u64 (Sort.xorNextN r)/\u=nU (Sort.xorNextN r):=by
 have i:=J5 r;unfold nU at i⊢;refine bK.mk mixed pa Tryz.func251 amL Ψ i.obj fun w v=>?_;unfold Sy;obtain⟨m1,q⟩:∃m,m=r*8192%18446744073709551616:=⟨_,rfl⟩;have s1:=apd r;rw[<-q]at s1;have f:m1<18446744073709551616:=Ω
 obtain⟨a,c⟩:∃m,m=r ^^^ m1:=⟨_,rfl⟩;have t1:=Kp r m1 j f;rw[<-c]at t1;have l:a<18446744073709551616:=by rw[c];exact Nat.xor_lt_two_pow (n:=64) j f
 obtain⟨m2,p⟩:∃m,m=a/128:=⟨_,rfl⟩;have s2:=apf a;rw[<-p]at s2;have g:m2<18446744073709551616:=Ω
 obtain⟨a2,b⟩:∃m,m=a ^^^ m2:=⟨_,rfl⟩;have t2:=Kp a m2 l g;rw[<-b]at t2;have d:a2<18446744073709551616:=by rw[b];exact Nat.xor_lt_two_pow (n:=64) l g
 obtain⟨m3,o⟩:∃m,m=a2*131072%18446744073709551616:=⟨_,rfl⟩;have s3:=ape a2;rw[<-o]at s3;have e:m3<18446744073709551616:=Ω
 obtain⟨a3,s⟩:∃m,m=a2 ^^^ m3:=⟨_,rfl⟩;have t3:=Kp a2 m3 d e;rw[<-s]at t3;have bq:Sort.xorNextN r=a3:=by unfold Sort.xorNextN;simp only[<-q,<-c,<-p,<-b,<-o,<-s]
 rw[bq];simp[-BitVec.toNat_xor,-BitVec.ofInt_natCast,s1,t1,s2,t2,s3,t3];have k:=J5 a3;have h:=Qn r a3;unfold nU at k h;refine cO.at _ (.inl rfl) k h aL aL ?_;simp[cT,aX,a1,aV]
end
section
open Go Go.Pv
variable {α:Type} [Inhabited α] {S:List α->cM} {n g cf:Nat} {lc b9:List ah} {lt:α->α->Bool}
theorem ab4(a b:Nat)(d:a<18446744073709551616)(ae:b<18446744073709551616):hM.wrap ((rv hM.bits (a:Int)&&& rv hM.bits (b:Int)).toNat:Int)=(a&&& b:Nat):=by
 have f:a&&& b<18446744073709551616:=Nat.lt_of_le_of_lt Nat.and_le_left d;have e:(rv hM.bits (a:Int)&&& rv hM.bits (b:Int)).toNat=a&&& b:=by
  rw[BitVec.toNat_and,BitVec.toNat_ofInt,BitVec.toNat_ofInt];have g:((a:Int)%(2 ^ hM.bits:Nat)).toNat=a:=by simp[pe];omega
  have h:((b:Int)%(2 ^ hM.bits:Nat)).toNat=b:=by simp[pe];omega
  rw[g,h]
 rw[e];generalize a&&& b=c at f;simp[tQ,pe,tP];omega
def AE(a len M i0:Nat)(d:Array α):Nat->UInt64×Array α
 |0=>(UInt64.ofNat len,d)
 |k+1=>Sort.breakStep a len M (AE a len M i0 d k) (i0+k)
theorem ach(d:Array α)(a b:Nat)(h:8<=b-a):Sort.breakPatterns d a b=(AE a (b-a) (1<<<Sort.bitsLen (b-a)) (a+(b-a)/4*2-1) d 3).2:=by unfold Sort.breakPatterns;simp only[if_pos h,AE];rfl
theorem aa5{ob O:List aB}{b:cM}(g:ek b)(p:∀k,inObs b k->k∈O)(j:∀k∈ob,k∈O){st:bh}{i:List (Nat×ah)}{L:List (aB×List ah)}{n:Nat}(aM:∀x∈i,Pv.get x.1 st.t=x.2/\av (nb b n) x.2)(l:∀x∈L,Pv.look x.1 st.b=some x.2/\nb b n x.1/\aA (nb b n) x.2)
  (ae:∀k cs,Pv.look k b.b=some cs->Pv.look k st.b=some cs) (he:∀k o,Pv.look k b.e=some o->Pv.look k st.e=some o):jx ob st ⟨i,L++b.b,b.e,n,O⟩:=by
 have c:∀{k},nb b n k->¬fresh n O k:=by
  rintro k (h|⟨m,hm,rfl⟩)
  ·exact fun f=>f.2 (p k h)
  ·intro f;have:=f.1;simp at this;omega
 refine⟨fun x d=>⟨(aM x d).1,tl (fun k a=>c a) _ (aM x d).2⟩,fun k cs a=>?_,fun k o ak=>?_,j⟩
 ·simp only at a;rw[cV]at a;cases e:Pv.look k L with
  |some x=>rw[e]at a;simp only[dv]at a;subst a;obtain⟨J,U,q⟩:=l _ (uF e);exact⟨J,c U,kB (fun k a=>c a) _ q⟩
  |none=>rw[e]at a;exact⟨ae k cs a,c (.inl (.inl (by simp[a]))),kB (fun k a=>c (.inl a)) _ (g.kb k cs a)⟩
 ·exact⟨he k o ak,c (.inl (.inr (by simp at ak;simp[ak]))),fun xs d=>kB (fun k a=>c (.inl a)) _ (g.ke k o ak xs d)⟩
theorem P2{a β:Type}(s:List (aB×β)):∀(l:List (aB×a)),(∀k x,(k,x)∈l->Pv.look k s=none)->bZ s l=l
 |[],_=>rfl
 |(k,x)::r,h=>by have J:=h k x Ψ;simp only[bZ,J];rw[P2 s r fun k x b=>h k x (by simp[b])]
def jZ(S:List α->cM)(d:Array α)(r:Nat):cM:=⟨(.obj 902,[.int .u64 r])::(S d.toList).b,(S d.toList).e⟩
theorem Gg(H:fB S n g cf lc b9 lt)(d:Array α)(v:Nat):ek (jZ S d v):=by
 have h:=H.ok d.toList;have b:∀k,inObs (S d.toList) k->inObs (jZ S d v) k:=fun k a=>by
  rcases a with a|a
  ·refine .inl ?_;simp only[jZ,Pv.look];split
   ·rfl
   ·exact a
  ·exact .inr a
 refine⟨⟨fun m=>?_,h.obj.2⟩,fun k cs a=>?_,fun k o ak xs c=>kB b _ (h.ke k o ak xs c)⟩
 ·simp[jZ,Pv.look,h.obj.1 m]
 ·simp only[jZ,Pv.look]at a;split at a
  ·cases a;simp[aA,av]
  ·exact kB b _ (h.kb k cs a)
theorem aa4{ob O:List aB}{d2:Array α}{y:Nat}{D:List ah}(d:ek (jZ S d2 y))(e:∀k,inObs (jZ S d2 y) k->k∈O)(c:∀k∈ob,k∈O){st:bh}{a:List (Nat×ah)}(aM:∀x∈a,Pv.get x.1 st.t=x.2/\av (nb (jZ S d2 y) 1) x.2)(f:Pv.look (.loc 0) st.b=some D)(g:aA (nb (jZ S d2 y) 1) D)
  (ae:∀k cs,Pv.look k (jZ S d2 y).b=some cs->Pv.look k st.b=some cs) (he:∀k o,Pv.look k (jZ S d2 y).e=some o->Pv.look k st.e=some o):jx ob st ⟨a,(.loc 0,D)::(.obj 902,[.int .u64 y])::(S d2.toList).b,(S d2.toList).e,1,O⟩:=
 aa5 (L:=[(.loc 0,D)]) d e c aM (fun x b=>by simp only[List.mem_singleton]at b;subst b;exact⟨f,XN _ _ _ Ω,g⟩) ae he
theorem ag6(H:fB S n g cf lc b9 lt)(p:tu S 902)(d:Array α)(B:d.size=n)(a b:Nat)(n3:a<=b)(ae:b<=n)(mu:8<=b-a):
  bK ar 235 [fl g cf lc b9,.int .i64 a,.int .i64 b] (S d.toList) fun r A=>r= .tuple []/\∃P,A=S P.toList/\P=Sort.breakPatterns d a b/\P.size=n:=by
 have ag:=H.ok d.toList;have R:d.toList.length=n:=by simpa using B
 have i:∀l m,Pv.look (.loc m) (S l).b=none:=fun l=>(H.ok l).obj.1;have hu:∀l m cs,cB (.loc m) cs (S l).b=(S l).b++[(.loc m,cs)]:=fun l m cs=>kL (i l m);have ak:∀m,aB.loc m∉dh (S d.toList):=kD ag.obj;have j:∀l,Pv.look (.obj 902) (S l).b=none:=fun l=>(p l).1;have l0:∀l,Pv.look (.obj 902) (S l).e=none:=fun l=>(p l).2;have hle:=H.le;have my:=XP p d.toList;rw[ach d a b mu];obtain⟨len,hlen⟩:∃len,len=b-a:=⟨_,rfl⟩;rw[<-hlen];obtain⟨M,K⟩:∃M,M=1<<<Sort.bitsLen len:=⟨_,rfl⟩;rw[<-K];have as5:len<M/\M<=2*len:=by have:=apZ (x:=len) Ω;rw[K,Nat.one_shiftLeft];omega
 obtain⟨q,bz⟩:∃q,q=len/4:=⟨_,rfl⟩;rw[<-bz];have zn:∀l D cs,cB (.obj 902) cs ((S l).b++[(.loc 0,D)])=(S l).b++[(.loc 0,D),(.obj 902,cs)]:=fun l D cs=>by rw[CH (j l)];rfl
 have V3:∀l D x y,cB (.obj 902) y ((S l).b++[(.loc 0,D),(.obj 902,x)])=(S l).b++[(.loc 0,D),(.obj 902,y)]:=fun l D x y=>by rw[CH (j l)];simp[cB]
 have el:((b:Int)-a)=(len:Nat):=Ω
 have cR:oz.wrap ((len:Int).tdiv 4)=(q:Nat):=by rw[Int.tdiv_eq_ediv_of_nonneg Ω,lT _ Ω];omega
 have ew:hM.wrap (len:Int)=len:=by simp[tQ,pe,tP];omega
 refine bK.mk mixed pa Tryz.func235 amu Ψ ag.obj fun aP cU=>?_;unfold Sg;have G:=aqX len Ω;rw[<-K]at G;simp[fl,hu,zn,V3,ak,my,cV,i,j,l0,Pv.look,cB,el,ew];have t:oz.wrap ((len:Int)/4)=(q:Nat):=by rw[lT _ Ω];omega
 ((with_reducible repeat' first|refine al ?_|refine aI G ?_|refine aJ G ?_|simp[el,ew,cR,t,hu,zn,V3,ak,my,cV,i,j,l0,Pv.look,cB]|((first|apply bQ|apply bT|apply bS)<;>intro h<;>try simp at h))<;>(try exact cv));obtain⟨i0,D4⟩:∃i0,i0=a+q*2-1:=⟨_,rfl⟩;rw[<-D4];have Z:((a:Int)+q*2-1)=(i0:Nat):=Ω
 rw[Z];have O:∀(c:Array α) r k,inObs (jZ S c r) k->c.size=n->k∈aB.obj 902::dh (S d.toList):=fun c r k h N=>by
  have fE:=H.same d.toList c.toList R (by simpa using N);rcases h with h|h
  ·simp only[jZ,Pv.look]at h;split at h
   ·rename_i e;subst e;simp
   ·exact p4 _ (uM (.inl (by rw[fE.b];exact h)))
  ·exact p4 _ (uM (.inr (by rw[fE.e];exact h)))
 have F:∀(c:Array α) r,c.size=n->aA (nb (jZ S c r) 1) [.func g lc,.func cf b9]:=fun c r N=>by
  have J:=H.kdata (lk:=c.toList) (by simpa using N);have U:aA (inObs (S c.toList)) [.func g lc,.func cf b9]:=by simpa[fl,av,aA]using J
  refine kB (fun k p=>.inl ?_) _ U;rcases p with p|p
  ·refine .inl ?_;simp only[jZ,Pv.look];split
   ·rfl
   ·exact p
  ·exact .inr p
 have ati:∀(c:Array α) r D k cs,Pv.look k (jZ S c r).b=some cs->Pv.look k ((.loc 0,D)::(jZ S c r).b)=some cs:=fun c r D k cs h=>by
  cases k with
  |loc m=>rw[(Gg H c r).obj.1 m]at h;cases h
  |obj m=>simpa[Pv.look]using h
 refine mM (fun(x:Nat×UInt64×Array α)=>⟨[(1,.int .i64 a),(3,.ptr (.loc 0) 0),(6,.int .i64 len),(7,.ptr (.obj 902) 0),(8,.int .u64 M),(9,.int .i64 ((i0+x.1:Nat):Int))],[(.loc 0,[.func g lc,.func cf b9])]++(jZ S x.2.2 x.2.1.toNat).b,(jZ S x.2.2 x.2.1.toNat).e,1,aB.obj 902::dh (S d.toList)⟩) (fun x=>3-x.1)
  (fun x=>x.1<=3/\x.2.2.size=n/\AE a len M i0 d x.1=x.2) (0,UInt64.ofNat len,d) ?_ ⟨Ψ,B,rfl⟩ ?_
 ·refine aa5 (Gg H d _) (fun k h=>O d _ k h B) (fun k h=>p4 _ h) (by simp[av,inObs,jZ,Pv.look,nb]) ?_ ?_ aL
  ·intro x u;simp only[List.mem_singleton]at u;subst u;exact⟨by simp[cV,i,Pv.look],XN _ _ _ Ω,F d _ B⟩
  ·intro k cs h;simp only[jZ,Pv.look]at h;rw[cV];split at h
   ·rename_i e;subst e;rw[j];have:(UInt64.ofNat len).toNat=len:=by simp;omega
    rw[this]at h;simpa[Pv.look]using h
   ·rw[h]
 rintro⟨k,r,c⟩ ⟨bc,f,w⟩ _;simp only at bc f w;have aD:=r.toNat_lt;obtain⟨x,u⟩:∃x,x=r.toNat:=⟨_,rfl⟩;rw[<-u]at aD⊢;have q2:Sort.xorNextN x<18446744073709551616:=Sort.xorNextN_lt x Ω;have Mk:(Sort.xorNext r).toNat=Sort.xorNextN x:=by rw[Sort.xorNext_toNat,<-u]
 obtain⟨y,E⟩:∃y,y=Sort.xorNextN x:=⟨_,rfl⟩;have adl:hM.wrap ((M:Int)-1)=(M-1:Nat):=by simp[tQ,pe,tP];omega
 have yX:=ab4 y (M-1) Ω Ω;obtain⟨z,Q⟩:∃z,z=y&&& (M-1):=⟨_,rfl⟩;rw[<-Q]at yX;have atq:z<=M-1:=by rw[Q];exact Nat.and_le_right
 have oO:oz.wrap (z:Int)=z:=by rw[lT _ Ω]
 by_cases W:k=3
 ·subst W;simp[jZ,Pv.look,t];((with_reducible repeat' first|refine al ?_|simp[t]|((first|apply bQ|apply bT|apply bS)<;>intro h<;>try simp at h))<;>(try exact cv));refine cO.at (S c.toList) (.inr rfl) (H.ok _) (H.same _ _ R (by simpa using f)) (fun k cs h=>?_) (fun _ _ h=>h) ?_
  ·simp only[Pv.look];split
   ·rename_i e;subst e;rw[i]at h;cases h
   ·split
    ·rename_i e;subst e;rw[j]at h;cases h
    ·exact h
  ·simp[cT,aX,a1,aV];exact⟨c,rfl,by rw[w],f⟩
 ·have Hu:((i0+k:Nat):Int)<=(a:Int)+q*2+1:=Ω
  have Vs:((i0:Int)+k)<=(a:Int)+q*2+1:=Ω
  simp[jZ,Pv.look,t,Vs,Hu];(with_reducible repeat' first|refine al ?_|simp[t,Vs,Hu,Pv.look]);have atm:=H.same d.toList c.toList R (by simpa using f);have V:∀(L:Array α) (v:List ah),bZ [(aB.obj 902,v)] (S L.toList).b=(S L.toList).b:=fun L v=>P2 _ _ fun k x hm=>by
   have:=v8 hm;simp only[Pv.look];split
   ·rename_i e;subst e;rw[j]at this;cases this
   ·rfl
  refine cC.ob (agZ x Ω) (J5 x) (fun k cs h=>?_) (fun k o h=>by simp[nU,Pv.look]at h) (by simp[av,aA,inObs,nU,Pv.look]) ?_
  ·simp only[nU,Pv.look]at h⊢;split at h
   ·rename_i e;subst e;simpa using h
   ·cases h
  rintro eF A ⟨rfl,rfl⟩;refine⟨Qn _ _,?_⟩;rw[<-E];have Y:bZ (nU x).b ((aB.loc 0,[ah.func g lc,ah.func cf b9])::(aB.obj 902,[ah.int .u64 x])::(S c.toList).b)=(aB.loc 0,[ah.func g lc,ah.func cf b9])::(S c.toList).b:=by simp[nU,bZ,Pv.look,V]
  have X:bZ (nU x).e (S c.toList).e=(S c.toList).e:=P2 _ _ fun _ _ _=>rfl;rw[Y,X,show(nU y).b=[(aB.obj 902,[ah.int .u64 y])]from rfl,show(nU y).e=[]from rfl,List.append_nil];have as3:∀(v:List ah),Pv.look (.obj 902) ((aB.loc 0,[ah.func g lc,ah.func cf b9])::((S c.toList).b++[(aB.obj 902,v)]))=some v:=fun v=>by simp[Pv.look,cV,j]
  have QR:∀o',o'<len->o'=(if z≥len then z-len else z)->Sort.breakStep a len M (r,c) (i0+k)=(Sort.xorNext r,Sort.swp c (i0+k) (a+o')):=fun o' J U=>by unfold Sort.breakStep;simp only[Mk,<-E,<-Q,<-U]
  have TE:((i0:Int)+k)=((i0+k:Nat):Int):=Ω
  simp only[eP,aB.obj.injEq];simp[-BitVec.toNat_and,-BitVec.ofInt_natCast,adl,yX,oO,Pv.look,H.ssc];by_cases atr:len<=z
  ·have MH:(len:Int)<=z:=Ω
   have K6:((a:Int)+(z-len))=((a+(z-len):Nat):Int):=Ω
   ((with_reducible repeat' first|refine al ?_|simp[MH,Pv.look,H.ssc]|((first|apply bQ|apply bT|apply bS)<;>intro h<;>try simp at h))<;>(try exact cv));rw[K6,TE];refine cC.ob (H.swap c.toList (by simpa using f) Ω (i0+k) (a+(z-len)) Ω Ω) (H.ok _) (fun bn cs h=>?_) (fun _ _ h=>h) (by simp[av,aA,H.ksc c.toList (by simpa using f)]) ?_
   ·simp only[Pv.look];split
    ·rename_i e;subst e;rw[i]at h;cases h
    ·rw[cV,h]
   rintro eF A ⟨rfl,rfl⟩;refine⟨H.same _ _ (by simpa using f) (by simpa using f),?_⟩;rw[Ij c Ω Ω];obtain⟨d2,s⟩:∃d2,d2=Sort.swp c (i0+k) (a+(z-len)):=⟨_,rfl⟩;have s2:d2.size=n:=by rw[s,ho,f]
   rw[<-s];have Lc:∀v:List ah,bZ (S c.toList).b ((aB.loc 0,[ah.func g lc,ah.func cf b9])::((S c.toList).b++[(aB.obj 902,v)]))=[(aB.loc 0,[ah.func g lc,ah.func cf b9]),(aB.obj 902,v)]:=fun v=>by simp only[bZ,i];rw[js,hy];simp[bZ,j]
   dsimp only;rw[Lc,hy];simp;(with_reducible repeat' first|refine al ?_|simp);have K2:((i0:Int)+k+1)=((i0+(k+1):Nat):Int):=Ω
   rw[K2];refine bO.whl (k+1,Sort.xorNext r,d2) d7 ⟨by simp;omega,s2,by simp only[AE,w];rw[QR (z-len) Ω (by rw[if_pos Ω]),s]⟩ ?_;rw[Mk,<-E];refine aa4 (Gg H d2 y) (fun k h=>O d2 _ k h s2) (fun k h=>p4 _ h) (by simp[av,inObs,jZ,Pv.look,nb]) hV (F d2 _ s2) ?_ (fun _ _ h=>h);intro k cs h;simp only[jZ,Pv.look]at h⊢;split at h
   ·rename_i e;subst e;simpa using h
   ·rename_i e;split
    ·rename_i aC;subst aC;rw[i]at h;cases h
    ·exact h
  ·have MH:¬(len:Int)<=z:=Ω
   have K6:((a:Int)+z)=((a+z:Nat):Int):=Ω
   ((with_reducible repeat' first|refine al ?_|simp[MH,Pv.look,H.ssc]|((first|apply bQ|apply bT|apply bS)<;>intro h<;>try simp at h))<;>(try exact cv));rw[K6,TE];refine cC.ob (H.swap c.toList (by simpa using f) Ω (i0+k) (a+z) Ω Ω) (H.ok _) (fun bn cs h=>?_) (fun _ _ h=>h) (by simp[av,aA,H.ksc c.toList (by simpa using f)]) ?_
   ·simp only[Pv.look];split
    ·rename_i e;subst e;rw[i]at h;cases h
    ·rw[cV,h]
   rintro eF A ⟨rfl,rfl⟩;refine⟨H.same _ _ (by simpa using f) (by simpa using f),?_⟩;rw[Ij c Ω Ω];obtain⟨d2,s⟩:∃d2,d2=Sort.swp c (i0+k) (a+z):=⟨_,rfl⟩;have s2:d2.size=n:=by rw[s,ho,f]
   rw[<-s];have Lc:∀v:List ah,bZ (S c.toList).b ((aB.loc 0,[ah.func g lc,ah.func cf b9])::((S c.toList).b++[(aB.obj 902,v)]))=[(aB.loc 0,[ah.func g lc,ah.func cf b9]),(aB.obj 902,v)]:=fun v=>by simp only[bZ,i];rw[js,hy];simp[bZ,j]
   dsimp only;rw[Lc,hy];simp;(with_reducible repeat' first|refine al ?_|simp);have K2:((i0:Int)+k+1)=((i0+(k+1):Nat):Int):=Ω
   rw[K2];refine bO.whl (k+1,Sort.xorNext r,d2) d7 ⟨by simp;omega,s2,by simp only[AE,w];rw[QR z Ω (by rw[if_neg Ω]),s]⟩ ?_;rw[Mk,<-E];refine aa4 (Gg H d2 y) (fun k h=>O d2 _ k h s2) (fun k h=>p4 _ h) (by simp[av,inObs,jZ,Pv.look,nb]) hV (F d2 _ s2) ?_ (fun _ _ h=>h);intro k cs h;simp only[jZ,Pv.look]at h⊢;split at h
   ·rename_i e;subst e;simpa using h
   ·rename_i e;split
    ·rename_i aC;subst aC;rw[i]at h;cases h
    ·exact h
end
section
open Go Go.Pv
variable {α:Type} [Inhabited α] {S:List α->cM} {n g cf:Nat} {lc b9:List ah} {lt:α->α->Bool}
theorem fB.fnD{d d2:Array α}(H:fB S n g cf lc b9 lt)(J:d.size=n){f:Nat}{args:List ah}{r:ah}(p:bK ar f args (S d.toList) fun b j=>b=r/\∃a,j=S a.toList/\a=d2/\a.size=n)(m:aA (inObs (S d.toList)) args){t:List (Nat×ah)}{D:List ah}{o:List aB}{a:aW Nat}{K:bh->Prop}
  (h:d2.size=n->∀o,K ⟨eP a r t,(.loc 0,D)::(S d2.toList).b,(S d2.toList).e,1,o⟩):cC ar f args ⟨t,(.loc 0,D)::(S d.toList).b,(S d.toList).e,1,o⟩ a K:=
 H.call (by simpa using J) (R:=fun b c=>b=r/\c=d2.toList/\d2.size=n) (p.mono fun r j ⟨l,a,q,i,k⟩=>⟨a.toList,q,l,by rw[i],by rw[<-i];exact k⟩) (fun r c ⟨_,e,h⟩=>by rw[e];simpa using h) m (by rintro b c ⟨rfl,rfl,U⟩;exact h U _)
attribute [local simp] pE
def CW(S:List α->cM)(n g cf:Nat)(lc b9:List ah)(lt:α->α->Bool)(m:Nat):Prop:=
 ∀k,k<m->∀(d:Array α),d.size=n->∀a b e:Nat,b-a<=k->a<=b->b<=n->e<=1000->Sort.Below lt a b d->
  bK ar 208 [fl g cf lc b9,.int .i64 a,.int .i64 b,.int .i64 e] (S d.toList) fun r f=>r= .tuple []/\∃c,f=S c.toList/\Sort.PermIn a b d c/\Sort.SortedIn lt a b c
structure ym (S:List α->cM) (n g cf:Nat) (lc b9:List ah) (lt:α->α->Bool) (bo cb lim:Nat) (d:Array α) (Q:Exit->bh->Prop):Prop where
 k:∀e,e= .normal\/e= .exit 1->∀(a2 b5:Nat) (w v:Bool) (L:Array α) (t:List (Nat×ah)) (o:List aB),L.size=n->a2<=b5->b5<=n->b5-a2<cb-bo->Sort.Below lt a2 b5 L->(∀R,Sort.PermIn a2 b5 L R->Sort.SortedIn lt a2 b5 R->Sort.PermIn bo cb d R/\Sort.SortedIn lt bo cb R)->
  Pv.get 1 t= .int .i64 a2->Pv.get 2 t= .int .i64 b5->Pv.get 3 t= .int .i64 lim->Pv.get 4 t= .ptr (.loc 0) 0->Pv.get 8 t= .bool w->Pv.get 9 t= .bool v->Q e ⟨t,(.loc 0,[.func g lc,.func cf b9])::(S L.toList).b,(S L.toList).e,1,o⟩
 r:∀(R:Array α) t o,Sort.PermIn bo cb d R->Sort.SortedIn lt bo cb R->Q .ret ⟨t,(.loc 0,[.func g lc,.func cf b9])::(S R.toList).b,(S R.toList).e,1,o⟩
theorem ym.mono{bo cb lim:Nat}{d f:Array α}{Q:Exit->bh->Prop}(h:ym S n g cf lc b9 lt bo cb lim d Q)(p:Sort.PermIn bo cb d f):ym S n g cf lc b9 lt bo cb lim f Q:=⟨fun e he a2 l w v L t o m q k j i c=>h.k e he a2 l w v L t o m q k j i fun R b a=>⟨Sort.permIn_trans _ _ _ bo cb p (c R b a).1,(c R b a).2⟩,fun R t o b a=>h.r R t o (Sort.permIn_trans _ _ _ bo cb p b) a⟩
structure Aw (t:List (Nat×ah)) (bo cb lim:Nat):Prop where
 t1:Pv.get 1 t= .int .i64 bo
 t2:Pv.get 2 t= .int .i64 cb
 t3:Pv.get 3 t= .int .i64 lim
 t4:Pv.get 4 t= .ptr (.loc 0) 0
 t10:Pv.get 10 t= .int .i64 ((cb:Int)-bo)
section
variable {bo cb lim:Nat} {cQ:Array α} {t:List (Nat×ah)} {o:List aB} {ob:List aB} {Q:Exit->bh->Prop}
theorem Yl(H:fB S n g cf lc b9 lt)(E:Sort.SWO lt)(B:CW S n g cf lc b9 lt (cb-bo)){pv:Nat}(T:Aw t bo cb lim)(t11:Pv.get 11 t= .int .i64 pv)(z:lim<=1000)(k:cQ.size=n)(e:bo<=pv/\pv<cb)(u:cb<=n)(J:12<cb-bo)(D:Sort.Below lt bo cb cQ)(A:ym S n g cf lc b9 lt bo cb lim cQ Q):
  dd ar ob KF Q ⟨t,(.loc 0,[.func g lc,.func cf b9])::(S cQ.toList).b,(S cQ.toList).e,1,o⟩:=by
 obtain⟨t1,t2,t3,t4,t10⟩:=T;have j:∀f:Array α,f.size=n->av (inObs (S f.toList)) (fl g cf lc b9):=fun f h=>H.kdata (lk:=f.toList) (by simpa using h);have hle:=H.le;unfold KF;simp[t1,t2,t4,t11,Pv.look,H.slc,H.ssc];simp only[ja H,H.slc,H.ssc,iQ];have d:=ahi H cQ k bo cb pv e.1 e.2 Ω u;have i:Sort.partition lt cQ bo cb pv=((Sort.partition lt cQ bo cb pv).1,(Sort.partition lt cQ bo cb pv).2.1,(Sort.partition lt cQ bo cb pv).2.2):=rfl;generalize (Sort.partition lt cQ bo cb pv).1=mid at d i;generalize (Sort.partition lt cQ bo cb pv).2.1=ap at d i;generalize (Sort.partition lt cQ bo cb pv).2.2=d4 at d i;obtain⟨g1,g2,g3,g4,g5,g6,g7⟩:=Sort.round_part E (Sort.partition_holds lt) e.1 e.2 Ω D i;refine H.fnD k d (by simp[av,aA,j cQ k]) fun s4 o=>?_;have em:((mid:Int)+1)=(mid+1:Nat):=Ω
 simp[t1,t2,t3,t4,t10];by_cases F:mid-bo<cb-mid
 ·have y:(mid:Int)-bo<cb-mid:=Ω
  (with_reducible repeat' first|refine al ?_|simp[y,Pv.look,t1,t2,t3,t4,t10]);simp only[ja H,H.slc,H.ssc,iQ];refine H.doFn (lk:=d4.toList) (by simpa using s4) (R:=fun a=> ∃L:Array α,a=L.toList/\Sort.PermIn bo mid d4 L/\Sort.SortedIn lt bo mid L) ((B (mid-bo) Ω d4 s4 bo mid lim (eR _) g1 Ω z g4).mono fun r G ⟨x,b,w,v,s⟩=>⟨x,b.toList,w,b,rfl,v,s⟩) (by rintro a ⟨L,rfl,q,_⟩;simpa using q.1.trans s4) (by simp[aA,av,j d4 s4]) ?_;rintro a ⟨L,rfl,c,p⟩;obtain⟨m,l⟩:=g6 L c p;simp;(with_reducible repeat' first|refine al ?_|simp[t1,t2,t3,t4]);rw[em];exact A.k _ (.inl rfl) (mid+1) cb _ ap L _ _ (c.1.trans s4) Ω u Ω m l Ψ (by simp[t2]) (by simp[t3]) (by simp[t4]) (by simp;rfl) Ψ
 ·have y:¬(mid:Int)-bo<cb-mid:=Ω
  (with_reducible repeat' first|refine al ?_|simp[y,Pv.look,t1,t2,t3,t4,t10]);simp only[ja H,H.slc,H.ssc,iQ];rw[em];refine H.doFn (lk:=d4.toList) (by simpa using s4) (R:=fun a=> ∃L:Array α,a=L.toList/\Sort.PermIn (mid+1) cb d4 L/\Sort.SortedIn lt (mid+1) cb L) ((B (cb-(mid+1)) Ω d4 s4 (mid+1) cb lim (eR _) Ω u z g5).mono fun r G ⟨x,b,w,v,s⟩=>⟨x,b.toList,w,b,rfl,v,s⟩) (by rintro a ⟨L,rfl,q,_⟩;simpa using q.1.trans s4) (by simp[aA,av,j d4 s4]) ?_;rintro a ⟨L,rfl,c,p⟩;obtain⟨m,l⟩:=g7 L c p;simp;(with_reducible repeat' first|refine al ?_|simp[t1,t2,t3,t4]);exact A.k _ (.inl rfl) bo mid _ ap L _ _ (c.1.trans s4) g1 Ω Ω m l (by simp[t1]) Ψ (by simp[t3]) (by simp[t4]) (by simp;rfl) Ψ
theorem ant(H:fB S n g cf lc b9 lt)(j:Sort.SWO lt)(p:CW S n g cf lc b9 lt (cb-bo)){pv:Nat}(T:Aw t bo cb lim)(t11:Pv.get 11 t= .int .i64 pv){w v:Bool}(t8:Pv.get 8 t= .bool w)(t9:Pv.get 9 t= .bool v)(m:lim<=1000)(b:cQ.size=n)(a:bo<=pv/\pv<cb)(d:cb<=n)(l:12<cb-bo)(e:Sort.Below lt bo cb cQ)(h:ym S n g cf lc b9 lt bo cb lim cQ Q):
  dd ar ob Dd Q ⟨t,(.loc 0,[.func g lc,.func cf b9])::(S cQ.toList).b,(S cQ.toList).e,1,o⟩:=by
 obtain⟨t1,t2,t3,t4,t10⟩:=id T;have hle:=H.le;unfold Dd;by_cases c:0<bo
 ·have k:(0:Int)<bo:=Ω
  simp[t1,t2,t4,t11,c,k,Pv.look,H.slc,H.ssc];(with_reducible repeat' first|refine al ?_|simp[t1,t2,t4,t11,c,k,Pv.look,H.slc,H.ssc]);rw[show((bo:Int)-1)=((bo-1:Nat):Int) by omega];refine H.lessA b (bo-1) pv Ω Ω fun o=>?_;cases q:lt cQ[bo-1]! cQ[pv]!
  ·simp;(with_reducible repeat' first|refine al ?_|simp[Pv.look,H.slc,H.ssc,t1,t2,t4,t11]);simp only[ja H,H.slc,H.ssc,iQ];have f:=ahj H cQ b bo cb pv a.1 a.2 Ω d;have i:Sort.partitionEqual lt cQ bo cb pv=((Sort.partitionEqual lt cQ bo cb pv).1,(Sort.partitionEqual lt cQ bo cb pv).2):=rfl;generalize (Sort.partitionEqual lt cQ bo cb pv).1=mid at f i;generalize (Sort.partitionEqual lt cQ bo cb pv).2=d4 at f i;obtain⟨g1,g2,g3,g4,g5⟩:=Sort.round_eq j (Sort.partitionEqual_holds lt) c a.1 a.2 Ω e q i;refine H.fnD b f (by simp[av,aA,H.kdata (lk:=cQ.toList) (by simpa using b)]) fun s4 o=>?_;simp[t1,t2,t3,t4];exact h.k _ (.inr rfl) mid cb w v d4 _ _ s4 g2 d Ω g4 g5 Ψ (by simp[t2]) (by simp[t3]) (by simp[t4]) (by simp[t8]) (by simp[t9])
  ·simp;exact Yl H j p ⟨by simp[t1],by simp[t2],by simp[t3],by simp[t4],by simp[t10]⟩ (by simp[t11]) m b a d l e h
 ·have k:¬(0:Int)<bo:=Ω
  simp[t1,c];exact Yl H j p ⟨by simp[t1],by simp[t2],by simp[t3],by simp[t4],by simp[t10]⟩ (by simp[t11]) m b a d l e h
theorem Oc(H:fB S n g cf lc b9 lt)(p:Sort.SWO lt)(z:CW S n g cf lc b9 lt (cb-bo)){pv:Nat}(T:Aw t bo cb lim)(t11:Pv.get 11 t= .int .i64 pv){h:Nat}(t12:Pv.get 12 t= .int .i64 h){w v:Bool}(t8:Pv.get 8 t= .bool w)(t9:Pv.get 9 t= .bool v)(r:lim<=1000)(b:cQ.size=n)(u:bo<=pv/\pv<cb)(m:cb<=n)(q:12<cb-bo)(c:Sort.Below lt bo cb cQ)(l:ym S n g cf lc b9 lt bo cb lim cQ Q):
  dd ar ob KG Q ⟨t,(.loc 0,[.func g lc,.func cf b9])::(S cQ.toList).b,(S cQ.toList).e,1,o⟩:=by
 obtain⟨t1,t2,t3,t4,t10⟩:=id T;have hle:=H.le;unfold KG;have next:∀{d5:Array α} {t o},Aw t bo cb lim->Pv.get 11 t= .int .i64 pv->Pv.get 8 t= .bool w->Pv.get 9 t= .bool v->d5.size=n->Sort.Below lt bo cb d5->Sort.PermIn bo cb cQ d5->dd ar ob Dd Q ⟨t,(.loc 0,[.func g lc,.func cf b9])::(S d5.toList).b,(S d5.toList).e,1,o⟩:=fun j k f e y x s=>ant H p z j k f e r y u m q x (l.mono s)
 have skip:∀{t o},Aw t bo cb lim->Pv.get 11 t= .int .i64 pv->Pv.get 8 t= .bool w->Pv.get 9 t= .bool v->dd ar ob Dd Q ⟨t,(.loc 0,[.func g lc,.func cf b9])::(S cQ.toList).b,(S cQ.toList).e,1,o⟩:=fun j k f e=>next j k f e b c (Sort.permIn_refl _ _ _)
 by_cases ax:(w=true/\v=true)/\h=1
 ·obtain⟨⟨rfl,rfl⟩,rfl⟩:=ax;simp[t1,t2,t4,t8,t9,t12,Pv.look,H.slc,H.ssc];simp only[ja H,H.slc,H.ssc,iQ];have d:=ahh H cQ b bo cb Ω m Ω;have a:=Sort.partialInsertionSort_holds p cQ bo cb Ω Ω c;generalize (Sort.partialInsertionSort lt cQ bo cb).1=d5 at d a;generalize (Sort.partialInsertionSort lt cQ bo cb).2=ok at d a;refine H.fnD b d (by simp[av,aA,H.kdata (lk:=cQ.toList) (by simpa using b)]) fun i o=>?_;cases ok
  ·simp;exact next ⟨by simp[t1],by simp[t2],by simp[t3],by simp[t4],by simp[t10]⟩ (by simp[t11]) (by simp[t8]) (by simp[t9]) i (c.perm Ω a.1) a.1
  ·simp;exact l.r _ _ _ a.1 (a.2 rfl)
 ·cases w
  ·simp[t8,t9,t12];exact skip ⟨by simp[t1],by simp[t2],by simp[t3],by simp[t4],by simp[t10]⟩ (by simp[t11]) (by simp[t8]) (by simp[t9])
  ·cases v
   ·simp[t8,t9,t12];exact skip ⟨by simp[t1],by simp[t2],by simp[t3],by simp[t4],by simp[t10]⟩ (by simp[t11]) (by simp[t8]) (by simp[t9])
   ·have J:((h:Int)==1)=false:=by simp at ax⊢;omega
    simp[t8,t9,t12,J];exact skip ⟨by simp[t1],by simp[t2],by simp[t3],by simp[t4],by simp[t10]⟩ (by simp[t11]) (by simp[t8]) (by simp[t9])
theorem Ym(H:fB S n g cf lc b9 lt)(r:tu S 901)(i:Sort.SWO lt)(j:CW S n g cf lc b9 lt (cb-bo))(T:Aw t bo cb lim){w v:Bool}(t8:Pv.get 8 t= .bool w)(t9:Pv.get 9 t= .bool v)(e:lim<=1000)(s1:cQ.size=n)(a:cb<=n)(d:12<cb-bo)(p7:Sort.Below lt bo cb cQ)(f:ym S n g cf lc b9 lt bo cb lim cQ Q):
  dd ar ob KH Q ⟨t,(.loc 0,[.func g lc,.func cf b9])::(S cQ.toList).b,(S cQ.toList).e,1,o⟩:=by
 obtain⟨t1,t2,t3,t4,t10⟩:=id T;have hle:=H.le;have l:∀c:Array α,c.size=n->av (inObs (S c.toList)) (fl g cf lc b9):=fun c h=>H.kdata (lk:=c.toList) (by simpa using h);unfold KH;simp[t1,t2,t4,Pv.look,H.slc,H.ssc];simp only[ja H,H.slc,H.ssc,iQ];have b:=Sort.choosePivot_holds lt cQ bo cb Ω;have k:=ag7 H r cQ s1 bo cb Ω a;generalize Sort.choosePivot lt cQ bo cb=s at k b;obtain⟨p,hint⟩:=s;simp only at k b;refine H.fnA s1 s1 k (by simp[av,aA,l cQ s1]) fun o=>?_;cases hint
 ·simp[Bm];exact Oc H i j ⟨by simp[t1],by simp[t2],by simp[t3],by simp[t4],by simp[t10]⟩ (pv:=p) Ψ (h:=0) Ψ (w:=w) (v:=v) (by simp[t8]) (by simp[t9]) e s1 b a d p7 f
 ·simp[Bm];exact Oc H i j ⟨by simp[t1],by simp[t2],by simp[t3],by simp[t4],by simp[t10]⟩ (pv:=p) Ψ (h:=1) Ψ (w:=w) (v:=v) (by simp[t8]) (by simp[t9]) e s1 b a d p7 f
 ·simp[Bm,t1,t2,t4,Pv.look,H.slc,H.ssc];simp only[ja H,H.slc,H.ssc,iQ];refine H.fnD s1 (aho H cQ s1 bo cb Ω a Ω) (by simp[av,aA,l cQ s1]) fun s2 o=>?_;have m:=Sort.reverseRange_holds cQ bo cb Ω Ω;have q:((cb:Int)-1-(p-bo))=((cb-1)-(p-bo):Nat):=Ω
  simp[t1,t2,q];(with_reducible repeat' first|refine al ?_|simp[q,t1,t2]);exact Oc H i j ⟨by simp[t1],by simp[t2],by simp[t3],by simp[t4],by simp[t10]⟩ (pv:=(cb-1)-(p-bo)) Ψ (h:=1) Ψ (w:=w) (v:=v) (by simp[t8]) (by simp[t9]) e s2 Ω a d (p7.perm Ω m) (f.mono m)
end
theorem ahk(H:fB S n g cf lc b9 lt)(gN:tu S 901)(l0:tu S 902)(E:Sort.SWO lt)(m:Nat):∀(d:Array α) (G:d.size=n) (a b B:Nat) (hm:b-a<=m) (n3:a<=b) (ae:b<=n) (eH:B<=1000) (DS:Sort.Below lt a b d),
  bK ar 208 [fl g cf lc b9,.int .i64 a,.int .i64 b,.int .i64 B] (S d.toList) fun r aj=>r= .tuple []/\∃q,aj=S q.toList/\Sort.PermIn a b d q/\Sort.SortedIn lt a b q:=by
 induction m using Nat.strongRecOn with
 |ind m bB=>
 intro d G a b B hm n3 ae eH DS;have ag:=H.ok d.toList;have F:d.toList.length=n:=by simpa using G
 have Z:∀l m,Pv.look (.loc m) (S l).b=none:=fun l=>(H.ok l).obj.1;have hu:∀l m cs,cB (.loc m) cs (S l).b=(S l).b++[(.loc m,cs)]:=fun l m cs=>kL (Z l m);have ak:∀m,aB.loc m∉dh (S d.toList):=kD ag.obj;have hle:=H.le;refine bK.mk mixed pa Tryz.func208 amE Ψ ag.obj fun aP cU=>?_;unfold Sr;simp[fl,hu,ak,cV,Z];refine H.loopA F [4] (fun(x:((Nat×Nat×Nat)×Bool×Bool)×Array α)=>[(1,.int .i64 x.1.1.1),(2,.int .i64 x.1.1.2.1),(3,.int .i64 x.1.1.2.2),(8,.bool x.1.2.1),(9,.bool x.1.2.2)]) (·.2) (fun x=>x.1.1.2.1-x.1.1.1) (fun x=>x.2.size=n/\(x.1.1.1<=x.1.1.2.1/\x.1.1.2.1<=n/\x.1.1.2.1-x.1.1.1<=m/\x.1.1.2.2<=1000)/\Sort.Below lt x.1.1.1 x.1.1.2.1 x.2/\∀R,Sort.PermIn x.1.1.1 x.1.1.2.1 x.2 R->Sort.SortedIn lt x.1.1.1 x.1.1.2.1 R->Sort.PermIn a b d R/\Sort.SortedIn lt a b R)
  (((a,b,B),true,true),d) G ⟨G,⟨n3,ae,hm,eH⟩,DS,fun R J U=>⟨J,U⟩⟩ (by simp[cV,Z]) aL aL d9 ?_
 rintro⟨⟨⟨bo,cb,i⟩,arE,wp⟩,f⟩ ⟨c,⟨s,u,ff,V⟩,MU,N⟩;simp only at c s u ff V MU N;have P:∀D:Array α,D.size=n->av (inObs (S D.toList)) (fl g cf lc b9):=fun D h=>H.kdata (lk:=D.toList) (by simpa using h);have K:∀(R:Array α) t o,Sort.PermIn bo cb f R->Sort.SortedIn lt bo cb R->cO [] (S d.toList) (fun r aj=>r= .tuple []/\∃q,aj=S q.toList/\Sort.PermIn a b d q/\Sort.SortedIn lt a b q) .ret ⟨t,(.loc 0,[.func g lc,.func cf b9])::(S R.toList).b,(S R.toList).e,1,o⟩:=fun R t o J U=>by refine H.retA F (by rw[J.1];exact c) (.inl rfl) ⟨rfl,R,rfl,N R J U⟩
 simp;by_cases ue:cb-bo<=12
 ·have A:(cb:Int)-bo<=12:=Ω
  (with_reducible repeat' first|refine al ?_|simp[A,Pv.look,H.slc,H.ssc]);simp only[ja H,H.slc,H.ssc,iQ];refine H.fnD c (ahc H f c bo cb s u) (by simp[av,aA,P f c]) fun s2 o=>?_;obtain⟨a8,X⟩:=Sort.insertionSort_holds E f bo cb s Ω;simp;exact K _ _ _ a8 X
 have A:¬(cb:Int)-bo<=12:=Ω
 by_cases za:i=0
 ·have M:(((i:Nat):Int)==0)=true:=by simp[za]
  (with_reducible repeat' first|refine al ?_|simp[A,M,Pv.look,H.slc,H.ssc]);simp only[ja H,H.slc,H.ssc,iQ];refine H.fnD c (ahb H f c bo cb s u Ω) (by simp[av,aA,P f c]) fun s2 o=>?_;obtain⟨a8,X⟩:=Sort.heapSort_holds E f bo cb s Ω;simp;exact K _ _ _ a8 X
 have M:(((i:Nat):Int)==0)=false:=by simp[za]
 have V8:CW S n g cf lc b9 lt (cb-bo):=fun k ad=>bB k Ω;cases arE
 ·(with_reducible repeat' first|refine al ?_|simp[A,M,Pv.look,H.slc,H.ssc]);simp only[ja H,H.slc,H.ssc,iQ];refine H.fnD c (ag6 H l0 f c bo cb s u Ω) (by simp[av,aA,P f c]) fun s1 o=>?_;have O:=Sort.breakPatterns_holds f bo cb s Ω;generalize Sort.breakPatterns f bo cb=d1 at s1 O;have el:((i:Int)-1)=(i-1:Nat):=Ω
  simp[el];(with_reducible repeat' first|refine al ?_|simp[el,Pv.look]);refine Ym (lim:=i-1) H gN E V8 ⟨Ψ,Ψ,Ψ,Ψ,Ψ⟩ (w:=false) (v:=wp) Ψ Ψ Ω s1 u Ω (MU.perm Ω O) ⟨?_,fun R t o p j=>?_⟩
  ·rintro e he a2 Y w v L t o z aC W cR Q y t1 t2 t3 t4 t8 t9;rcases he with rfl|rfl<;>simp<;>exact bO.whl (((a2,Y,i-1),w,v),L) d7 ⟨z,⟨aC,W,by simp;omega,by simp;omega⟩,Q,fun R p j=>N R (Sort.permIn_trans _ _ _ bo cb O (y R p j).1) (y R p j).2⟩ (H.weakC F (by simpa using z) (by simp[av,t1,t2,t3,t4,t8,t9]))
  ·simpa using K R t o (Sort.permIn_trans _ _ _ bo cb O p) j
 ·(with_reducible repeat' first|refine al ?_|simp[A,M,Pv.look,H.slc,H.ssc]);refine Ym (lim:=i) H gN E V8 ⟨Ψ,Ψ,Ψ,Ψ,Ψ⟩ (w:=true) (v:=wp) Ψ Ψ V c u Ω MU ⟨?_,fun R t o p j=>?_⟩
  ·rintro e he a2 Y w v L t o z aC W cR Q y t1 t2 t3 t4 t8 t9;rcases he with rfl|rfl<;>simp<;>exact bO.whl (((a2,Y,i),w,v),L) d7 ⟨z,⟨aC,W,by simp;omega,V⟩,Q,fun R p j=>N R (y R p j).1 (y R p j).2⟩ (H.weakC F (by simpa using z) (by simp[av,t1,t2,t3,t4,t8,t9]))
  ·simpa using K R t o p j
end
section
open Go Go.Pv
variable {α:Type} {S:List α->cM} {n g cf:Nat} {lc b9:List ah} {lt:α->α->Bool}
theorem akG(n:rE lt){l lk:List α}{a b i:Nat}(t:a+1<=i)(B:i<=b)(ae:b<=l.length)(e:fH lt (a+1) b l){z:α}(j:l[a]? =some z)(r:∀h x,a+1<=h->h<i->l[h]? =some x->lt x z=true)(s:∀h x,i<=h->h<b->l[h]? =some x->lt x z=false)
  (o:∀k,lk[k]? =l[iA a (a+1) i k]?):fH lt a b lk:=by
 intro p q x y w u g c d;rw[o]at c d;simp only[iA]at c d;rw[if_neg Ω]at c d;by_cases A:q<i-1
 ·rw[if_pos Ω]at c d;exact e _ _ _ _ Ω Ω Ω c d
 ·rw[if_neg Ω]at d;by_cases m:q<i
  ·rw[if_pos m,show q-(i-(a+1))=a by omega,j]at d;cases d;rw[if_pos Ω]at c;exact n.asym _ _ (r _ _ Ω Ω c)
  ·rw[if_neg m]at d;by_cases v:p<i-1
   ·rw[if_pos Ω]at c;exact e _ _ _ _ Ω Ω Ω c d
   ·rw[if_neg Ω]at c;by_cases f:p<i
    ·rw[if_pos f,show p-(i-(a+1))=a by omega,j]at c;cases c;exact s _ _ Ω g d
    ·rw[if_neg f]at c;exact e _ _ _ _ Ω Ω g c d
theorem akH(n:rE lt){l lk:List α}{a m i:Nat}(v:a<=i)(o:i<=m)(ae:m+1<=l.length)(e:fH lt a m l){z:α}(g:l[m]? =some z)(t:∀h x,a<=h->h<i->l[h]? =some x->lt z x=false)(u:∀h x,i<=h->h<m->l[h]? =some x->lt z x=true)
  (r:∀k,lk[k]? =l[iA i m (m+1) k]?):fH lt a (m+1) lk:=by
 intro p q x y d j A b c;rw[r]at b c;simp only[iA]at b c;by_cases s:q<i
 ·rw[if_pos Ω]at b c;exact e _ _ _ _ d j Ω b c
 ·rw[if_neg s]at c;by_cases B:q=i
  ·rw[if_pos Ω,show q+(m-i)=m by omega,g]at c;cases c;rw[if_pos Ω]at b;exact t _ _ d Ω b
  ·rw[if_neg Ω,if_pos Ω]at c;by_cases f:p<i
   ·rw[if_pos f]at b;exact e _ _ _ _ d Ω Ω b c
   ·rw[if_neg f]at b;by_cases w:p=i
    ·rw[if_pos Ω,show p+(m-i)=m by omega,g]at b;cases b;exact n.asym _ _ (u _ _ Ω Ω c)
    ·rw[if_neg Ω,if_pos Ω]at b;exact e _ _ _ _ Ω Ω Ω b c
structure Gb (lt:α->α->Bool) (a s m e b mid:Nat) (lk:List α):Prop where
 s1:fH lt a s lk
 s2:fH lt s mid lk
 s3:fH lt mid e lk
 s4:fH lt e b lk
 cross:∀p q x y,a<=p->p<mid->mid<=q->q<b->lk[p]? =some x->lk[q]? =some y->lt y x=false
theorem fH.le(g:rE lt){a b:Nat}{l:List α}(h:fH lt a b l){i j:Nat}{x y:α}(J:a<=i)(U:i<=j)(k:j<b)(d:l[i]? =some x)(c:l[j]? =some y):lt y x=false:=by
 by_cases e:i=j
 ·subst e;rw[d]at c;cases c;cases f:lt x x with
  |false=>rfl
  |true=>have:=g.asym _ _ f;rw[f]at this;exact this
 ·exact h _ _ _ _ J Ω k d c
theorem akQ(g:rE lt){l lk:List α}{a m b mid s e:Nat}(has:a<=s)(fE:s<=m)(F:m<=e)(G:e<=b)(ae:b<=l.length)(K:s+e=mid+m)(J:fH lt a m l)(U:fH lt m b l)
  (t:s=a\/e=b\/ ∃x y,l[s-1]? =some x/\l[e]? =some y/\lt y x=false) (c2:s=m\/e=m\/ ∃x y,l[s]? =some x/\l[e-1]? =some y/\lt y x=true) (j:∀k,lk[k]? =l[iA s m e k]?):Gb lt a s m e b mid lk:=by
 have g1:∀p,p<s->lk[p]? =l[p]?:=fun p f=>by rw[j];simp[iA,f]
 have g2:∀p,s<=p->p<mid->lk[p]? =l[p+(m-s)]?:=fun p A H=>by rw[j];simp only[iA];rw[if_neg Ω,if_pos Ω]
 have g3:∀p,mid<=p->p<e->lk[p]? =l[p-(e-m)]?:=fun p A H=>by rw[j];simp only[iA];rw[if_neg Ω,if_neg Ω,if_pos Ω]
 have g4:∀p,e<=p->lk[p]? =l[p]?:=fun p A=>by
  rw[j];simp only[iA];rw[if_neg Ω];by_cases E:p<s+(e-m)
  ·omega
  ·rw[if_neg E,if_neg Ω]
 refine⟨fun p q x y f i h d c=>?_,fun p q x y f i h d c=>?_,fun p q x y f i h d c=>?_,fun p q x y f i h d c=>?_,fun p q x y f w h B d c=>?_⟩
 ·rw[g1 _ Ω]at d c;exact J _ _ _ _ f i Ω d c
 ·rw[g2 _ Ω Ω]at d c;exact U _ _ _ _ Ω Ω Ω d c
 ·rw[g3 _ Ω Ω]at d c;exact J _ _ _ _ Ω Ω Ω d c
 ·rw[g4 _ Ω]at d c;exact U _ _ _ _ Ω Ω Ω d c
 ·by_cases D:p<s
  ·rw[g1 _ D]at d;by_cases z:q<e
   ·rw[g3 _ h z]at c;exact J _ _ _ _ f Ω Ω d c
   ·rw[g4 _ Ω]at c;rcases t with t|t|⟨u,v,o,r,n⟩
    ·omega
    ·omega
    ·exact g.ntr _ _ _ (g.ntr _ _ _ (fH.le g J f Ω Ω d o) n) (fH.le g U Ω Ω B r c)
  ·rw[g2 _ Ω w]at d;by_cases z:q<e
   ·rw[g3 _ h z]at c;rcases c2 with c2|c2|⟨u,v,o,r,n⟩
    ·omega
    ·omega
    ·exact g.ntr _ _ _ (g.ntr _ _ _ (fH.le g U Ω Ω Ω d r) (g.asym _ _ n)) (fH.le g J Ω Ω Ω o c)
   ·rw[g4 _ Ω]at c;exact U _ _ _ _ Ω Ω B d c
theorem akR{a mid b:Nat}(u:a<=mid){lk e f:List α}(J:gK a mid lk e)(s1:fH lt a mid e)(U:gK mid b e f)(s2:fH lt mid b f)(i:∀p q x y,a<=p->p<mid->mid<=q->q<b->lk[p]? =some x->lk[q]? =some y->lt y x=false):fH lt a b f:=by
 intro p q x y n j m c d;by_cases s:q<mid
 ·rw[U.out _ (.inl Ω)]at c;rw[U.out _ (.inl Ω)]at d;exact s1 _ _ _ _ n j s c d
 ·by_cases t:mid<=p
  ·exact s2 _ _ _ _ t j m c d
  ·rw[U.out _ (.inl Ω)]at c;refine U.all (fun y=>lt y x=false) (fun k y l o d=>?_) q y Ω m d;rw[J.out _ (.inr l)]at d;exact J.all (fun x=>lt y x=false) (fun r x h g c=>i r k x y h g l o c d) p x n Ω c
end
section
open Go Go.Pv
variable {α:Type} {S:List α->cM} {n g cf:Nat} {lc b9:List ah} {lt:α->α->Bool}
def apN(lt:α->α->Bool)(l:List α)(mid m s0 r0:Nat)(x:Nat×Nat):Prop:=s0<=x.1/\x.1<=x.2/\x.2<=r0/\(x.1=s0\/ ∃u v,l[x.1-1]? =some u/\l[mid+m-x.1]? =some v/\lt v u=false)/\(x.2=r0\/ ∃u v,l[x.2]? =some u/\l[mid+m-x.2-1]? =some v/\lt v u=true)
attribute [local simp] pE
def Gh(S:List α->cM)(n g cf:Nat)(lc b9:List ah)(lt:α->α->Bool)(d:Nat):Prop:=
 ∀(l:List α) (a m b:Nat),l.length=n->b-a<=d->a<m->m<b->b<=n->fH lt a m l->fH lt m b l->
  bK ar 225 [fl g cf lc b9,.int .i64 a,.int .i64 m,.int .i64 b] (S l) fun r e=>r= .tuple []/\∃c,e=S c/\gK a b l c/\fH lt a b c
def Gi(S:List α->cM)(g cf:Nat)(lc b9:List ah)(lt:α->α->Bool)(a b:Nat)(l:List α)(Q:Exit->bh->Prop):Prop:=∀c t o,gK a b l c->fH lt a b c->Q .normal ⟨t,(.loc 0,[.func g lc,.func cf b9])::(S c).b,(S c).e,1,o⟩
section
variable {a m b mid i e d:Nat} {l:List α} {t:List (Nat×ah)} {o:List aB} {ob:List aB} {Q:Exit->bh->Prop}
theorem apq(H:fB S n g cf lc b9 lt)(r:Gh S n g cf lc b9 lt d)(t3:Pv.get 3 t= .int .i64 b)(t4:Pv.get 4 t= .ptr (.loc 0) 0)(t16:Pv.get 16 t= .int .i64 mid)(t22:Pv.get 22 t= .int .i64 e)(c:l.length=n)(J:mid<=e)(U:e<=b)(ae:b<=n)(s:b-mid<=d)(p:fH lt mid e l)(m:fH lt e b l)(i:Gi S g cf lc b9 lt mid b l Q):
  dd ar ob GA Q ⟨t,(.loc 0,[.func g lc,.func cf b9])::(S l).b,(S l).e,1,o⟩:=by
 unfold GA;by_cases a:mid<e/\e<b
 ·simp[t3,t4,t16,t22,a.1,a.2,Pv.look];simp only[ja H,H.slc,H.ssc,iQ];refine H.doFn c (r l mid e b c s a.1 a.2 ae p m) (fun v h=>by rw[h.1.length];exact c) (by simp[aA,av,H.kdata c]) ?_;rintro u ⟨q,z2⟩;simp;exact i _ _ _ q z2
 ·have k:fH lt mid b l:=by
   by_cases f:mid<e
   ·rwa[show e=b by omega]at p
   ·rwa[show e=mid by omega]at m
  by_cases f:mid<e
  ·have j:¬e<b:=Ω
   simp[t3,t16,t22,f,j];exact i _ _ _ (.refl _) k
  ·simp[t16,t22,f];exact i _ _ _ (.refl _) k
theorem apr(H:fB S n g cf lc b9 lt)(A:Gh S n g cf lc b9 lt d)(t1:Pv.get 1 t= .int .i64 a)(t3:Pv.get 3 t= .int .i64 b)(t4:Pv.get 4 t= .ptr (.loc 0) 0)(t16:Pv.get 16 t= .int .i64 mid)(t18:Pv.get 18 t= .int .i64 i)(t22:Pv.get 22 t= .int .i64 e)(j:l.length=n)(V:a<=i/\i<=mid/\a<=m)(J:mid<=e)(U:e<=b)(ae:b<=n)(O:b-mid<=d)(D:mid-a<=d)(f:Gb lt a i m e b mid l)(F:Gi S g cf lc b9 lt a b l Q):
  dd ar ob GB Q ⟨t,(.loc 0,[.func g lc,.func cf b9])::(S l).b,(S l).e,1,o⟩:=by
 unfold GB;have next:∀{k t o},Pv.get 3 t= .int .i64 b->Pv.get 4 t= .ptr (.loc 0) 0->Pv.get 16 t= .int .i64 mid->Pv.get 22 t= .int .i64 e->k.length=n->gK a mid l k->fH lt a mid k->dd ar ob GA Q ⟨t,(.loc 0,[.func g lc,.func cf b9])::(S k).b,(S k).e,1,o⟩:=fun N P L K E c r=>by
  refine apq H A N P L K E J U ae O (fun p q x y J U z s u=>?_) (fun p q x y J U z s u=>?_) fun G t o B M=>?_
  ·rw[c.out _ (.inr J)]at s;rw[c.out _ (.inr Ω)]at u;exact f.s3 p q x y J U z s u
  ·rw[c.out _ (.inr Ω)]at s;rw[c.out _ (.inr Ω)]at u;exact f.s4 p q x y J U z s u
  ·exact F G t o ((c.mono Ω Ω).trans (B.mono Ω Ω)) (akR Ω c r B M f.cross)
 by_cases v:a<i/\i<mid
 ·simp[t1,t4,t16,t18,v.1,v.2,Pv.look];simp only[ja H,H.slc,H.ssc,iQ];refine H.doFn j (A l a i mid j D v.1 v.2 Ω f.s1 f.s2) (fun W h=>by rw[h.1.length];exact j) (by simp[aA,av,H.kdata j]) ?_;rintro k ⟨c,r⟩;simp;exact next (by simp[t3]) (by simp[t4]) (by simp[t16]) (by simp[t22]) (by rw[c.length];exact j) c r
 ·have r:fH lt a mid l:=by
   by_cases w:a<i
   ·have:=f.s1;rwa[show i=mid by omega]at this
   ·have:=f.s2;rwa[show i=a by omega]at this
  by_cases w:a<i
  ·have R:¬i<mid:=Ω
   simp[t1,t16,t18,w,R];exact next (by simp[t3]) (by simp[t4]) (by simp[t16]) (by simp[t22]) j (.refl _) r
  ·simp[t1,t18,w];exact next (by simp[t3]) (by simp[t4]) (by simp[t16]) (by simp[t22]) j (.refl _) r
theorem aps(H:fB S n g cf lc b9 lt)(G:Gh S n g cf lc b9 lt d)(t1:Pv.get 1 t= .int .i64 a)(t2:Pv.get 2 t= .int .i64 m)(t3:Pv.get 3 t= .int .i64 b)(t4:Pv.get 4 t= .ptr (.loc 0) 0)(t16:Pv.get 16 t= .int .i64 mid)(t18:Pv.get 18 t= .int .i64 i)(t22:Pv.get 22 t= .int .i64 e)(c:l.length=n)(E:a<=i/\i<=mid/\a<=m)(J:mid<=e)(U:e<=b)(ae:b<=n)(L:b-mid<=d)(w:mid-a<=d)(u:∀lk:List α,(∀k,lk[k]? =l[iA i m e k]?)->Gb lt a i m e b mid lk)(x:Gi S g cf lc b9 lt a b l Q):
  dd ar ob KI Q ⟨t,(.loc 0,[.func g lc,.func cf b9])::(S l).b,(S l).e,1,o⟩:=by
 unfold KI;have next:∀{lk t o},Pv.get 1 t= .int .i64 a->Pv.get 3 t= .int .i64 b->Pv.get 4 t= .ptr (.loc 0) 0->Pv.get 16 t= .int .i64 mid->Pv.get 18 t= .int .i64 i->Pv.get 22 t= .int .i64 e->lk.length=n->Gb lt a i m e b mid lk->gK a b l lk->dd ar ob GB Q ⟨t,(.loc 0,[.func g lc,.func cf b9])::(S lk).b,(S lk).e,1,o⟩:=fun K M F D B A y j v=>apr H G K M F D B A y E J U ae L w j fun z t o p q=>x z t o (v.trans p) q
 by_cases f:i<m/\m<e
 ·simp[t2,t4,t18,t22,f.1,f.2,Pv.look];simp only[ja H,H.slc,H.ssc,iQ];refine H.doFn c (ahp H l c i m e f.1 f.2 Ω) (fun N h=>by rw[h.1.length];exact c) (by simp[aA,av,H.kdata c]) ?_;rintro lk ⟨p,q⟩;simp;exact next (by simp[t1]) (by simp[t3]) (by simp[t4]) (by simp[t16]) (by simp[t18]) (by simp[t22]) (by rw[p.length];exact c) (u lk q) (p.mono Ω Ω)
 ·have j:=u l (fun k=>by
   congr 1;simp only[iA];repeat' split
   all_goals omega)
  by_cases s:i<m
  ·have r:¬m<e:=Ω
   simp[t2,t18,t22,s,r];exact next (by simp[t1]) (by simp[t3]) (by simp[t4]) (by simp[t16]) (by simp[t18]) (by simp[t22]) c j (.refl _)
  ·simp[t2,t18,s];exact next (by simp[t1]) (by simp[t3]) (by simp[t4]) (by simp[t16]) (by simp[t18]) (by simp[t22]) c j (.refl _)
theorem ZK{bb:List (aB×List ah)}(H:fB S n g cf lc b9 lt)(K:Pv.look (.loc 0) bb=some [.func g lc,.func cf b9])(P:∀k cs,Pv.look k (S l).b=some cs->Pv.look k bb=some cs)(W:rE lt)(X:Gh S n g cf lc b9 lt d){s0 r0:Nat}(t1:Pv.get 1 t= .int .i64 a)(t2:Pv.get 2 t= .int .i64 m)(t3:Pv.get 3 t= .int .i64 b)(t4:Pv.get 4 t= .ptr (.loc 0) 0)(t16:Pv.get 16 t= .int .i64 mid)(t17:Pv.get 17 t= .int .i64 ((mid:Int)+m))(t18:Pv.get 18 t= .int .i64 s0)(t19:Pv.get 19 t= .int .i64 r0)(f:l.length=n)(Z:a<m/\m<b/\mid=(a+b)/2)(J:mid<m/\s0=mid+m-b/\r0=mid\/m<=mid/\s0=a/\r0=m)(ae:b<=n)(aQ:b-a<=d+1)(M:fH lt a m l)(L:fH lt m b l)(N:Gi S g cf lc b9 lt a b l Q):
  dd ar (dh (S l)) KJ Q ⟨t,bb,(S l).e,1,o⟩:=by
 have hle:=H.le;unfold KJ;simp[t17];(with_reducible repeat' first|refine al ?_|simp[t17]);refine mM (fun(x:Nat×Nat)=>⟨[(1,.int .i64 a),(2,.int .i64 m),(3,.int .i64 b),(4,.ptr (.loc 0) 0),(16,.int .i64 mid),(17,.int .i64 (mid+m)),(20,.int .i64 (mid+m-1)),(18,.int .i64 x.1),(19,.int .i64 x.2)],(.loc 0,[.func g lc,.func cf b9])::(S l).b,(S l).e,1,dh (S l)⟩) (fun x=>x.2-x.1)
  (apN lt l mid m s0 r0) (s0,r0) (H.weak f f (by simp[av,t1,t2,t3,t4,t16,t17,t18,t19]) K P fun _ _ h=>h) ⟨Ψ,by simp;omega,Ψ,.inl rfl,.inl rfl⟩ ?_
 rintro⟨i,j⟩ ⟨G,U,F,p,q⟩ _;simp only at G U F p q;have D:=Hk i j Ω;by_cases E:i<j
 ·simp[E];(with_reducible repeat' first|refine al ?_|simp[Pv.look]);obtain⟨c,ax⟩:∃c,c=(i+j)/2:=⟨_,rfl⟩;rw[<-ax]at D;simp only[D];(with_reducible repeat' first|refine al ?_|simp[Pv.look]);obtain⟨u,s⟩:∃u,l[c]? =some u:=⟨_,cl Ω⟩;obtain⟨v,r⟩:∃v,l[mid+m-1-c]? =some v:=⟨_,cl Ω⟩;have R:((mid:Int)+m-1-c)=(mid+m-1-c:Nat):=Ω
  simp only[H.slc,R];refine H.doLess f (mid+m-1-c) c r s ?_;simp;cases B:lt v u with
  |false=>simp;(with_reducible repeat' first|refine al ?_|simp);refine bO.whl (c+1,j) d7 ⟨by simp;omega,by simp;omega,F,.inr ⟨u,v,by simpa using s,?_,B⟩,q⟩ (H.weakC f f d9);simp only;rw[show mid+m-(c+1)=mid+m-1-c by omega];exact r
  |true=>simp;(with_reducible repeat' first|refine al ?_|simp);refine bO.whl (i,c) d7 ⟨G,by simp;omega,by simp;omega,p,.inr ⟨u,v,s,?_,B⟩⟩ (H.weakC f f d9);simp only;rw[show mid+m-c-1=mid+m-1-c by omega];exact r
 ·obtain rfl:i=j:=Ω
  obtain⟨e,he⟩:∃e,e=mid+m-i:=⟨_,rfl⟩;have O:((mid:Int)+m-i)=(e:Nat):=Ω
  have V:i=a\/e=b\/ ∃x y,l[i-1]? =some x/\l[e]? =some y/\lt y x=false:=by
   rcases p with p|⟨u,v,A,z,w⟩
   ·omega
   ·exact .inr (.inr ⟨u,v,A,by rw[he];exact z,w⟩)
  have c2:i=m\/e=m\/ ∃x y,l[i]? =some x/\l[e-1]? =some y/\lt y x=true:=by
   rcases q with q|⟨u,v,A,z,w⟩
   ·omega
   ·exact .inr (.inr ⟨u,v,A,by rw[he];exact z,w⟩)
  simp[E];(with_reducible repeat' first|refine al ?_|simp);rw[O];exact aps H X (a:=a) (m:=m) (b:=b) (mid:=mid) (i:=i) (e:=e) Ψ Ψ Ψ Ψ Ψ Ψ Ψ f Ω Ω Ω ae Ω Ω (fun lk Y=>akQ W Ω Ω Ω Ω Ω Ω M L V c2 Y) N
end
theorem UG(H:fB S n g cf lc b9 lt)(q:rE lt)(d:Nat):∀(l:List α) (a m b:Nat),l.length=n->b-a<=d->a<m->m<b->b<=n->fH lt a m l->fH lt m b l->
  bK ar 225 [fl g cf lc b9,.int .i64 a,.int .i64 m,.int .i64 b] (S l) fun r aj=>r= .tuple []/\∃X,aj=S X/\gK a b l X/\fH lt a b X:=by
 induction d with
 |zero=>intro l a m b f W DQ O;omega
 |succ d bB=>
 intro l a m b f W DQ O ae L K;have ag:=H.ok l;have v:∀l m,Pv.look (.loc m) (S l).b=none:=fun l=>(H.ok l).obj.1;have hu:∀l m cs,cB (.loc m) cs (S l).b=(S l).b++[(.loc m,cs)]:=fun l m cs=>kL (v l m);have ak:∀m,aB.loc m∉dh (S l):=kD ag.obj;have hle:=H.le;refine bK.mk mixed CF Tryz.func225 amK Ψ ag.obj fun aP cU=>?_;unfold Sx;simp[fl,hu,ak,cV,v];(with_reducible repeat' first|((first|apply bQ|apply bT|apply bS)<;>intro h<;>try simp at h)|refine al ?_|simp[hu,ak,cV,v])
 ·obtain rfl:m=a+1:=Ω
  have Y:∀k,iA a (a+1) (a+1) k=k:=by
   intro k;simp only[iA];repeat' split
   all_goals omega
  obtain⟨z,N⟩:∃z,l[a]? =some z:=⟨_,cl Ω⟩;refine mM (fun(x:Nat×Nat)=>⟨[(1,.int .i64 a),(4,.ptr (.loc 0) 0),(8,.int .i64 x.1),(9,.int .i64 x.2)],(.loc 0,[.func g lc,.func cf b9])::(S l).b,(S l).e,1,dh (S l)⟩) (fun x=>x.2-x.1)
   (fun x=>a+1<=x.1/\x.1<=x.2/\x.2<=b/\(∀h y,a+1<=h->h<x.1->l[h]? =some y->lt y z=true)/\(∀h y,x.2<=h->h<b->l[h]? =some y->lt y z=false)) (a+1,b)
   (H.weak f f d9 (by simp[cV,v]) aL aL) ⟨Ψ,by simp;omega,Ψ,fun h y J U=>by simp at U;omega,fun h y J U=>by simp at J;omega⟩ ?_
  rintro⟨i,j⟩ ⟨M,V,D,w,A⟩ _;simp only at M V D w A;have hw:=Hk i j Ω;simp[Pv.look];(with_reducible repeat' first|((first|apply bQ|apply bT|apply bS)<;>intro h<;>try simp at h)|refine al ?_|simp[Pv.look])
  ·obtain⟨c,ax⟩:∃c,c=(i+j)/2:=⟨_,rfl⟩;rw[<-ax]at hw;obtain⟨y,F⟩:∃y,l[c]? =some y:=⟨_,cl Ω⟩;simp only[hw,H.slc];refine H.doLess f c a F N ?_;simp;cases G:lt y z with
   |true=>
    simp;(with_reducible repeat' first|refine al ?_|simp);refine bO.whl (c+1,j) d7 ⟨by simp;omega,by simp;omega,D,fun h u J U hu=>?_,A⟩ (H.weakC f f d9);cases e:lt u z with
    |true=>rfl
    |false=>simp only at U;have:=q.ntr _ _ _ e (fH.le q K J Ω Ω hu F);rw[G]at this;cases this
   |false=>simp;(with_reducible repeat' first|refine al ?_|simp);refine bO.whl (i,c) d7 ⟨M,by simp;omega,by simp;omega,w,fun h u J U hu=>?_⟩ (H.weakC f f d9);exact q.ntr _ _ _ G (fH.le q K Ω J U F hu)
  ·obtain rfl:i=j:=Ω
   refine mM (fun(x:Nat×List α)=>⟨[(4,.ptr (.loc 0) 0),(8,.int .i64 i),(11,.int .i64 x.1)],(.loc 0,[.func g lc,.func cf b9])::(S x.2).b,(S x.2).e,1,dh (S l)⟩) (fun x=>i-x.1)
    (fun x=>x.2.length=n/\a<=x.1/\x.1<i/\gK a b l x.2/\∀k,x.2[k]? =l[iA a (a+1) (x.1+1) k]?) (a,l)
    (H.weakC f f d9) ⟨f,Ψ,by simp;omega,.refl _,fun k=>by simp[Y]⟩ ?_
   rintro⟨k,lk⟩ ⟨p,E,R,B,s⟩ _;simp only at p E R B s;simp[Pv.look];((with_reducible repeat' first|refine al ?_|simp[Pv.look]|((first|apply bQ|apply bT|apply bS)<;>intro h<;>try simp at h))<;>(try exact cv))
   ·have Q:((k:Int)+1)=(k+1:Nat):=Ω
    rw[H.ssc,Q];refine H.doSwap p k (k+1) Ω Ω Ω ?_;simp;(with_reducible repeat' first|((first|apply bQ|apply bT|apply bS)<;>intro h<;>try simp at h)|refine al ?_|simp);refine bO.whl (k+1,hJ lk k (k+1)) d7 ⟨by simp[p],by simp;omega,by simp;omega,.step B Ω Ω Ω Ω Ω Ω,fun t=>?_⟩ (H.weakC f (by simp[p]) d9);rw[BS _ _ _ _ Ω Ω,s,s,s];have:iA a (a+1) (k+1+1) t=if t=k then iA a (a+1) (k+1) (k+1)else if t=k+1 then iA a (a+1) (k+1) k else iA a (a+1) (k+1) t:=by
     simp only[iA];repeat' split
     all_goals omega
    rw[this];split
    ·rfl
    ·split<;>rfl
   ·obtain rfl:i=k+1:=Ω
    refine H.ret f p (.inl rfl) ⟨rfl,lk,rfl,B,akG q Ω D Ω K N w A s⟩
 ·obtain rfl:b=m+1:=Ω
  have Y:∀k,iA m m (m+1) k=k:=by
   intro k;simp only[iA];repeat' split
   all_goals omega
  obtain⟨z,N⟩:∃z,l[m]? =some z:=⟨_,cl Ω⟩;refine mM (fun(x:Nat×Nat)=>⟨[(2,.int .i64 m),(4,.ptr (.loc 0) 0),(12,.int .i64 x.1),(13,.int .i64 x.2)],(.loc 0,[.func g lc,.func cf b9])::(S l).b,(S l).e,1,dh (S l)⟩) (fun x=>x.2-x.1)
   (fun x=>a<=x.1/\x.1<=x.2/\x.2<=m/\(∀h y,a<=h->h<x.1->l[h]? =some y->lt z y=false)/\(∀h y,x.2<=h->h<m->l[h]? =some y->lt z y=true)) (a,m)
   (H.weak f f d9 (by simp[cV,v]) aL aL) ⟨Ψ,by simp;omega,Ψ,fun h y J U=>by simp at U;omega,fun h y J U=>by simp at J;omega⟩ ?_
  rintro⟨i,j⟩ ⟨M,V,D,w,A⟩ _;simp only at M V D w A;have hw:=Hk i j Ω;simp[Pv.look];(with_reducible repeat' first|((first|apply bQ|apply bT|apply bS)<;>intro h<;>try simp at h)|refine al ?_|simp[Pv.look])
  ·obtain⟨c,ax⟩:∃c,c=(i+j)/2:=⟨_,rfl⟩;rw[<-ax]at hw;obtain⟨y,F⟩:∃y,l[c]? =some y:=⟨_,cl Ω⟩;simp only[hw,H.slc];refine H.doLess f m c N F ?_;simp;cases G:lt z y with
   |false=>simp;((with_reducible repeat' first|refine al ?_|simp|((first|apply bQ|apply bT|apply bS)<;>intro h<;>try simp at h))<;>(try exact cv));refine bO.whl (c+1,j) d7 ⟨by simp;omega,by simp;omega,D,fun h u J U hu=>?_,A⟩ (H.weakC f f d9);simp only at U;exact q.ntr _ _ _ (fH.le q L J Ω Ω hu F) G
   |true=>
    simp;((with_reducible repeat' first|refine al ?_|simp|((first|apply bQ|apply bT|apply bS)<;>intro h<;>try simp at h))<;>(try exact cv));refine bO.whl (i,c) d7 ⟨M,by simp;omega,by simp;omega,w,fun h u J U hu=>?_⟩ (H.weakC f f d9);cases e:lt z u with
    |true=>rfl
    |false=>have:=q.ntr _ _ _ (fH.le q L Ω J U F hu) e;rw[G]at this;cases this
  ·obtain rfl:i=j:=Ω
   refine mM (fun(x:Nat×List α)=>⟨[(4,.ptr (.loc 0) 0),(12,.int .i64 i),(15,.int .i64 x.1)],(.loc 0,[.func g lc,.func cf b9])::(S x.2).b,(S x.2).e,1,dh (S l)⟩) (fun x=>x.1)
    (fun x=>x.2.length=n/\i<=x.1/\x.1<=m/\gK a (m+1) l x.2/\∀k,x.2[k]? =l[iA x.1 m (m+1) k]?) (m,l)
    (H.weakC f f d9) ⟨f,by simp;omega,Ψ,.refl _,fun k=>by simp[Y]⟩ ?_
   rintro⟨k,lk⟩ ⟨p,E,R,B,s⟩ _;simp only at p E R B s;simp[Pv.look];((with_reducible repeat' first|refine al ?_|simp[Pv.look]|((first|apply bQ|apply bT|apply bS)<;>intro h<;>try simp at h))<;>(try exact cv))
   ·have Q:((k:Int)-1)=(k-1:Nat):=Ω
    rw[H.ssc,Q];refine H.doSwap p k (k-1) Ω Ω Ω ?_;simp;(with_reducible repeat' first|refine al ?_|simp);refine bO.whl (k-1,hJ lk k (k-1)) d7 ⟨by simp[p],by simp;omega,by simp;omega,.step B Ω Ω Ω Ω Ω Ω,fun t=>?_⟩ (H.weakC f (by simp[p]) o4);rw[BS _ _ _ _ Ω Ω,s,s,s];have:iA (k-1) m (m+1) t=if t=k then iA k m (m+1) (k-1)else if t=k-1 then iA k m (m+1) k else iA k m (m+1) t:=by
     simp only[iA];repeat' split
     all_goals omega
    rw[this];split
    ·rfl
    ·split<;>rfl
   ·obtain rfl:i=k:=Ω
    refine H.ret f p (.inl rfl) ⟨rfl,lk,rfl,B,akH q Ω D Ω L N w A s⟩
 ·obtain⟨mid,Z⟩:∃mid,mid=(a+b)/2:=⟨_,rfl⟩;have hw:=Hk a b Ω;rw[<-Z]at hw;simp only[hw];(with_reducible repeat' first|((first|apply bQ|apply bT|apply bS)<;>intro h<;>try simp at h)|refine al ?_|simp[hu,ak,cV,v])
  ·exact ZK (s0:=mid+m-b) (r0:=mid) H (by simp[cV,v]) aL q bB (a:=a) (m:=m) (b:=b) (mid:=mid) Ψ Ψ Ψ Ψ Ψ Ψ d7 Ψ f ⟨DQ,O,Z⟩ Ω ae W L K fun P t o p E=>H.ret f (by rw[p.length];exact f) (.inr rfl) ⟨rfl,P,rfl,p,E⟩
  ·exact ZK (s0:=a) (r0:=m) H (by simp[cV,v]) aL q bB (a:=a) (m:=m) (b:=b) (mid:=mid) Ψ Ψ Ψ Ψ Ψ Ψ Ψ Ψ f ⟨DQ,O,Z⟩ Ω ae W L K fun P t o p E=>H.ret f (by rw[p.length];exact f) (.inr rfl) ⟨rfl,P,rfl,p,E⟩
end
section
open Go Go.Pv
variable {α:Type} {S:List α->cM} {n g cf:Nat} {lc b9:List ah} {lt:α->α->Bool}
def p8(lt:α->α->Bool)(z a b:Nat)(l:List α):Prop:= ∀i j x y,a<=i->i<j->j<b->i/z=j/z->l[i]? =some x->l[j]? =some y->lt y x=false
theorem p8.snoc{z q:Nat}(f:0<z){l d:List α}(h:p8 lt z 0 (q*z) l){b:Nat}(g:gK (q*z) b l d)(U:fH lt (q*z) b d):p8 lt z 0 b d:=by
 intro i j x y hi e m n a c;by_cases k:j<q*z
 ·rw[g.out _ (.inl Ω)]at a;rw[g.out _ (.inl k)]at c;exact h i j x y hi e k n a c
 ·have p:q<=j/z:=(Nat.le_div_iff_mul_le f).2 Ω;have o:q*z<=i:=(Nat.le_div_iff_mul_le f).1 Ω;exact U i j x y o e m a c
theorem p8.srt{z q:Nat}(o:0<z){l:List α}{a b:Nat}(h:p8 lt z a b l){c:Nat}(f:a<=q*z)(ax:c<=(q+1)*z)(e:c<=b):fH lt (q*z) c l:=by intro i j x y hi d p g k;have n:i/z=q:=Nat.div_eq_of_lt_le hi Ω;have m:j/z=q:=Nat.div_eq_of_lt_le Ω Ω;exact h i j x y Ω d Ω Ω g k
theorem p8.after{z a b bo cb:Nat}{l f:List α}(h:p8 lt z a b l)(c:gK a bo l f)(m:a<=bo)(ae:cb<=b):p8 lt z bo cb f:=by intro i j x y hi g n k d e;rw[c.out _ (.inr Ω)]at d;rw[c.out _ (.inr Ω)]at e;exact h i j x y Ω g Ω k d e
theorem LF(H:fB S n g cf lc b9 lt)(G:rE lt)(l:List α)(e:l.length=n):
  bK ar 197 [fl g cf lc b9,.int .i64 n] (S l) fun r aj=>r= .tuple []/\∃b,aj=S b/\gK 0 n l b/\fH lt 0 n b:=by
 have ag:=H.ok l;have N:∀l m,Pv.look (.loc m) (S l).b=none:=fun l=>(H.ok l).obj.1;have hu:∀l m cs,cB (.loc m) cs (S l).b=(S l).b++[(.loc m,cs)]:=fun l m cs=>kL (N l m);have ak:∀m,aB.loc m∉dh (S l):=kD ag.obj;have hle:=H.le;refine bK.mk mixed CF Tryz.func197 amI Ψ ag.obj fun aP cU=>?_;unfold Sv;simp[fl,hu,ak,cV,N];refine mM (fun(x:Nat×List α)=>⟨[(1,.int .i64 n),(2,.ptr (.loc 0) 0),(4,.int .i64 20),(5,.int .i64 (x.1*20)),(6,.int .i64 (x.1*20+20))],(.loc 0,[.func g lc,.func cf b9])::(S x.2).b,(S x.2).e,1,dh (S l)⟩) (fun x=>n+20-x.1*20)
  (fun x=>x.2.length=n/\x.1*20<=n/\gK 0 n l x.2/\p8 lt 20 0 (x.1*20) x.2) (0,l)
  (H.weak e e d9 (by simp[cV,N]) aL aL) ⟨e,Ψ,.refl _,fun i j x y J U f=>by simp at f⟩ ?_
 rintro⟨q,lk⟩ ⟨J,U,f,R⟩ _;simp only at J U f R;simp[Pv.look];((with_reducible repeat' first|refine al ?_|simp[Pv.look]|((first|apply bQ|apply bT|apply bS)<;>intro h<;>try simp at h))<;>(try exact cv))
 ·have O:((q:Int)*20)=(q*20:Nat):=Ω
  have aC:((q:Int)*20+20)=(q*20+20:Nat):=Ω
  simp only[ja H,H.slc,H.ssc,iQ,aC];simp only[O];refine H.doFn J (Uz H G lk J (q*20) (q*20+20) Ω Ω) (fun b h=>by rw[h.1.length];exact J) (by simp[aA,av,H.kdata J]) ?_;rintro b ⟨o,L⟩;have u:b.length=n:=by rw[o.length];exact J
  simp;((with_reducible repeat' first|refine al ?_|simp|((first|apply bQ|apply bT|apply bS)<;>intro h<;>try simp at h))<;>(try exact cv));refine bO.whl (q+1,b) d7 ⟨u,by simp;omega,f.trans (o.mono Ω Ω),?_⟩ (H.weakC e u o4);have:=R.snoc Ω o L;rwa[show q*20+20=(q+1)*20 by omega]at this
 ·have O:((q:Int)*20)=(q*20:Nat):=Ω
  simp only[ja H,H.slc,H.ssc,iQ,O];refine H.doFn J (Uz H G lk J (q*20) n Ω Ω) (fun b h=>by rw[h.1.length];exact J) (by simp[aA,av,H.kdata J]) ?_;rintro b ⟨o,L⟩;have u:b.length=n:=by rw[o.length];exact J
  have dV:=R.snoc Ω o L;simp;refine mM (fun(x:Nat×List α)=>⟨[(1,.int .i64 n),(2,.ptr (.loc 0) 0),(4,.int .i64 x.1)],(.loc 0,[.func g lc,.func cf b9])::(S x.2).b,(S x.2).e,1,dh (S l)⟩) (fun x=>1099511627776-x.1)
   (fun x=>x.2.length=n/\20<=x.1/\x.1<=2*n+20/\gK 0 n l x.2/\p8 lt x.1 0 n x.2) (20,b)
   (H.weakC e u d9) ⟨u,Ψ,Ψ,f.trans (o.mono Ω Ω),dV⟩ ?_
  rintro⟨z,Xj⟩ ⟨F,z2,z3,z4,z5⟩ _;simp only at F z2 z3 z4 z5;simp[Pv.look];((with_reducible repeat' first|refine al ?_|simp[Pv.look]|((first|apply bQ|apply bT|apply bS)<;>intro h<;>try simp at h))<;>(try exact cv))
  ·refine mM (fun(x:Nat×List α)=>⟨[(1,.int .i64 n),(2,.ptr (.loc 0) 0),(4,.int .i64 z),(5,.int .i64 (x.1*(2*z):Nat)),(6,.int .i64 (x.1*(2*z)+2*z:Nat))],(.loc 0,[.func g lc,.func cf b9])::(S x.2).b,(S x.2).e,1,dh (S l)⟩) (fun x=>n+2*z-x.1*(2*z))
    (fun x=>x.2.length=n/\x.1*(2*z)<=n/\gK 0 n l x.2/\p8 lt (2*z) 0 (x.1*(2*z)) x.2/\p8 lt z (x.1*(2*z)) n x.2) (0,Xj)
    (H.weakC e F d9) ⟨F,Ψ,z4,fun i j x y J U f=>by simp at f,by simpa using z5⟩ ?_
   rintro⟨p,D⟩ ⟨a,Y,E,k,B⟩ _;simp only at a Y E k B;obtain⟨A,be⟩:∃A,A=p*(2*z):=⟨_,rfl⟩;have yU:A=(2*p)*z:=by rw[be,Nat.mul_comm 2 p,Nat.mul_assoc]
   have V:(2*p+1)*z=A+z:=by rw[p6,<-yU,Nat.one_mul]
   have Q:(2*p+2)*z=A+2*z:=by rw[p6,<-yU]
   have s:(p+1)*(2*z)=A+2*z:=by rw[p6,<-be,Nat.one_mul]
   have K:∀c,c<=A+z->c<=n->fH lt A c D:=fun c ax W=>by have:=p8.srt (q:=2*p) Ω B (c:=c) (by rw[<-yU,be];omega) (by rw[V];exact ax) W;rwa[<-yU]at this
   have X:∀c,c<=A+2*z->c<=n->fH lt (A+z) c D:=fun c ax W=>by have:=p8.srt (q:=2*p+1) Ω B (c:=c) (by rw[V,be];omega) (by rw[Q];exact ax) W;rwa[V]at this
   rw[<-be]at Y k B;simp only[<-be];simp[Pv.look];((with_reducible repeat' first|refine al ?_|simp[Pv.look]|((first|apply bQ|apply bT|apply bS)<;>intro h<;>try simp at h))<;>(try exact cv))
   ·have M:((A:Int)+z)=(A+z:Nat):=Ω
    have cR:((A:Int)+2*z)=(A+2*z:Nat):=Ω
    simp only[ja H,H.slc,H.ssc,iQ,M,cR];refine H.doFn a (UG H G (A+2*z-A) D A (A+z) (A+2*z) a Ω Ω Ω Ω (K _ Ω Ω) (X _ Ω Ω)) (fun b h=>by rw[h.1.length];exact a) (by simp[aA,av,H.kdata a]) ?_;rintro w ⟨d,t⟩;have v:w.length=n:=by rw[d.length];exact a
    simp;(with_reducible repeat' first|refine al ?_|simp);refine bO.whl (p+1,w) (by simp only[s,<-be];omega) ⟨v,by simp only[s];omega,E.trans (d.mono Ω Ω),?_,?_⟩ ?_
    ·simp only[s];rw[be]at k d t;have:=k.snoc Ω d t;rwa[<-be]at this
    ·simp only[s];exact B.after d Ω Ω
    ·simp only[s];have P:((p:Int)+1)*(2*(z:Int))=(A:Int)+2*z:=by have h:=eu (Nat.cast:Nat->Int) s;push_cast at h;exact h
     exact H.weakC e v (by simp[av,P])
   ·have M:((A:Int)+z)=(A+z:Nat):=Ω
    simp only[ja H,H.slc,H.ssc,iQ,M];refine H.doFn a (UG H G (n-A) D A (A+z) n a Ω Ω Ω Ω (K _ Ω Ω) (X _ Ω Ω)) (fun b h=>by rw[h.1.length];exact a) (by simp[aA,av,H.kdata a]) ?_;rintro w ⟨d,t⟩;have v:w.length=n:=by rw[d.length];exact a
    simp;((with_reducible repeat' first|refine al ?_|simp|((first|apply bQ|apply bT|apply bS)<;>intro h<;>try simp at h))<;>(try exact cv));refine bO.whl (2*z,w) d7 ⟨v,by simp;omega,by simp;omega,E.trans (d.mono Ω Ω),?_⟩ (H.weakC e v o4);rw[be]at k d t;exact k.snoc Ω d t
   ·refine bO.whl (2*z,D) d7 ⟨a,by simp;omega,by simp;omega,E,?_⟩ (H.weakC e a o4);have Z:=K n Ω Ω;rw[be]at k Z;exact k.snoc Ω (.refl _) Z
  ·refine H.ret e F (.inr rfl) ?_;refine⟨rfl,Xj,rfl,z4,fun i j x y J U f=>z5 i j x y J U f ?_⟩;rw[Nat.div_eq_of_lt Ω,Nat.div_eq_of_lt Ω]
end
section
open Go Go.Pv Go.Sort Go.RowKit
theorem aiT{w:World}{base:Nat}{e:fF}{sz:Nat}{v:Value}{n:Nat}{us:List Value}(h:w.ownsRow base e sz v n us)(l:v≠ .slice none 0 0):
  ∃g cap,v= .slice (some ⟨g,0,none⟩) n cap/\g<w.heap.size/\cap<=maxLen/\n<=cap/\us.length=n*sz/\Holds id w g 0 us.toArray:=by
 rcases h.2 with⟨d,_⟩|⟨g,cap,cur,rfl,ae,aY,i,hm,o,aM⟩
 ·exact absurd d l
 ·have f:g<w.heap.size:=by
   rcases Nat.lt_or_ge g w.heap.size with a|a
   ·exact a
   ·rw[Array.getElem?_eq_none a]at aY;cases aY
  refine⟨g,cap,rfl,f,hm,i,h.1,fun j k=>?_⟩;have b:j<us.length:=by simpa using k
  have m:=h.1;refine⟨?_,by simp[World.frozen?,aY]⟩;have c:(cur.toList.take (n*sz))[j]? =us[j]?:=by rw[aM]
  rw[List.getElem?_take,if_pos Ω,tN,cl b]at c;simp only[World.cell?,aY,Nat.zero_add];simp only[nh,hz,if_false];rw[c];simp[getElem!_pos,b]
theorem anp{w:World}{base:Nat}{e:fF}{sz g n cap q:Nat}{us:List Value}{F:Array Value}(h:w.ownsRow base e sz (.slice (some ⟨g,0,none⟩) n cap) n us)(k:F.size=n*sz):
  (putRow id (Sort.ahead w q) g 0 F).ownsRow base e sz (.slice (some ⟨g,0,none⟩) n cap) n F.toList:=by
 rcases h.2 with⟨b,_⟩|⟨o,m,cur,b,ae,aY,d,hm,f,aM⟩
 ·cases b
 ·injection b with a _ l;injection a with a;injection a with a;subst a;subst l;refine⟨by simpa using k,.inr ⟨g,cap,putCells id 0 F cur,rfl,ae,?_,d,hm,by simpa[putCells]using f,?_⟩⟩
  ·simp[putRow,mapBlock,Sort.ahead,Array.getElem?_modify,aY,onCells]
  ·have hle:n*sz<=cur.size:=by rw[f];exact tR _ d
   apply List.ext_getElem?;intro j;rw[List.getElem?_take,tN,tN];by_cases i:j<n*sz
   ·have c:j<cur.size:=Ω
    simp only[if_pos i,putCells,Array.getElem?_mapIdx,Array.getElem?_eq_getElem c,ni];rw[if_pos Ω];simp[getElem!_pos,show j<F.size by omega]
   ·simp[i];omega
end
end Go.Proofs.YtfeencekjcjalaaGreatDoor
namespace Go.Pv
section
open Go Go.RowKit Go.Lib Go.Sort Go.Proofs.YtfeencekjcjalaaGreatDoor
theorem WN{S:aB->Prop}:∀{l:List ah},aA S l↔∀x∈l,av S x
 |[]=>by simp[aA]
 |x::r=>by simp only[aA,WN (l:=r),gp,forall_eq_or_imp]
theorem WE{α:Type}{s:cM}{l:List (aB×α)}:hb s l↔∀k,(look k l).isSome->inObs s k:=by
 refine⟨fun h k c=>BL h k c,fun h=>?_⟩;have:∀a:List (aB×α),(∀x∈a,inObs s x.1)->hb s a:=by
  intro a;induction a with
  |nil=>intro _;trivial
  |cons x r b=>obtain⟨k,x⟩:=x;exact fun h=>⟨h (k,x) Ψ,b fun y e=>h y (by simp[e])⟩
 exact this l fun x d=>h x.1 (v8 (x:=x.2) d)
theorem OQ{w:World}{Z:aZ}{sz:Nat}:∀{xs:List ah} {us:List Value} {i:Nat} {p:ah},di w Z sz xs us->xs[i]? =some p->∃u,(us.drop (i*sz)).take sz=u.cells.toList/\aS w Z p u/\u.cells.size=sz/\∀c∈u.cells.toList,c.oneCell'=true
 |[],_,_,_,_,a=>by simp at a
 |x::xs,us,0,p,h,a=>by simp only[di]at h;obtain⟨u,d,rfl,⟨J,U,b⟩,_⟩:=h;simp at a;subst a;refine⟨u,?_,J,U,b⟩;simp only[Nat.zero_mul,List.drop_zero];rw[List.take_append_of_le_length (by simp[U])];exact gC (by simp[U])
 |x::xs,us,i+1,p,h,a=>by simp only[di]at h;obtain⟨u,d,rfl,⟨J,U,b⟩,e⟩:=h;obtain⟨v,f,g⟩:=OQ (i:=i) e (by simpa using a);refine⟨v,?_,g⟩;rw[<-f,Nat.succ_mul,Nat.add_comm,<-List.drop_drop];congr 2;rw[List.drop_append_of_le_length (by simp[U]),List.drop_of_length_le (by simp[U])];rfl
theorem Pc:∀(ba:List Value) (s:Nat) (F:Array Value),s+ba.length<=F.size->(setMany F s ba).toList=F.toList.take s++ba++F.toList.drop (s+ba.length)
 |[],s,F,h=>by simp[setMany]
 |v::r,s,F,h=>by
  simp only[jc]at h;rw[setMany,Pc r (s+1) _ d7];have b:s<F.toList.length:=by simp;omega
  have c:(F.setIfInBounds s v).toList=F.toList.set s v:=Ψ
  rw[c];have d:(F.toList.set s v).take (s+1)=F.toList.take s++[v]:=by rw[List.take_succ,List.getElem?_set_self b,List.take_set_of_le (eR _)];simp
  have a:(F.toList.set s v).drop (s+1+r.length)=F.toList.drop (s+(v::r).length):=by rw[List.drop_set_of_lt Ω];congr 1;simp;omega
  rw[d,a];simp
theorem abO(w:World):Sort.ahead w 0=w:=by simp[Sort.ahead]
theorem UF{P:cz}(N:Bool)(cf:Nat)(ab:∀args W,(callFunc cf args).run P W=((F8 N args).run P W).andThen fun v w'=>.ok (.value v) w')(e:fF)(a:TypeInfo)(uo:P.info? e=some a)(G:(∀w,(Go.isAgg e).run P w= .ok true w)\/(a.size=1/\∀w,(Go.isAgg e).run P w= .ok false w)){s:cM}(B:ek s){K n el sz:Nat}(dO:a.size=sz){xs:List ah}(D:look (.obj K) s.e=some ⟨n,el,sz,some xs⟩)
  (i j:Nat) (hi:i<n) (af:j<n):bK P cf [.int .i64 i,.int .i64 j,.row sz (.obj K) n,.cst (typeHandle P e)] s fun r aj=>r= .tuple []/\aj=⟨s.b,cB (.obj K) ⟨n,el,sz,some (hJ xs i j)⟩ s.e⟩:=by
 subst dO;refine bK.sem B.obj fun w Z ba _ jk E=>?_;right;have s0:=E.slot 0;have s1:=E.slot 1;have s2:=E.slot 2;have s3:=E.slot 3;simp[j5,get,aS]at s0 s1 s2 s3;obtain⟨v,us,a8,bA,bR,cY⟩:=E.good.own (.obj K) _ D;obtain⟨da,Q,r8⟩:=cY _ rfl;simp only at da Q a8 bA;obtain⟨⟨g0,KO,xh⟩,_,n',fp,ai,aC,bj⟩:=s2;rw[a8]at ai;simp only[dv,hN]at ai;obtain⟨rfl,rfl⟩:=ai;have b:=bj rfl;have cF:v≠ .slice none 0 0:=by rw[<-b,xh];simp
 obtain⟨g,cap,rfl,pI,sV,aii,X,DM⟩:=aiT bA cF;have ajk:ba= #[.int .i64 i,.int .i64 j,.slice (some ⟨g,0,none⟩) n cap,typeHandle P e]:=by
  have J:ba.size=4:=by simpa using jk
  apply Array.ext (by simpa using J);intro t U ao;simp at ao;rcases(by omega:t=0\/t=1\/t=2\/t=3)with rfl|rfl|rfl|rfl
  ·simpa[Array.getD,J]using s0
  ·simpa[Array.getD,J]using s1
  ·simpa[Array.getD,J]using b
  ·simpa[Array.getD,J]using s3
 subst ajk;obtain⟨p,bJ⟩:∃p,xs[i]? =some p:=⟨_,cl Ω⟩;obtain⟨q,bz⟩:∃q,xs[j]? =some q:=⟨_,cl Ω⟩;obtain⟨u,L,jq,y,Y⟩:=OQ Q bJ;obtain⟨x,H,Am,l,R⟩:=OQ Q bz;have VA:i*a.size+a.size<=n*a.size:=by have:=tR a.size (show i+1<=n from hi);rwa[p6,Nat.one_mul]at this
 have VB:j*a.size+a.size<=n*a.size:=by have:=tR a.size (show j+1<=n from af);rwa[p6,Nat.one_mul]at this
 have cell:∀t v,us[t]? =some v->w.cell? ⟨g,t,none⟩=some v:=fun t v aM=>by obtain⟨J,U⟩:=fy.1 aM;have:=(DM t (by simpa using J)).1;simp at this;rw[this];simp[getElem!_pos,J,U]
 have V:∀t,t<n*a.size->w.frozen? ⟨g,t,none⟩=false:=fun t aM=>by have:=(DM t (by simpa[X]using aM)).2;simpa using this
 have run:(F8 N #[.int .i64 i,.int .i64 j,.slice (some ⟨g,0,none⟩) n cap,typeHandle P e]).run P w= .ok (.tuple #[]) ((w.setCells g (0+i*a.size) x.cells.toList).setCells g (0+j*a.size) u.cells.toList):=by
  rcases G with G|⟨M,G⟩
  ·exact run_swap_cells (P:=P) N e a uo G g 0 n cap i j hi af u.cells.toList x.cells.toList (by simp[y]) (by simp[l]) Y R w
     (fun k v b=>by
      rw[<-L,List.getElem?_take]at b;split at b
      ·rw[List.getElem?_drop]at b;simpa using cell _ _ b
      ·cases b)
     (fun k v b=>by
      rw[<-H,List.getElem?_take]at b;split at b
      ·rw[List.getElem?_drop]at b;simpa using cell _ _ b
      ·cases b)
     (fun k D=>by simpa using V (i*a.size+k) Ω) (fun k D=>by simpa using V (j*a.size+k) Ω)
  ·rw[M]at L y H l⊢;obtain⟨S,LU⟩:∃c,u.cells.toList=[c]:=List.length_eq_one_iff.1 (by simpa using y);obtain⟨O,mw⟩:∃c,x.cells.toList=[c]:=List.length_eq_one_iff.1 (by simpa using l);rw[LU]at L Y⊢;rw[mw]at H R⊢;simp only[World.setCells,Nat.mul_one]at L H⊢;have UJ:us[i]? =some S:=by have:=eu (·[0]?) L;simpa using this
   have UL:us[j]? =some O:=by have:=eu (·[0]?) H;simpa using this
   have:=run_swap_one (P:=P) N e a uo M G g 0 n cap i j hi af S O (Y S Ψ) (R O Ψ) w (by simpa using cell i S UJ) (by simpa using cell j O UL) (by simpa using V i (by rw[M];omega)) (by simpa using V j (by rw[M];omega));simpa using this
 have MC:putRow id w g 0 us.toArray=w:=putRow_self id w g 0 _ DM;have ajc:us.toArray.size=n*a.size:=by simpa using X
 have HM:w.setCells g (0+i*a.size) x.cells.toList=putRow id w g 0 (setMany us.toArray (i*a.size) x.cells.toList):=by have J:=setCells_putRow w g 0 x.cells.toList (i*a.size) us.toArray (by simp[l,X];exact VA);rw[MC]at J;exact J
 obtain⟨d,lY⟩:∃d,d=setMany us.toArray (i*a.size) x.cells.toList:=⟨_,rfl⟩;have ahR:d.toList=us.take (i*a.size)++x.cells.toList++us.drop (i*a.size+a.size):=by rw[lY,Pc _ _ _ (by simp[l,X];exact VA)];simp[l]
 have LM:d.size=n*a.size:=by rw[lY,size_setMany];exact ajc
 have mY:(w.setCells g (0+i*a.size) x.cells.toList).setCells g (0+j*a.size) u.cells.toList=putRow id w g 0 (setMany d (j*a.size) u.cells.toList):=by rw[HM,<-lY,setCells_putRow w g 0 u.cells.toList (j*a.size) d (by simp[y,LM];exact VB)]
 obtain⟨f,DL⟩:∃f,f=setMany d (j*a.size) u.cells.toList:=⟨_,rfl⟩;have ahS:f.toList=d.toList.take (j*a.size)++u.cells.toList++d.toList.drop (j*a.size+a.size):=by rw[DL,Pc _ _ _ (by simp[y,LM];exact VB)];simp[y]
 have ahT:f.size=n*a.size:=by rw[DL,size_setMany];exact LM
 have dI:=Ja Q bJ Am l R;rw[<-ahR]at dI;have e4:=Ja (i:=j) (q:=q) dI (by rw[List.getElem?_set];split;(rename_i e;subst e;rw[if_pos Ω]);exact bz) jq y Y;rw[<-ahS]at e4;have Ep:(xs.set i q).set j p=hJ xs i j:=by simp[hJ,bJ,bz]
 rw[Ep]at e4;have hlen:(hJ xs i j).length=n:=by simpa using da
 have kk:=anp (q:=0) (F:=f) bA ahT;rw[abO]at kk;obtain⟨lF,p2,_⟩:=E.setRowM (w':=putRow id w g 0 f) D rfl a8 (bl:=g) rfl (v':= .slice (some ⟨g,0,none⟩) n cap) rfl (xs':=hJ xs i j) (us:=f.toList) (.inl ⟨hlen,rfl⟩) rfl rfl rfl
  (fun t aM=>by simp[putRow,mapBlock,Array.getElem?_modify,k8 aM]) (by simp[putRow,mapBlock]) (by rw[hlen];exact kk) e4
 refine⟨.tuple #[],putRow id w g 0 f,?_,?_⟩
 ·rw[ab,run,mY,<-DL];rfl
 ·have A:∀k,inObs ⟨s.b,cB (.obj K) ⟨n,el,a.size,some (hJ xs i j)⟩ s.e⟩ k↔inObs s k:=fun k=>by
   unfold inObs;simp only[jG];by_cases c7:aB.obj K=k
   ·subst c7;simp[D]
   ·simp[c7]
  refine⟨_,_,_,_,.tuple [],⟨s.b,cB (.obj K) ⟨n,el,a.size,some (hJ xs i j)⟩ s.e⟩,rfl,lF,by simp[aS,cH],WE.2 fun k hF=>(A k).2 (.inl hF),WE.2 fun k hF=>(A k).2 (.inr hF),fun k cs ax=>⟨ax,(A k).2 (.inl (by simp at ax;simp[ax])),kB (fun k h=>(A k).2 h) _ (B.kb k cs ax)⟩,fun k o ak=>⟨by simpa[hlen]using ak,?_,fun ys aN=>?_⟩,⟨B.obj.1,fun m=>?_⟩,by simp[av,aA],rfl,rfl⟩
  ·exact(.inr (by simp at ak;simp[ak]))
  ·simp only[jG]at ak;split at ak
   ·cases ak;simp only[dv]at aN;subst aN;have Vu:=B.ke _ _ D xs rfl;refine kB (fun k h=>(A k).2 h) _ ?_;rw[WN]at Vu⊢;exact fun z bH=>Vu z ((Xi xs i j).mem_iff.1 bH)
   ·exact kB (fun k h=>(A k).2 h) _ (B.ke k o ak ys aN)
  ·simp only[jG];simp[B.obj.2 m]
theorem UE{P:cz}(b:Bool)(cf:Nat)(m:∀args W,(callFunc cf args).run P W=((F8 b args).run P W).andThen fun v w'=>.ok (.value v) w')(e:fF)(a:TypeInfo)(d:P.info? e=some a)(c:∀w,(Go.isAgg e).run P w= .ok true w){s:cM}(h:ek s){K n el sz:Nat}(f:a.size=sz){xs:List ah}(l:look (.obj K) s.e=some ⟨n,el,sz,some xs⟩)
  (i j:Nat) (hi:i<n) (k:j<n):bK P cf [.int .i64 i,.int .i64 j,.row sz (.obj K) n,.cst (typeHandle P e)] s fun r g=>r= .tuple []/\g=⟨s.b,cB (.obj K) ⟨n,el,sz,some (hJ xs i j)⟩ s.e⟩:=UF b cf m e a d (.inl c) h f l i j hi k
end
end Go.Pv
namespace Go.Proofs.YtfeencekjcjalaaGreatDoor
section
open Go Go.RowKit Go.Lib Go.Sort Go.Pv
set_option maxRecDepth 100000 in
theorem apk(t e:fF)(i eN:TypeInfo)(hi:ar.info? t=some i)(aQ:i.desc= .slice e)(Ei:ar.packed t=false)(uo:ar.info? e=some eN)(ke:Nat)(vI:∀w,(abf e).run ar w= .ok ke w)
  (p:aW Addr) (n c:Nat) (az:n<4611686018427387904) (f:Nat) (aG:ar.funcs.findIdx? (·.name== "internal/reflectlite" ++ ".Swapper$" ++toString (swapperK n eN ke))=some f) (Xe:Fn) (M7 r5:Array Value) (w:World) (R:World->Prop)
  (bJ:Calls ar 197 #[.agg #[.func Xe M7 r5,.func (.func f) #[] (sliceBound ar e eN ke p n c)],.int .i64 n] ((w.alloc (.cells #[.slice p n c] t)).alloc (.cells #[typeHandle ar t,.pointer (some ⟨w.heap.size,0,none⟩),.int .u64 151] 200)) fun e w'=>e= .returned (.tuple #[])/\R w'):
  Calls ar 171 #[.iface t (.slice p n c),.func Xe M7 r5] w fun e w'=>e= .returned (.tuple #[])/\R w':=by
 have aK:=run_valueOf_slice (P:=ar) t e i hi aQ p n c w;have ag:=fun w=>run_swapper_slice (P:=ar) t e i eN hi aQ uo ke vI p n c f aG w;have aq:=fun a w bC=>run_valueLen_slice (P:=ar) t e i hi aQ Ei a p n c w bC;unfold sliceBound at bJ;generalize (if swapperK n eN ke<=2 then(#[]:Array Value)else #[.slice p n c,typeHandle ar e])=B at ag bJ;have ail:ar.globals.size=3:=an
 simp only[typeHandle,ail]at aK aq bJ;have GU:∀args w,(callFunc 197 args).run ar w= .ok (.enter 197 args) w:=enters_of Tryz.func197 an rfl;go_enter Tryz.func171,Tryz.ntmps171;go_wp2;rw[run_callFunc_extern Tryz.func195 an an an (e:=fun args=>arP (args.getD 0 (.tuple #[]))) an,
  show Sem.run ar ((fun args:Array Value=>arP (args.getD 0 (.tuple #[]))) #[.iface t (.slice p n c)]) w=_ from aK]
 simp only[Result.andThen];rw[Oper.upon_value];go_wp2;rw[run_callFunc_extern Tryz.func196 an an an (e:=awh "internal/reflectlite" (arQ "Swapper")) an,ag];simp only[Result.andThen];rw[Oper.upon_value];go_wp2;rw[run_callFunc_extern Tryz.func198 an an an (e:=awj (arQ "reflectlite.Value.Len" 0) awi) an,
  aq _ _ Ψ]
 simp only[Result.andThen];rw[Oper.upon_value];go_wp2_with (go_at_fn 197;refine bJ.mono ?_;rintro e w' ⟨rfl,bq⟩);go_end0;exact⟨rfl,bq⟩
theorem _root_.Go.Pv.Good.prMono{pr d:Nat->Prop}{w:World}{Z:aZ}{b:List (aB×List ah)}{e:List (aB×ec)}(h:Pv.Good pr w Z b e)(a:∀bl,pr bl->fZ Z ⟨b,e⟩ bl->d bl):Pv.Good d w Z b e:=by
 refine⟨h.alt,fun k cs c=>?_,h.inj,fun g o aY=>?_,h.oinj,h.obx,h.one,h.otr⟩
 ·obtain⟨bl,us,el,f1,f2,f3⟩:=h.box k cs c;exact⟨bl,us,el,f1,a bl f2 (.inl ⟨k,by simp[c],f1⟩),f3⟩
 ·obtain⟨v,us,f1,f2,f3,f4⟩:=h.own g o aY;exact⟨v,us,f1,f2,fun bl ae=>⟨a bl (f3 bl ae).1 (.inr ⟨g,o.n,v,by simp[aY],f1,ae⟩),(f3 bl ae).2⟩,f4⟩
theorem UN(w:World)(a b:Obj):w.grownBy ((w.alloc a).alloc b) none:=by
 have J:w.heap.size<=(w.alloc a).heap.size:=Ψ
 have U:(w.alloc a).heap.size<=((w.alloc a).alloc b).heap.size:=Ψ
 exact⟨rfl,rfl,rfl,jM J U,fun k c _=>(Below.heap_alloc _ b k (Nat.lt_of_lt_of_le c J)).trans (Below.heap_alloc w a k c)⟩
def eh{α:Type}(e:α->ah)(K B el sz:Nat)(l:List α):cM:=⟨[(.obj B,[.row sz (.obj K) l.length])],[(.obj K,⟨l.length,el,sz,some (l.map e)⟩)]⟩
section
variable {α:Type} {e:α->ah} (he:∀S x,av S (e x)) {K B el sz:Nat}
include he
theorem aj5(S:aB->Prop)(l:List α):aA S (l.map e):=by
 induction l with
 |nil=>simp[aA]
 |cons x r a=>simp only[fA,aA];exact⟨he S x,a⟩
theorem yp(l:List α):ek (eh e K B el sz l):=by unfold eh;refine ek.of ⟨by intro m;simp[Pv.look],by intro m;simp[Pv.look]⟩ g9 ?_;intro x b xs a;simp at b;subst b;simp at a;subst a;exact aj5 he _ l
omit he in
theorem yq(l a:List α):Same (eh e K B el sz l) (eh e K B el sz a):=by
 refine⟨fun k=>?_,fun k=>?_⟩
 ·simp only[eh,Pv.look];split<;>rfl
 ·simp only[eh,Pv.look];split<;>rfl
theorem ag1(t:fF)(i eN:TypeInfo)(hi:ar.info? t=some i)(aQ:i.desc= .slice el)(Ei:ar.packed t=false)(uo:ar.info? el=some eN)(ke:Nat)(vI:∀w,(abf el).run ar w= .ok ke w)(ug:∀n,2<=n->swapperK n eN ke=9)
  (g:Nat) (D0:g<1000000) (lt:α->α->Bool) (bI:rE lt) (l:List α) (aq:l.length<=68719476736)
  (zd:∀a7:List α,a7.length=l.length->∀(i j:Nat) x y,a7[i]? =some x->a7[j]? =some y->bK ar g [.int .i64 i,.int .i64 j,.ptr (.obj B) 0] (eh e K B el sz a7) fun r aj=>r= .bool (lt x y)/\aj=eh e K B el sz a7)
  (Bz:∀a7:List α,a7.length=l.length->∀i j:Nat,i<l.length->j<l.length->bK ar 223 [.int .i64 i,.int .i64 j,.row sz (.obj K) l.length,.cst (typeHandle ar el)] (eh e K B el sz a7) fun r aj=>r= .tuple []/\aj=eh e K B el sz (hJ a7 i j)):
  bK ar 171 [.iface t (.row sz (.obj K) l.length),.func g [.ptr (.obj B) 0]] (eh e K B el sz l) fun r aj=>r= .tuple []/\∃a7,aj=eh e K B el sz a7/\a7.Perm l/\a7.Pairwise fun x y=>lt y x=false:=by
 have y2:ar.funcs.findIdx? (·.name== "internal/reflectlite" ++ ".Swapper$" ++toString 1)=some 215:=an
 have qp:ar.funcs.findIdx? (·.name== "internal/reflectlite" ++ ".Swapper$" ++toString 2)=some 216:=an
 have L1:ar.funcs.findIdx? (·.name== "internal/reflectlite" ++ ".Swapper$" ++toString 9)=some 223:=an
 have Mw:∃f b9,f<1000000/\ar.funcs.findIdx? (·.name== "internal/reflectlite" ++ ".Swapper$" ++toString (swapperK l.length eN ke))=some f/\(b9=(if swapperK l.length eN ke<=2 then []else [ah.row sz (.obj K) l.length,.cst (typeHandle ar el)]))/\
   bK ar 197 [fl g f [.ptr (.obj B) 0] b9,.int .i64 l.length] (eh e K B el sz l) fun r aj=>r= .tuple []/\∃a7,aj=eh e K B el sz a7/\gK 0 l.length l a7/\fH lt 0 l.length a7:=by
  have ey:=fun a7=>yp (K:=K) (B:=B) (el:=el) (sz:=sz) he a7;rcases(by omega:l.length=0\/l.length=1\/2<=l.length)with bm|J|U
  ·refine⟨215,[],by decide,by rw[bm];exact y2,by rw[bm];rfl,LF (lt:=lt) ⟨ey,fun ih gk _ _=>yq ih gk,fun a7 _=>by simp[aA,av,inObs,eh,Pv.look],fun a7 _=>by simp[aA],by simp[de,cK],rfl,aq,fun a7 h=>zd a7 h,fun a7 _ U i j hi=>Ω⟩ bI l rfl⟩
  ·refine⟨216,[],by decide,by rw[J];exact qp,by rw[J];rfl,LF (lt:=lt) ⟨ey,fun ih gk _ _=>yq ih gk,fun a7 _=>by simp[aA,av,inObs,eh,Pv.look],fun a7 _=>by simp[aA],by simp[de,cK],rfl,aq,fun a7 h=>zd a7 h,fun a7 _ U i j hi af=>Ω⟩ bI l rfl⟩
  ·refine⟨223,_,by decide,by rw[ug _ U];exact L1,rfl,?_⟩;rw[ug _ U];simp only[show¬((9:Nat)<=2)from by decide,if_false];exact LF (lt:=lt) ⟨ey,fun ih gk _ _=>yq ih gk,fun a7 _=>by simp[aA,av,inObs,eh,Pv.look],fun a7 _=>by simp[aA,av,inObs,eh,Pv.look],by simp[de,cK],by simp[de,cK],aq,fun a7 h=>zd a7 h,fun a7 h _ i j hi af=>Bz a7 h i j hi af⟩ bI l rfl
 obtain⟨f,b9,sU,aG,Ms,dr⟩:=Mw;intro w Z ba qZ aY ab aD;have od:=cS.start qZ (yp he l).obj aY ab aD;have Mo:=aD;simp only[cH,aS]at aD;obtain⟨v0,vs1,BB,⟨u,rfl,⟨b,cap,rfl⟩,eH,n',fp,ai,aC,bj⟩,v1,vs2,hv1,⟨r5,qu,pJ⟩,rfl⟩:=aD;rw[yN D0]at qu;subst qu;have jk:ba= #[.iface t (.slice (some ⟨b,0,none⟩) l.length cap),.func (.func g) #[] r5]:=by apply Array.ext';rw[BB,hv1]
 subst jk;have qq:∃fn,ar.funcs[(171:Nat)]? =some fn/\fn.body.isSome=true/\(fn.name== "runtime.NumGoroutine")=false:=⟨_,Tryz.func171,by kernel_rfl,by kernel_rfl⟩;refine .inl ⟨qq,?_⟩;obtain⟨dM,mY⟩:∃dM,dM=(w.alloc (.cells #[.slice (some ⟨b,0,none⟩) l.length cap] t)).alloc (.cells #[typeHandle ar t,.pointer (some ⟨w.heap.size,0,none⟩),.int .u64 151] 200):=⟨_,rfl⟩;have iT:w.grownBy dM none:=by rw[mY];exact UN _ _ _
 have Mp:=od.grown iT;have kj:lU w Z dM Z:=⟨fun b o be=>⟨be,GJ iT (aY.alt b o be)⟩,fun _ _ _ h=>h,fun _ n u _ h=>⟨n,u,h,.inl ⟨rfl,rfl⟩⟩,fun b o be=>wE (iT.block b (aY.alt b o be) Ψ),fun _ _ _ _ h=>h⟩;have sV:Pv.Good (fZ Z (eh e K B el sz l)) dM Z (eh e K B el sz l).b (eh e K B el sz l).e:=Mp.good.prMono fun bl _ h=>h;have l2:=Jf kj Mo;simp only[cH]at l2;obtain⟨a0,abZ,uh,Ek,bF,ab0,kf,ai1,rfl⟩:=l2;simp at uh;obtain⟨rfl,rfl⟩:=uh;simp at kf;subst kf;have qt:aS dM Z (.row sz (.obj K) l.length) (.slice (some ⟨b,0,none⟩) l.length cap):=by simp only[aS]at Ek;obtain⟨u,hu,h⟩:=Ek;simp at hu;obtain⟨_,rfl⟩:=hu;simp only[aS];exact h
 have rY:cH dM Z b9 (sliceBound ar el eN ke (some ⟨b,0,none⟩) l.length cap).toList:=by
  unfold sliceBound;rw[Ms];split
  ·simp[cH]
  ·simp only[cH];exact⟨_,_,rfl,qt,_,_,rfl,by simp[aS],rfl⟩
 have j1:cH dM Z [fl g f [.ptr (.obj B) 0] b9,.int .i64 l.length] (#[.agg #[.func (.func g) #[] r5,.func (.func f) #[] (sliceBound ar el eN ke (some ⟨b,0,none⟩) l.length cap)],.int .i64 l.length]:Array Value).toList:=by simp only[cH,fl];refine⟨_,_,rfl,?_,_,_,rfl,by simp[aS],rfl⟩;simp only[aS,cW];exact⟨_,rfl,_,_,rfl,⟨⟨r5,(yN D0 _).symm,Jf kj pJ⟩,rfl⟩,_,_,rfl,⟨⟨_,(yN sU _).symm,rY⟩,rfl⟩,rfl⟩
 have D2:nQ dM Z:=fun x ab=>⟨(qZ x ab).1,(qZ x ab).2.1.imp fun _ aK=>⟨(kj.A _ _ (qZ x ab).1).2.trans aK.1,aK.2⟩,(qZ x ab).2.2.imp fun _ aK=>(kj.sh _ _ (qZ x ab).1).trans aK⟩;have LX:=dr dM Z _ D2 sV ab j1;have GU:∀args w,(callFunc 197 args).run ar w= .ok (.enter 197 args) w:=enters_of Tryz.func197 an rfl;rcases LX with⟨_,ax⟩|⟨v,w',ax,_⟩
 ·have Me:=apk t el i eN hi aQ Ei uo ke vI (some ⟨b,0,none⟩) l.length cap Ω f aG (.func g) #[] r5 w
   (fun w'=> ∃aj Z',(∃a7,aj=eh e K B el sz a7/\gK 0 l.length l a7/\fH lt 0 l.length a7)/\Pv.Good (fun bl=>fZ Z (eh e K B el sz l) bl\/dM.heap.size<=bl) w' Z' aj.b aj.e/\ql Z' aj/\jm aj/\qa ⟨dM,Z,fZ Z (eh e K B el sz l),0,dh (eh e K B el sz l),D2,[]⟩ w' Z') (by
    rw[<-mY];refine ax.mono ?_;rintro e w' ⟨v,r,aj,Z',rfl,⟨rfl,bz⟩,xy,a6,bW,dk,dY⟩;simp only[aS,cH]at xy;obtain⟨us,rfl,oZ⟩:=xy;have:us= #[]:=by apply Array.ext';simpa using oZ
    subst this;exact⟨rfl,aj,Z',bz,a6,bW,dk,dY⟩)
  refine Me.mono ?_;rintro e w' ⟨rfl,aj,Z',⟨a7,rfl,HL,By⟩,a6,bW,dk,dY⟩;refine⟨.tuple #[],.tuple [],_,Z',rfl,⟨rfl,a7,rfl,HL.perm,?_⟩,by simp[aS,cH],a6.prMono fun bl h _=>?_,bW,dk,⟨dY.os.trans iT.os,dY.tape.trans iT.tape,dY.output.trans iT.output,jM iT.size dY.size,fun k ad hm=>?_,fun b o be=>?_,fun b o be=>?_,dY.obj,dY.obn,dY.row,dY.obr,dY.trd,fun k j b ae=>⟨(dY.trb k j b ae).1.imp id (fun h=>jM iT.size h),(dY.trb k j b ae).2⟩,dY.trn,fun b o be=>(dY.sh b o be).trans (kj.sh b o be),fun j n u b ai aC=>jM iT.size (dY.nrow j n u b ai aC)⟩⟩
  ·have ze:=HL.length;rw[<-ze]at By;exact By.pairwise
  ·rcases h with h|h
   ·exact .inl h
   ·exact .inr (jM iT.size h)
  ·rw[dY.block k (Nat.lt_of_lt_of_le ad iT.size) hm];exact iT.block k ad Ψ
  ·obtain⟨bc,bP⟩:=dY.keep b o be;exact⟨bc,bP.trans (kj.A b o be).2⟩
  ·rcases dY.fresh b o be with h|h|h
   ·exact .inl h
   ·exact .inr (.inl h)
   ·exact .inr (.inr (jM iT.size h))
 ·rw[GU]at ax;cases ax
end
end
end Go.Proofs.YtfeencekjcjalaaGreatDoor
namespace Go.Proofs
section
open Go.Shelf
def Tryz.lays6_ren:Go.Shelf.Ren:=⟨fun|6=>185|10=>195|11=>196|12=>198|13=>207|14=>208|24=>233|25=>227|26=>224|27=>234|28=>235|29=>236|30=>237|31=>238|32=>239|33=>240|34=>249|35=>250|36=>251|37=>252|38=>253|39=>256|n=>n,fun|20=>20|26=>188|35=>200|0=>0|37=>202|3=>3|41=>178|44=>206|49=>231|51=>211|4=>4|54=>236|53=>235|58=>222|5=>5|9=>9|60=>242|64=>246|66=>250|67=>251|17=>17|32=>197|33=>198|82=>277|12=>12|75=>271|76=>272|77=>273|78=>173|79=>274|80=>275|n=>n,fun|n=>n⟩
theorem Tryz.lays6:Go.Proofs.LaysGg.n6 ar Tryz.lays6_ren:={
 mixed:=an
 f6:=Tryz.func185.trans (eu some an)
 f10:=Tryz.func195.trans (eu some an)
 f11:=Tryz.func196.trans (eu some an)
 f12:=Tryz.func198.trans (eu some an)
 f13:=Tryz.func207.trans (eu some an)
 f14:=Tryz.func208.trans (eu some an)
 f24:=Tryz.func233.trans (eu some an)
 f25:=Tryz.func227.trans (eu some an)
 f26:=Tryz.func224.trans (eu some an)
 f27:=Tryz.func234.trans (eu some an)
 f28:=Tryz.func235.trans (eu some an)
 f29:=Tryz.func236.trans (eu some an)
 f30:=Tryz.func237.trans (eu some an)
 f31:=Tryz.func238.trans (eu some an)
 f32:=Tryz.func239.trans (eu some an)
 f33:=Tryz.func240.trans (eu some an)
 f34:=Tryz.func249.trans (eu some an)
 f35:=Tryz.func250.trans (eu some an)
 f36:=Tryz.func251.trans (eu some an)
 f37:=Tryz.func252.trans (eu some an)
 f38:=Tryz.func253.trans (eu some an)
 f39:=Tryz.func256.trans (eu some an)
 t0:=Tryz.underlying0
 a0:=Tryz.isAgg0
 z0:=Tryz.sizeOf0
 v0:=Tryz.zeroValue0
 i0:=an
 t3:=Tryz.underlying3
 a3:=Tryz.isAgg3
 z3:=Tryz.sizeOf3
 v3:=Tryz.zeroValue3
 i3:=an
 t4:=Tryz.underlying4
 a4:=Tryz.isAgg4
 z4:=Tryz.sizeOf4
 v4:=Tryz.zeroValue4
 i4:=an
 t5:=Tryz.underlying5
 a5:=Tryz.isAgg5
 z5:=Tryz.sizeOf5
 v5:=Tryz.zeroValue5
 i5:=an
 t9:=Tryz.underlying9
 a9:=Tryz.isAgg9
 z9:=Tryz.sizeOf9
 v9:=Tryz.zeroValue9
 i9:=an
 t12:=Tryz.underlying12
 a12:=Tryz.isAgg12
 z12:=Tryz.sizeOf12
 v12:=Tryz.zeroValue12
 i12:=an
 t17:=Tryz.underlying17
 a17:=Tryz.isAgg17
 z17:=Tryz.sizeOf17
 v17:=Tryz.zeroValue17
 i17:=an
 t20:=Tryz.underlying20
 a20:=Tryz.isAgg20
 z20:=Tryz.sizeOf20
 v20:=Tryz.zeroValue20
 i20:=an
 t26:=Tryz.underlying188
 a26:=Tryz.isAgg188
 z26:=Tryz.sizeOf188
 v26:=Tryz.zeroValue188
 i26:=an
 t32:=Tryz.underlying197
 a32:=Tryz.isAgg197
 z32:=Tryz.sizeOf197
 v32:=Tryz.zeroValue197
 i32:=an
 t33:=Tryz.underlying198
 a33:=Tryz.isAgg198
 z33:=Tryz.sizeOf198
 v33:=Tryz.zeroValue198
 i33:=an
 t35:=Tryz.underlying200
 a35:=Tryz.isAgg200
 z35:=Tryz.sizeOf200
 v35:=Tryz.zeroValue200
 i35:=an
 t37:=Tryz.underlying202
 a37:=Tryz.isAgg202
 z37:=Tryz.sizeOf202
 v37:=Tryz.zeroValue202
 i37:=an
 t41:=Tryz.underlying178
 a41:=Tryz.isAgg178
 z41:=Tryz.sizeOf178
 v41:=Tryz.zeroValue178
 i41:=an
 t44:=Tryz.underlying206
 a44:=Tryz.isAgg206
 z44:=Tryz.sizeOf206
 v44:=Tryz.zeroValue206
 i44:=an
 t49:=Tryz.underlying231
 a49:=Tryz.isAgg231
 z49:=Tryz.sizeOf231
 v49:=Tryz.zeroValue231
 i49:=an
 t51:=Tryz.underlying211
 a51:=Tryz.isAgg211
 z51:=Tryz.sizeOf211
 v51:=Tryz.zeroValue211
 i51:=an
 t53:=Tryz.underlying235
 a53:=Tryz.isAgg235
 z53:=Tryz.sizeOf235
 v53:=Tryz.zeroValue235
 i53:=an
 t54:=Tryz.underlying236
 a54:=Tryz.isAgg236
 z54:=Tryz.sizeOf236
 v54:=Tryz.zeroValue236
 i54:=an
 t58:=Tryz.underlying222
 a58:=Tryz.isAgg222
 z58:=Tryz.sizeOf222
 v58:=Tryz.zeroValue222
 i58:=an
 t60:=Tryz.underlying242
 a60:=Tryz.isAgg242
 z60:=Tryz.sizeOf242
 v60:=Tryz.zeroValue242
 i60:=an
 t64:=Tryz.underlying246
 a64:=Tryz.isAgg246
 z64:=Tryz.sizeOf246
 v64:=Tryz.zeroValue246
 i64:=an
 t66:=Tryz.underlying250
 a66:=Tryz.isAgg250
 z66:=Tryz.sizeOf250
 v66:=Tryz.zeroValue250
 i66:=an
 t67:=Tryz.underlying251
 a67:=Tryz.isAgg251
 z67:=Tryz.sizeOf251
 v67:=Tryz.zeroValue251
 i67:=an
 t75:=Tryz.underlying271
 a75:=Tryz.isAgg271
 z75:=Tryz.sizeOf271
 v75:=Tryz.zeroValue271
 i75:=an
 t76:=Tryz.underlying272
 a76:=Tryz.isAgg272
 z76:=Tryz.sizeOf272
 v76:=Tryz.zeroValue272
 i76:=an
 t77:=Tryz.underlying273
 a77:=Tryz.isAgg273
 z77:=Tryz.sizeOf273
 v77:=Tryz.zeroValue273
 i77:=an
 t78:=Tryz.underlying173
 a78:=Tryz.isAgg173
 z78:=Tryz.sizeOf173
 v78:=Tryz.zeroValue173
 i78:=an
 t79:=Tryz.underlying274
 a79:=Tryz.isAgg274
 z79:=Tryz.sizeOf274
 v79:=Tryz.zeroValue274
 i79:=an
 t80:=Tryz.underlying275
 a80:=Tryz.isAgg275
 z80:=Tryz.sizeOf275
 v80:=Tryz.zeroValue275
 i80:=an
 t82:=Tryz.underlying277
 a82:=Tryz.isAgg277
 z82:=Tryz.sizeOf277
 v82:=Tryz.zeroValue277
 i82:=by kernel_rfl}
end
end Go.Proofs
namespace Go.Proofs.YtfeencekjcjalaaGreatDoor
section
open Go Go.RowKit Go.Lib Go.Pv Go.Proofs
theorem aca(n:Nat)(h:n<1099511627776):Lib.bitLen n<=1000:=by
 have:∀f x,bitLenAux f x<=f:=by
  intro f;induction f with
  |zero=>intro x;simp[bitLenAux]
  |succ f a=>
   intro x;rw[bitLenAux];split
   ·omega
   ·have:=a (x/2);omega
 have:=this 64 n;unfold Lib.bitLen;omega
theorem anu{α:Type}[Inhabited α]{lt:α->α->Bool}{l:List α}{a:Array α}(h:Sort.PermIn 0 l.length l.toArray a)(m:Sort.SortedIn lt 0 l.length a):a.toList.Perm l/\a.toList.Pairwise fun x y=>lt y x=false:=by
 obtain⟨f,_,z3⟩:=h;have b:a.size=l.length:=by simpa using f
 have k:a.extract 0 l.length=a:=by rw[<-b];simp
 have n:l.toArray.extract 0 l.length=l.toArray:=Ψ
 rw[k,n]at z3;refine⟨by simpa using z3,?_⟩;rw[qN];intro i j hi c e;have J:=m i j Ω e (by simpa[b]using c);have d:i<a.size:=by simpa using hi
 have g:j<a.size:=by simpa using c
 rw[getElem!_pos a i d,getElem!_pos a j g]at J;simpa using J
section
variable {α:Type} {e:α->ah} (he:∀S x,av S (e x)) {K B el sz:Nat}
include he
theorem Uv[Inhabited α](UT:K≠901/\K≠902)(US:B≠901/\B≠902)(t:fF)(i eN:TypeInfo)(hi:ar.info? t=some i)(aQ:i.desc= .slice el)(Ei:ar.packed t=false)(uo:ar.info? el=some eN)(ke:Nat)(vI:∀w,(abf el).run ar w= .ok ke w)(ug:∀n,2<=n->swapperK n eN ke=9)
  (g:Nat) (D0:g<1000000) (lt:α->α->Bool) (bI:Sort.SWO lt) (l:List α) (aq:l.length<=68719476736)
  (zd:∀a7:List α,a7.length=l.length->∀(i j:Nat) x y,a7[i]? =some x->a7[j]? =some y->bK ar g [.int .i64 i,.int .i64 j,.ptr (.obj B) 0] (eh e K B el sz a7) fun r aj=>r= .bool (lt x y)/\aj=eh e K B el sz a7)
  (Bz:∀a7:List α,a7.length=l.length->∀i j:Nat,i<l.length->j<l.length->bK ar 223 [.int .i64 i,.int .i64 j,.row sz (.obj K) l.length,.cst (typeHandle ar el)] (eh e K B el sz a7) fun r aj=>r= .tuple []/\aj=eh e K B el sz (hJ a7 i j)):
  bK ar 185 [.iface t (.row sz (.obj K) l.length),.func g [.ptr (.obj B) 0]] (eh e K B el sz l) fun r aj=>r= .tuple []/\∃a7,aj=eh e K B el sz a7/\a7.Perm l/\a7.Pairwise fun x y=>lt y x=false:=by
 have y2:ar.funcs.findIdx? (·.name== "internal/reflectlite" ++ ".Swapper$" ++toString 1)=some 215:=an
 have qp:ar.funcs.findIdx? (·.name== "internal/reflectlite" ++ ".Swapper$" ++toString 2)=some 216:=an
 have L1:ar.funcs.findIdx? (·.name== "internal/reflectlite" ++ ".Swapper$" ++toString 9)=some 223:=an
 have zj:tu (eh e K B el sz) 901:=fun l=>⟨by simp[eh,Pv.look,US.1],by simp[eh,Pv.look,UT.1]⟩;have zk:tu (eh e K B el sz) 902:=fun l=>⟨by simp[eh,Pv.look,US.2],by simp[eh,Pv.look,UT.2]⟩;have dV:=aca l.length Ω;have Mw:∃f b9,f<1000000/\ar.funcs.findIdx? (·.name== "internal/reflectlite" ++ ".Swapper$" ++toString (swapperK l.length eN ke))=some f/\(b9=(if swapperK l.length eN ke<=2 then []else [ah.row sz (.obj K) l.length,.cst (typeHandle ar el)]))/\
   bK ar 208 [fl g f [.ptr (.obj B) 0] b9,.int .i64 0,.int .i64 l.length,.int .i64 (Lib.bitLen l.length)] (eh e K B el sz l) fun r aj=>r= .tuple []/\∃a7,aj=eh e K B el sz a7/\a7.Perm l/\a7.Pairwise fun x y=>lt y x=false:=by
  have ey:=fun a7=>yp (K:=K) (B:=B) (el:=el) (sz:=sz) he a7;have key:∀{cf:Nat} {b9:List ah},fB (eh e K B el sz) l.length g cf [.ptr (.obj B) 0] b9 lt->bK ar 208 [fl g cf [.ptr (.obj B) 0] b9,.int .i64 0,.int .i64 l.length,.int .i64 (Lib.bitLen l.length)] (eh e K B el sz l) fun r aj=>r= .tuple []/\∃a7,aj=eh e K B el sz a7/\a7.Perm l/\a7.Pairwise fun x y=>lt y x=false:=by intro cf b9 H;have:=ahk H zj zk bI l.length l.toArray Ψ 0 l.length (Lib.bitLen l.length) Ω Ω (eR _) Ω (.inl rfl);simp only[Int.ofNat_zero,Int.natCast_zero,Int.cast_ofNat_Int]at this;refine bK.mono this ?_;rintro r aj ⟨a8,ch,bA,bR,cY⟩;obtain⟨c1,du⟩:=anu bR cY;exact⟨a8,ch.toList,bA,c1,du⟩
  rcases(by omega:l.length=0\/l.length=1\/2<=l.length)with bm|J|U
  ·refine⟨215,[],by decide,by rw[bm];exact y2,by rw[bm];rfl,key ⟨ey,fun ih gk _ _=>yq ih gk,fun a7 _=>by simp[aA,av,inObs,eh,Pv.look],fun a7 _=>by simp[aA],by simp[de,cK],rfl,aq,fun a7 h=>zd a7 h,fun a7 _ U i j hi=>Ω⟩⟩
  ·refine⟨216,[],by decide,by rw[J];exact qp,by rw[J];rfl,key ⟨ey,fun ih gk _ _=>yq ih gk,fun a7 _=>by simp[aA,av,inObs,eh,Pv.look],fun a7 _=>by simp[aA],by simp[de,cK],rfl,aq,fun a7 h=>zd a7 h,fun a7 _ U i j hi af=>Ω⟩⟩
  ·refine⟨223,_,by decide,by rw[ug _ U];exact L1,rfl,?_⟩;rw[ug _ U];simp only[show¬((9:Nat)<=2)from by decide,if_false];exact key ⟨ey,fun ih gk _ _=>yq ih gk,fun a7 _=>by simp[aA,av,inObs,eh,Pv.look],fun a7 _=>by simp[aA,av,inObs,eh,Pv.look],by simp[de,cK],by simp[de,cK],aq,fun a7 h=>zd a7 h,fun a7 h _ i j hi af=>Bz a7 h i j hi af⟩
 obtain⟨f,b9,sU,aG,Ms,dr⟩:=Mw;intro w Z ba qZ aY ab aD;have od:=cS.start qZ (yp he l).obj aY ab aD;have Mo:=aD;simp only[cH,aS]at aD;obtain⟨v0,vs1,BB,⟨u,rfl,⟨b,cap,rfl⟩,eH,n',fp,ai,aC,bj⟩,v1,vs2,hv1,⟨r5,qu,pJ⟩,rfl⟩:=aD;rw[yN D0]at qu;subst qu;have jk:ba= #[.iface t (.slice (some ⟨b,0,none⟩) l.length cap),.func (.func g) #[] r5]:=by apply Array.ext';rw[BB,hv1]
 subst jk;have qq:∃fn,ar.funcs[(185:Nat)]? =some fn/\fn.body.isSome=true/\(fn.name== "runtime.NumGoroutine")=false:=⟨_,Tryz.func185,by kernel_rfl,by kernel_rfl⟩;refine .inl ⟨qq,?_⟩;obtain⟨dM,mY⟩:∃dM,dM=sliceWorld ar Tryz.lays6_ren t (some ⟨b,0,none⟩) l.length cap w:=⟨_,rfl⟩;have iT:w.grownBy dM none:=by rw[mY];unfold sliceWorld;exact UN _ _ _
 have Mp:=od.grown iT;have kj:lU w Z dM Z:=⟨fun b o be=>⟨be,GJ iT (aY.alt b o be)⟩,fun _ _ _ h=>h,fun _ n u _ h=>⟨n,u,h,.inl ⟨rfl,rfl⟩⟩,fun b o be=>wE (iT.block b (aY.alt b o be) Ψ),fun _ _ _ _ h=>h⟩;have sV:Pv.Good (fZ Z (eh e K B el sz l)) dM Z (eh e K B el sz l).b (eh e K B el sz l).e:=Mp.good.prMono fun bl _ h=>h;have l2:=Jf kj Mo;simp only[cH]at l2;obtain⟨a0,abZ,uh,Ek,bF,ab0,kf,ai1,rfl⟩:=l2;simp at uh;obtain⟨rfl,rfl⟩:=uh;simp at kf;subst kf;have qt:aS dM Z (.row sz (.obj K) l.length) (.slice (some ⟨b,0,none⟩) l.length cap):=by simp only[aS]at Ek;obtain⟨u,hu,h⟩:=Ek;simp at hu;obtain⟨_,rfl⟩:=hu;simp only[aS];exact h
 have rY:cH dM Z b9 (sliceBound ar el eN ke (some ⟨b,0,none⟩) l.length cap).toList:=by
  unfold sliceBound;rw[Ms];split
  ·simp[cH]
  ·simp only[cH];exact⟨_,_,rfl,qt,_,_,rfl,by simp[aS],rfl⟩
 have j1:cH dM Z [fl g f [.ptr (.obj B) 0] b9,.int .i64 0,.int .i64 l.length,.int .i64 (Lib.bitLen l.length)] (#[.agg #[.func (.func g) #[] r5,.func (.func f) #[] (sliceBound ar el eN ke (some ⟨b,0,none⟩) l.length cap)],.int .i64 0,.int .i64 l.length,.int .i64 (Lib.bitLen l.length)]:Array Value).toList:=by simp only[cH,fl];refine⟨_,_,rfl,?_,_,_,rfl,by simp[aS],_,_,rfl,by simp[aS],_,_,rfl,by simp[aS],rfl⟩;simp only[aS,cW];exact⟨_,rfl,_,_,rfl,⟨⟨r5,(yN D0 _).symm,Jf kj pJ⟩,rfl⟩,_,_,rfl,⟨⟨_,(yN sU _).symm,rY⟩,rfl⟩,rfl⟩
 have D2:nQ dM Z:=fun x ab=>⟨(qZ x ab).1,(qZ x ab).2.1.imp fun _ aK=>⟨(kj.A _ _ (qZ x ab).1).2.trans aK.1,aK.2⟩,(qZ x ab).2.2.imp fun _ aK=>(kj.sh _ _ (qZ x ab).1).trans aK⟩;have LX:=dr dM Z _ D2 sV ab j1;have GU:∀args w,(callFunc 208 args).run ar w= .ok (.enter 208 args) w:=enters_of Tryz.func208 an rfl;rcases LX with⟨_,ax⟩|⟨v,w',ax,_⟩
 ·have Me:=Any.sort_Slice_of_pdq Tryz.lays6 t el i eN hi aQ Ei uo ke vI (some ⟨b,0,none⟩) l.length cap Ω f aG (.func g) #[] r5 w
   (fun w'=> ∃aj Z',(∃a7,aj=eh e K B el sz a7/\a7.Perm l/\a7.Pairwise fun x y=>lt y x=false)/\Pv.Good (fun bl=>fZ Z (eh e K B el sz l) bl\/dM.heap.size<=bl) w' Z' aj.b aj.e/\ql Z' aj/\jm aj/\qa ⟨dM,Z,fZ Z (eh e K B el sz l),0,dh (eh e K B el sz l),D2,[]⟩ w' Z') (by
    rw[<-mY];refine ax.mono ?_;rintro e w' ⟨v,r,aj,Z',rfl,⟨rfl,bz⟩,xy,a6,bW,dk,dY⟩;simp only[aS,cH]at xy;obtain⟨us,rfl,oZ⟩:=xy;have:us= #[]:=by apply Array.ext';simpa using oZ
    subst this;exact⟨rfl,aj,Z',bz,a6,bW,dk,dY⟩)
  refine Me.mono ?_;rintro e w' ⟨rfl,aj,Z',⟨a7,rfl,HL,By⟩,a6,bW,dk,dY⟩;refine⟨.tuple #[],.tuple [],_,Z',rfl,⟨rfl,a7,rfl,HL,By⟩,by simp[aS,cH],a6.prMono fun bl h _=>?_,bW,dk,⟨dY.os.trans iT.os,dY.tape.trans iT.tape,dY.output.trans iT.output,jM iT.size dY.size,fun k ad hm=>?_,fun b o be=>?_,fun b o be=>?_,dY.obj,dY.obn,dY.row,dY.obr,dY.trd,fun k j b ae=>⟨(dY.trb k j b ae).1.imp id (fun h=>jM iT.size h),(dY.trb k j b ae).2⟩,dY.trn,fun b o be=>(dY.sh b o be).trans (kj.sh b o be),fun j n u b ai aC=>jM iT.size (dY.nrow j n u b ai aC)⟩⟩
  ·rcases h with h|h
   ·exact .inl h
   ·exact .inr (jM iT.size h)
  ·rw[dY.block k (Nat.lt_of_lt_of_le ad iT.size) hm];exact iT.block k ad Ψ
  ·obtain⟨bc,bP⟩:=dY.keep b o be;exact⟨bc,bP.trans (kj.A b o be).2⟩
  ·rcases dY.fresh b o be with h|h|h
   ·exact .inl h
   ·exact .inr (.inl h)
   ·exact .inr (.inr (jM iT.size h))
 ·rw[GU]at ax;cases ax
end
end
section
open Go Go.Pv Go.Lib
abbrev yo(l:List bk):cM:=eh bk.e 814 815 82 2 l
theorem XG:∀(S:aB->Prop) (x:bk),av S x.e:=fun S x=>by simp
theorem J3(l:List bk):ek (yo l):=yp XG l
theorem aku:Sort.SWO (ij fJ):=by
 refine⟨fun x=>?_,fun x y z J U=>?_,fun x y z J U=>?_⟩
 ·simp only[ij,iq];have:=mD.refl x;omega
 ·simp only[ij,e8]at*;exact mD.ltr J Ω
 ·simp only[ij,iq]at*;have b:=mD.neg x y;have c:=mD.neg y z;have a:=mD.neg x z;have:=mD.tr z y x Ω Ω;omega
theorem agW(l:List bk)(i j:Nat)(x y:bk)(k:l.length<=68719476736)(hi:l[i]? =some x)(g:l[j]? =some y):bK ar 189 [.int .i64 i,.int .i64 j,.ptr (.obj 815) 0] (yo l) fun r f=>r= .bool (ij fJ x y)/\f=yo l:=by have a:=J3 l;obtain⟨c,d⟩:=fy.1 hi;obtain⟨e,b⟩:=fy.1 g;unfold yo eh at a⊢;refine bK.mk mixed kJ Tryz.func189 ali Ψ a.obj fun m h=>?_;unfold Q3;simp[c,e,d,b];(with_reducible repeat' first|refine al ?_|refine aI (CJ _ _) ?_|refine aJ (CJ _ _) ?_|simp[c,e,d,b]);refine cO.at _ (.inl rfl) a (Same.refl _) aL aL ?_;simp[cT,aX,a1,aV]
noncomputable def Tryz.maT:TypeInfo:=(ar.info? 33).get an
noncomputable def Tryz.maE:TypeInfo:=(ar.info? 82).get an
theorem Tryz.maK(n:Nat)(U:2<=n):Lib.swapperK n Tryz.maE 25=9:=by
 have a:Tryz.maE.hasPointers=true:=an
 have b:Tryz.maE.bytes=24:=an
 have c:(n==0)=false:=by simp;omega
 have d:(n==1)=false:=by simp;omega
 simp[Lib.swapperK,a,b,c,d]
theorem Xh{α β:Type}(f:α->β)(l:List α)(i j:Nat):(hJ l i j).map f=hJ (l.map f) i j:=by
 unfold hJ;simp only[List.getElem?_map];cases l[i]? with
 |none=>simp
 |some x=>
  cases l[j]? with
  |none=>simp
  |some y=>simp[List.map_set]
theorem ahw(l:List bk)(d:l.length<=68719476736):bK ar 185 [.iface 33 (.row 2 (.obj 814) l.length),.func 189 [.ptr (.obj 815) 0]] (yo l) fun r b=>r= .tuple []/\b=yo (pW fJ l):=by
 refine(Uv XG (K:=814) (B:=815) (sz:=2) (by decide) (by decide) 33 Tryz.maT Tryz.maE an an an an 25 (fun _=>by kernel_rfl) Tryz.maK 189 (by decide) (ij fJ) aku l d (fun a h i j x y hi c=>agW a i j x y Ω hi c) (fun a h i j hi c=>?_)).mono ?_
 ·have:=UE (P:=ar) false 223 (fun args W=>run_callFunc_extern Tryz.func223 an an an (e:=F8 false) an args W)
   82 Tryz.maE an (fun _=>by kernel_rfl) (J3 a) (K:=814) (n:=l.length) (el:=82) (sz:=2) an (xs:=a.map bk.e) (by simp[eh,Pv.look,h]) i j hi c
  refine this.mono ?_;rintro r b ⟨rfl,rfl⟩;refine⟨rfl,?_⟩;simp[eh,cB,Xh,h]
 ·rintro r b ⟨rfl,a,rfl,J,U⟩;exact⟨rfl,by rw[ZQ mD J U]⟩
def o1(l:List bk):List ah:= .hdm l.length (List.range l.length)::l.flatMap fun m=>[m.e,.bool true]
def lV(m:bk)(l:List bk):List bk:=if m∈l then l else l++[m]
theorem aj1(a b:bk):uB (.a [false,true]) a.e b.e=some (decide (a=b)):=by simp only[bk.e,uB,kR,if_true,ni];congr 1;rw[ry];cases a;cases b;simp
theorem aj2(a:bk):xH (.a [false,true]) a.e=true:=by simp[bk.e,xH,kR,-Kh]
theorem XK(m:bk):∀l:List bk,wb (.a [false,true]) m.e (.bool true) (l.flatMap fun m=>[m.e,.bool true])=some (if m∈l then some (l.flatMap fun m=>[m.e,.bool true])else none)
 |[]=>rfl
 |a::l=>by
  simp only[List.flatMap_cons,bX,b3,wb,aj1];by_cases h:m=a
  ·subst h;simp
  ·have b:decide (m=a)=false:=by simp[h]
   rw[b];simp only[XK m l];by_cases hm:m∈l
   ·simp[hm]
   ·simp[hm,h]
@[simp]theorem auQ(m:bk)(l:List bk):pR (.a [false,true]) m.e (.bool true) (o1 l)=some (o1 (lV m l)):=by
 simp only[o1,pR,aj2,Bool.true_eq_false,reduceCtorEq,if_false,XK,lV];by_cases h:m∈l
 ·simp[h]
 ·simp[h,List.range_succ]
end
section
open Go Go.Pv
@[simp]theorem BO(S:aB->Prop)(l:List bk):aA S (o1 l)=True:=by
 refine eq_true ?_;unfold o1;have:∀l:List bk,aA S (l.flatMap fun m=>[m.e,ah.bool true]):=fun l=>by
  induction l with
  |nil=>simp[aA]
  |cons x r a=>simp only[List.flatMap_cons,bX,b3,aA,aj7,av,true_and];exact a
 simp only[aA,av,true_and];exact this l
@[simp]theorem auz:[ah.hdm 0 []]=o1 []:=rfl
def pq(tag:List bV)(l:List bk):cM:=⟨[(.obj 811,[.str tag]),(.obj 812,o1 l),(.obj 813,[.gmap (.obj 812)])],[]⟩
theorem Gf(tag:List bV)(l:List bk):ek (pq tag l):=by unfold pq;refine ek.of ⟨by intro m;simp[Pv.look],by intro m;simp[Pv.look]⟩ g9 Ψ
theorem J4(tag:List bV)(l a:List bk):Same (pq tag l) (pq tag a):=Same.keys (by simp[pq]) (by simp[pq])
theorem agV(tag:List bV)(v:Int)(l:List bk):bK ar 188 [.int .i64 v,.ptr (.obj 813) 0,.ptr (.obj 811) 0] (pq tag l) fun r c=>r= .tuple []/\c=pq tag (lV ⟨v,tag⟩ l):=by have b:=Gf tag l;have a:=Gf tag (lV ⟨v,tag⟩ l);have fE:=J4 tag l (lV ⟨v,tag⟩ l);unfold pq at b a fE⊢;refine bK.mk mixed kJ Tryz.func188 alh Ψ b.obj fun e d=>?_;unfold Q2;simp;refine cO.at _ (.inr rfl) a fE aL aL ?_;simp[cT,aX,a1,aV]
end
section
open Go Go.Pv Go.Lib
abbrev wR(l:List bN):cM:=eh bN.e 803 804 78 2 l
theorem WB:∀(S:aB->Prop) (x:bN),av S x.e:=fun S x=>by simp
theorem Gd(l:List bN):ek (wR l):=yp WB l
def xN(x y:bN):Bool:=decide (x.v<y.v)
theorem akt:Sort.SWO xN:=⟨fun x=>by simp[xN],fun x y z J U=>by simp[xN]at*;omega,fun x y z J U=>by simp[xN]at*;omega⟩
theorem agX(l:List bN)(i j:Nat)(x y:bN)(k:l.length<=68719476736)(hi:l[i]? =some x)(g:l[j]? =some y):bK ar 186 [.int .i64 i,.int .i64 j,.ptr (.obj 804) 0] (wR l) fun r f=>r= .bool (xN x y)/\f=wR l:=by have a:=Gd l;obtain⟨c,d⟩:=fy.1 hi;obtain⟨e,b⟩:=fy.1 g;unfold wR eh at a⊢;refine bK.mk mixed kJ Tryz.func186 alj Ψ a.obj fun m h=>?_;unfold Q4;simp[c,e,d,b];(with_reducible repeat' first|refine al ?_|simp);refine cO.at _ (.inl rfl) a (Same.refl _) aL aL ?_;simp[cT,aX,a1,aV,xN]
noncomputable def Tryz.vkT:TypeInfo:=(ar.info? 32).get an
noncomputable def Tryz.vkE:TypeInfo:=(ar.info? 78).get an
theorem Tryz.vkK(n:Nat)(U:2<=n):Lib.swapperK n Tryz.vkE 25=9:=by
 have a:Tryz.vkE.hasPointers=false:=an
 have b:Tryz.vkE.bytes=16:=an
 have c:(n==0)=false:=by simp;omega
 have d:(n==1)=false:=by simp;omega
 simp[Lib.swapperK,a,b,c,d]
theorem aks{α β:Type}(f:α->β)(l:List α)(i j:Nat):(hJ l i j).map f=hJ (l.map f) i j:=by
 unfold hJ;simp only[List.getElem?_map];cases l[i]? with
 |none=>simp
 |some x=>
  cases l[j]? with
  |none=>simp
  |some y=>simp[List.map_set]
theorem UD(l:List bN)(d:l.length<=68719476736):bK ar 185 [.iface 32 (.row 2 (.obj 803) l.length),.func 186 [.ptr (.obj 804) 0]] (wR l) fun r c=>r= .tuple []/\∃a,c=wR a/\a.Perm l/\a.Pairwise fun x y=>xN y x=false:=by
 refine(Uv WB (K:=803) (B:=804) (sz:=2) (by decide) (by decide) 32 Tryz.vkT Tryz.vkE an an an an 25 (fun _=>by kernel_rfl) Tryz.vkK 186 (by decide) xN akt l d (fun a h i j x y hi b=>agX a i j x y Ω hi b) (fun a h i j hi b=>?_));have:=UE (P:=ar) false 223 (fun args W=>run_callFunc_extern Tryz.func223 an an an (e:=F8 false) an args W)
  78 Tryz.vkE an (fun _=>by kernel_rfl) (Gd a) (K:=803) (n:=l.length) (el:=78) (sz:=2) an (xs:=a.map bN.e) (by simp[eh,Pv.look,h]) i j hi b
 refine this.mono ?_;rintro r c ⟨rfl,rfl⟩;refine⟨rfl,?_⟩;simp[eh,cB,aks,h]
end
section
open Go Go.Pv
def gv(o:aW (List bN)):ah:= .tuple [.slice 2 .no ((o.getD []).map bN.e),.bool o.isSome]
@[simp]theorem auj(S:aB->Prop)(o:aW (List bN)):av S (gv o)=True:=by simp[gv]
theorem aaw{l:List bN}(h:jl l):bL ar 83 [.slice 2 .no (l.map bN.e)] (.bool true):=by have:=aav l;simpa only[h,decide_true]using this
theorem PM{t:T}(h:t.fit=true):bL ar 101 [t.e] (.bool true):=by have:=aaB t;rwa[h]at this
theorem aqa{s:List au}(N:eJ s){l:List bN}(M:jl l)(t:T)(aM:t.fit=true)(k:Int):
  bL ar 167 [.slice 5 .no (s.map au.e),.slice 2 .no (l.map bN.e),t.e,.int .i64 k] (gv (if(k=2\/k=3)/\(t.ap (cI s)).size<=5000 then la l (t.ap (cI s)) k else none)):=by
 have ze:=xE M;have f:=qL N;have d:=PM aM;have g:=aaw M;have c:=JP s t N.len N.sol.asc N.fit;generalize ab:t.ap (cI s)=x at c⊢;generalize D:(if(k=2\/k=3)/\x.size<=5000 then la l x k else none)=O;by_cases P:k=2\/k=3;rotate_left
 ·have W:(k !=2)=true:=by simp;omega
  have S:(k !=3)=true:=by simp;omega
  rw[if_neg (fun h=>P h.1)]at D;rw[<-D];refine bs kJ Tryz.func167 tw fun E=>?_;unfold rK;simp;(with_reducible repeat' first|refine al ?_|refine aI f ?_|refine aJ f ?_|refine aI d ?_|refine aJ d ?_|refine aI g ?_|refine aJ g ?_|simp[W,S]);simp[bE,aX,a1,aV];simp[gv]
 by_cases L:x.size<=5000;rotate_left
 ·rw[if_neg (fun h=>L h.2)]at D;rw[<-D];rw[if_neg L,pj L]at c;refine bs kJ Tryz.func167 tw fun E=>?_;unfold rK;simp;rcases P with rfl|rfl;all_goals(with_reducible repeat' first|refine al ?_|refine aI f ?_|refine aJ f ?_|refine aI d ?_|refine aJ d ?_|refine aI g ?_|refine aJ g ?_|refine aI c ?_|refine aJ c ?_|simp)
  all_goals simp[bE,aX,a1,aV]
  all_goals simp[gv]
 rw[if_pos ⟨P,L⟩]at D;rw[if_pos L,oE L]at c;have Z:(k !=2)=true->(k !=3)=false:=fun h=>by simp at h⊢;omega
 have F:((k !=2)=false)\/((k !=2)=true/\(k !=3)=false):=by
  rcases P with rfl|rfl
  ·left;rfl
  ·right;exact⟨rfl,rfl⟩
 clear Z;cases x with
 |var n=>
  have o:O=match l7 l n with|some X=>if X=k then some l else none|none=>some (mA ⟨n,k⟩ l):=by rw[<-D];rfl
  refine bs kJ Tryz.func167 tw fun E=>?_;unfold rK;simp;rcases F with q|⟨q,v⟩
  ·(with_reducible repeat' first|refine al ?_|refine aI f ?_|refine aJ f ?_|refine aI d ?_|refine aJ d ?_|refine aI g ?_|refine aJ g ?_|refine aI c ?_|refine aJ c ?_|simp[q]);refine eG [3,10,12,55,56] (fun i (_:Unit)=>[(57,.int .i64 i)]) l.length (fun i _=> ∀j y,j<i->l[j]? =some y->y.v≠n) () b6 (fun j y G=>Ω) (fun _ G _=>?_) (fun i _ hi G _=>?_)
   ·have aY:l7 l n=none:=zy.2 fun y B=>by obtain⟨m,hm,e⟩:=oC B;exact G m y hm (by rw[cl hm,e])
    rw[aY]at o;simp only at o;simp;(with_reducible repeat' first|refine al ?_|simp);all_goals first|(refine⟨by unfold lim;omega,?_⟩)|skip
    have key:=UD (l++[⟨n,k⟩]) d7;have K:=Gd (l++[⟨n,k⟩]);have hlen:(l++[(⟨n,k⟩:bN)]).length=l.length+1:=Ψ
    unfold wR eh at key K;rw[hlen,List.map_append,fA,pg]at key K;refine cC.ob key K aL aL (by simp[inObs,Pv.look]) ?_;rintro r Y ⟨rfl,R,rfl,J,U⟩;have Q:R=mA ⟨n,k⟩ l:=WC (J.trans ((List.perm_append_comm (l₁:=l) (l₂:=[⟨n,k⟩])).trans (MN ⟨n,k⟩ l).symm)) (HS M.asc (zy.1 aY)) U;subst Q;refine⟨Same.keys Ψ Ψ,?_⟩;rw[o];simp[bZ];(with_reducible repeat' first|refine al ?_|simp);simp[bE,aX,a1,aV];simp[gv]
   ·obtain⟨b,ae,z⟩:=ev hi;by_cases u:b.v=n
    ·have aY:l7 l n=some b.k:=by rw[<-u];exact H6 M.asc (eQ ae)
     rw[aY]at o;simp only at o;by_cases w:b.k=k
     ·rw[if_pos w]at o;rw[o];have H:(b.k !=k)=false:=by simp[w]
      have A:(b.v==n)=true:=by simp[u]
      simp[hi,z];(with_reducible repeat' first|refine al ?_|simp[z,hi,H,A,w,u]);simp[bE,aX,a1,aV];simp[gv]
     ·rw[if_neg w]at o;rw[o];have H:(b.k !=k)=true:=by simp[w]
      have A:(b.v==n)=true:=by simp[u]
      simp[hi,z];(with_reducible repeat' first|refine al ?_|simp[z,hi,H,A,w,u]);simp[bE,aX,a1,aV];simp[gv]
    ·have A:(b.v==n)=false:=by simp[u]
     simp[hi,z];(with_reducible repeat' first|refine al ?_|simp[z,hi,A,u]);exact bO.rng () hi (fun j y V B=>by
      rcases(by omega:j<i\/j=i)with h|rfl
      ·exact G j y h B
      ·rw[ae]at B;cases B;exact u) b6
  ·(with_reducible repeat' first|refine al ?_|refine aI f ?_|refine aJ f ?_|refine aI d ?_|refine aJ d ?_|refine aI g ?_|refine aJ g ?_|refine aI c ?_|refine aJ c ?_|simp[q,v]);refine eG [3,10,12,55,56] (fun i (_:Unit)=>[(57,.int .i64 i)]) l.length (fun i _=> ∀j y,j<i->l[j]? =some y->y.v≠n) () b6 (fun j y G=>Ω) (fun _ G _=>?_) (fun i _ hi G _=>?_)
   ·have aY:l7 l n=none:=zy.2 fun y B=>by obtain⟨m,hm,e⟩:=oC B;exact G m y hm (by rw[cl hm,e])
    rw[aY]at o;simp only at o;simp;(with_reducible repeat' first|refine al ?_|simp);all_goals first|(refine⟨by unfold lim;omega,?_⟩)|skip
    have key:=UD (l++[⟨n,k⟩]) d7;have K:=Gd (l++[⟨n,k⟩]);have hlen:(l++[(⟨n,k⟩:bN)]).length=l.length+1:=Ψ
    unfold wR eh at key K;rw[hlen,List.map_append,fA,pg]at key K;refine cC.ob key K aL aL (by simp[inObs,Pv.look]) ?_;rintro r Y ⟨rfl,R,rfl,J,U⟩;have Q:R=mA ⟨n,k⟩ l:=WC (J.trans ((List.perm_append_comm (l₁:=l) (l₂:=[⟨n,k⟩])).trans (MN ⟨n,k⟩ l).symm)) (HS M.asc (zy.1 aY)) U;subst Q;refine⟨Same.keys Ψ Ψ,?_⟩;rw[o];simp[bZ];(with_reducible repeat' first|refine al ?_|simp);simp[bE,aX,a1,aV];simp[gv]
   ·obtain⟨b,ae,z⟩:=ev hi;by_cases u:b.v=n
    ·have aY:l7 l n=some b.k:=by rw[<-u];exact H6 M.asc (eQ ae)
     rw[aY]at o;simp only at o;by_cases w:b.k=k
     ·rw[if_pos w]at o;rw[o];have H:(b.k !=k)=false:=by simp[w]
      have A:(b.v==n)=true:=by simp[u]
      simp[hi,z];(with_reducible repeat' first|refine al ?_|simp[z,hi,H,A,w,u]);simp[bE,aX,a1,aV];simp[gv]
     ·rw[if_neg w]at o;rw[o];have H:(b.k !=k)=true:=by simp[w]
      have A:(b.v==n)=true:=by simp[u]
      simp[hi,z];(with_reducible repeat' first|refine al ?_|simp[z,hi,H,A,w,u]);simp[bE,aX,a1,aV];simp[gv]
    ·have A:(b.v==n)=false:=by simp[u]
     simp[hi,z];(with_reducible repeat' first|refine al ?_|simp[z,hi,A,u]);exact bO.rng () hi (fun j y V B=>by
      rcases(by omega:j<i\/j=i)with h|rfl
      ·exact G j y h B
      ·rw[ae]at B;cases B;exact u) b6
 |nil=>
  have o:O=if T.nil.kind=k then some l else none:=by rw[<-D];rfl
  by_cases p:T.nil.kind=k
  ·rw[if_pos p]at o;rw[o];refine bs kJ Tryz.func167 tw fun E=>?_;unfold rK;simp;simp at p;rcases F with q|⟨q,v⟩
   ·((with_reducible repeat' first|refine al ?_|refine aI f ?_|refine aJ f ?_|refine aI d ?_|refine aJ d ?_|refine aI g ?_|refine aJ g ?_|refine aI c ?_|refine aJ c ?_|simp[q,p]|((first|apply bQ|apply bT|apply bS)<;>intro h<;>try simp at h))<;>(try exact cv));all_goals simp[bE,aX,a1,aV]
    all_goals simp[gv]
   ·((with_reducible repeat' first|refine al ?_|refine aI f ?_|refine aJ f ?_|refine aI d ?_|refine aJ d ?_|refine aI g ?_|refine aJ g ?_|refine aI c ?_|refine aJ c ?_|simp[q,v,p]|((first|apply bQ|apply bT|apply bS)<;>intro h<;>try simp at h))<;>(try exact cv));all_goals simp[bE,aX,a1,aV]
    all_goals simp[gv]
  ·rw[if_neg p]at o;rw[o];refine bs kJ Tryz.func167 tw fun E=>?_;unfold rK;simp;simp at p;rcases F with q|⟨q,v⟩
   ·((with_reducible repeat' first|refine al ?_|refine aI f ?_|refine aJ f ?_|refine aI d ?_|refine aJ d ?_|refine aI g ?_|refine aJ g ?_|refine aI c ?_|refine aJ c ?_|simp[q,p]|((first|apply bQ|apply bT|apply bS)<;>intro h<;>try simp at h))<;>(try exact cv));all_goals simp[bE,aX,a1,aV]
    all_goals simp[gv]
   ·((with_reducible repeat' first|refine al ?_|refine aI f ?_|refine aJ f ?_|refine aI d ?_|refine aJ d ?_|refine aI g ?_|refine aJ g ?_|refine aI c ?_|refine aJ c ?_|simp[q,v,p]|((first|apply bQ|apply bT|apply bS)<;>intro h<;>try simp at h))<;>(try exact cv));all_goals simp[bE,aX,a1,aV]
    all_goals simp[gv]
 |sym a=>
  have o:O=if(T.sym a).kind=k then some l else none:=by rw[<-D];rfl
  by_cases p:(T.sym a).kind=k
  ·rw[if_pos p]at o;rw[o];refine bs kJ Tryz.func167 tw fun E=>?_;unfold rK;simp;simp at p;rcases F with q|⟨q,v⟩
   ·((with_reducible repeat' first|refine al ?_|refine aI f ?_|refine aJ f ?_|refine aI d ?_|refine aJ d ?_|refine aI g ?_|refine aJ g ?_|refine aI c ?_|refine aJ c ?_|simp[q,p]|((first|apply bQ|apply bT|apply bS)<;>intro h<;>try simp at h))<;>(try exact cv));all_goals simp[bE,aX,a1,aV]
    all_goals simp[gv]
   ·((with_reducible repeat' first|refine al ?_|refine aI f ?_|refine aJ f ?_|refine aI d ?_|refine aJ d ?_|refine aI g ?_|refine aJ g ?_|refine aI c ?_|refine aJ c ?_|simp[q,v,p]|((first|apply bQ|apply bT|apply bS)<;>intro h<;>try simp at h))<;>(try exact cv));all_goals simp[bE,aX,a1,aV]
    all_goals simp[gv]
  ·rw[if_neg p]at o;rw[o];refine bs kJ Tryz.func167 tw fun E=>?_;unfold rK;simp;simp at p;rcases F with q|⟨q,v⟩
   ·((with_reducible repeat' first|refine al ?_|refine aI f ?_|refine aJ f ?_|refine aI d ?_|refine aJ d ?_|refine aI g ?_|refine aJ g ?_|refine aI c ?_|refine aJ c ?_|simp[q,p]|((first|apply bQ|apply bT|apply bS)<;>intro h<;>try simp at h))<;>(try exact cv));all_goals simp[bE,aX,a1,aV]
    all_goals simp[gv]
   ·((with_reducible repeat' first|refine al ?_|refine aI f ?_|refine aJ f ?_|refine aI d ?_|refine aJ d ?_|refine aI g ?_|refine aJ g ?_|refine aI c ?_|refine aJ c ?_|simp[q,v,p]|((first|apply bQ|apply bT|apply bS)<;>intro h<;>try simp at h))<;>(try exact cv));all_goals simp[bE,aX,a1,aV]
    all_goals simp[gv]
 |num a=>
  have o:O=if(T.num a).kind=k then some l else none:=by rw[<-D];rfl
  by_cases p:(T.num a).kind=k
  ·rw[if_pos p]at o;rw[o];refine bs kJ Tryz.func167 tw fun E=>?_;unfold rK;simp;simp at p;rcases F with q|⟨q,v⟩
   ·((with_reducible repeat' first|refine al ?_|refine aI f ?_|refine aJ f ?_|refine aI d ?_|refine aJ d ?_|refine aI g ?_|refine aJ g ?_|refine aI c ?_|refine aJ c ?_|simp[q,p]|((first|apply bQ|apply bT|apply bS)<;>intro h<;>try simp at h))<;>(try exact cv));all_goals simp[bE,aX,a1,aV]
    all_goals simp[gv]
   ·((with_reducible repeat' first|refine al ?_|refine aI f ?_|refine aJ f ?_|refine aI d ?_|refine aJ d ?_|refine aI g ?_|refine aJ g ?_|refine aI c ?_|refine aJ c ?_|simp[q,v,p]|((first|apply bQ|apply bT|apply bS)<;>intro h<;>try simp at h))<;>(try exact cv));all_goals simp[bE,aX,a1,aV]
    all_goals simp[gv]
  ·rw[if_neg p]at o;rw[o];refine bs kJ Tryz.func167 tw fun E=>?_;unfold rK;simp;simp at p;rcases F with q|⟨q,v⟩
   ·((with_reducible repeat' first|refine al ?_|refine aI f ?_|refine aJ f ?_|refine aI d ?_|refine aJ d ?_|refine aI g ?_|refine aJ g ?_|refine aI c ?_|refine aJ c ?_|simp[q,p]|((first|apply bQ|apply bT|apply bS)<;>intro h<;>try simp at h))<;>(try exact cv));all_goals simp[bE,aX,a1,aV]
    all_goals simp[gv]
   ·((with_reducible repeat' first|refine al ?_|refine aI f ?_|refine aJ f ?_|refine aI d ?_|refine aJ d ?_|refine aI g ?_|refine aJ g ?_|refine aI c ?_|refine aJ c ?_|simp[q,v,p]|((first|apply bQ|apply bT|apply bS)<;>intro h<;>try simp at h))<;>(try exact cv));all_goals simp[bE,aX,a1,aV]
    all_goals simp[gv]
 |pair a b=>
  have o:O=if(T.pair a b).kind=k then some l else none:=by rw[<-D];rfl
  by_cases p:(T.pair a b).kind=k
  ·rw[if_pos p]at o;rw[o];refine bs kJ Tryz.func167 tw fun E=>?_;unfold rK;simp;simp at p;rcases F with q|⟨q,v⟩
   ·((with_reducible repeat' first|refine al ?_|refine aI f ?_|refine aJ f ?_|refine aI d ?_|refine aJ d ?_|refine aI g ?_|refine aJ g ?_|refine aI c ?_|refine aJ c ?_|simp[q,p]|((first|apply bQ|apply bT|apply bS)<;>intro h<;>try simp at h))<;>(try exact cv));all_goals simp[bE,aX,a1,aV]
    all_goals simp[gv]
   ·((with_reducible repeat' first|refine al ?_|refine aI f ?_|refine aJ f ?_|refine aI d ?_|refine aJ d ?_|refine aI g ?_|refine aJ g ?_|refine aI c ?_|refine aJ c ?_|simp[q,v,p]|((first|apply bQ|apply bT|apply bS)<;>intro h<;>try simp at h))<;>(try exact cv));all_goals simp[bE,aX,a1,aV]
    all_goals simp[gv]
  ·rw[if_neg p]at o;rw[o];refine bs kJ Tryz.func167 tw fun E=>?_;unfold rK;simp;simp at p;rcases F with q|⟨q,v⟩
   ·((with_reducible repeat' first|refine al ?_|refine aI f ?_|refine aJ f ?_|refine aI d ?_|refine aJ d ?_|refine aI g ?_|refine aJ g ?_|refine aI c ?_|refine aJ c ?_|simp[q,p]|((first|apply bQ|apply bT|apply bS)<;>intro h<;>try simp at h))<;>(try exact cv));all_goals simp[bE,aX,a1,aV]
    all_goals simp[gv]
   ·((with_reducible repeat' first|refine al ?_|refine aI f ?_|refine aJ f ?_|refine aI d ?_|refine aJ d ?_|refine aI g ?_|refine aJ g ?_|refine aI c ?_|refine aJ c ?_|simp[q,v,p]|((first|apply bQ|apply bT|apply bS)<;>intro h<;>try simp at h))<;>(try exact cv));all_goals simp[bE,aX,a1,aV]
    all_goals simp[gv]
def jW(o:aW (List bk)):ah:= .tuple [.slice 2 .no ((o.getD []).map bk.e),.bool o.isSome]
@[simp]theorem aul(S:aB->Prop)(o:aW (List bk)):av S (jW o)=True:=by simp[jW]
theorem aay{l:List bk}(h:iX l):bL ar 84 [.slice 2 .no (l.map bk.e)] (.bool true):=by have:=aax l;simpa only[h,decide_true]using this
theorem aqc{s:List bV}(h:iW s=true):bL ar 133 [.str s] (.bool true):=by have:=u2 s;rwa[h]at this
def EP(l:List bk):List ah:=l.flatMap fun m=>[m.e,.bool true]
theorem Xl(l:List bk):o1 l= .hdm l.length (List.range l.length)::EP l:=rfl
theorem Nt(b:Nat):∀(n:Nat) (l:List bk),nD b (List.range' n l.length) (EP l)=(if n<=b then(l[b-n]?).map fun x=>.tuple [x.e,.bool true]else none)
 |n,[]=>by simp[nD,EP]
 |n,x::r=>by
  have e:EP (x::r)=x.e:: .bool true::EP r:=rfl;simp only[jc,List.range'_succ,e,nD];by_cases h:n=b
  ·subst h;simp
  ·rw[if_neg h,Nt b (n+1) r];by_cases U:n<=b
   ·rw[if_pos U,if_pos Ω];have:b-n=(b-(n+1))+1:=Ω
    rw[this];simp
   ·rw[if_neg U,if_neg Ω]
@[simp]theorem au2(l:List bk):ik (o1 l)=false:=rfl
@[simp]theorem au8(m:aB)(l:List bk):zS m (o1 l)=some (b0 l.length [] m):=rfl
theorem akF(f:aB->aW (List ah))(fS mk:aB)(n:Nat)(seen:List Nat)(b:Nat)(l:List bk)(x:bk)(hi:f fS=some (b0 n (seen++[b]) mk))(hm:f mk=some (o1 l))(a:n=l.length)(c:l[b]? =some x):qz f (.ptr fS 0)=some (True,.tuple [x.e,.bool true]):=by subst a;simp only[Xw,hi,hm,b0,Xl,List.getLast?_append,List.getLast?_singleton,Option.some_or,List.range_eq_range',Nt,Nat.zero_le,if_true,Nat.sub_zero,Option.map_map];simp[c]
theorem adC{st:bh}{d:Nat}{K:bh->Prop}{fS mk:aB}{n:Nat}{seen:List Nat}{l:List bk}(hi:Pv.look fS st.b=some (b0 n seen mk))(hm:Pv.look mk st.b=some (o1 l))(e:n=l.length)
  (J:(∀b,b<l.length->b∈seen)->K {st with t:=Pv.put d (.tuple [.bool false]) st.t}) (U:∀b x,l[b]? =some x->b∉seen->K {st with t:=Pv.put d (.tuple [.bool true,x.e,.bool true]) st.t,b:=cB fS (b0 n (seen++[b]) mk) st.b}):
  tZ st d (.ptr fS 0) K:=by
 subst e;simp only[tZ,hi,b0,hm,Xl,NK,and_self,true_and];refine⟨fun h=>J fun b ae=>h b (by simpa using ae),fun b k v a ae=>?_⟩;rw[List.range_eq_range',Nt]at a;simp only[Nat.zero_le,if_true,Nat.sub_zero,gD,ah.tuple.injEq,rA,and_true]at a;obtain⟨x,f,g,c⟩:=a;subst g c;exact U b x f ae
theorem akA{m x:bk}{l:List bk}:x∈lV m l↔x=m\/x∈l:=by
 unfold lV;split
 ·constructor
  ·exact .inr
  ·rintro(rfl|h)<;>assumption
 ·simp[or_comm]
theorem abN{m:bk}{l:List bk}(h:l.Nodup):(lV m l).Nodup:=by
 unfold lV;split
 ·exact h
 ·rw[ss];exact⟨h,Ψ,fun a c b ae=>by simp at ae;subst ae;intro e;subst e;contradiction⟩
theorem abM(m:bk)(l:List bk):(lV m l).length<=l.length+1:=by unfold lV;split<;>simp
theorem agM(s:List bV)(t:T):∀l:List bk,(t.fold (fun v l=>lV ⟨v,s⟩ l) l).length<=l.length+t.size:=by
 induction t with
 |var n=>intro l;simp only[T.fold,T.size];exact abM _ _
 |pair a b d c=>intro l;simp only[T.fold,T.size];have:=d l;have:=c (a.fold (fun v l=>lV ⟨v,s⟩ l) l);omega
 |_=>intro l;simp[T.fold,T.size]
theorem agN(s:List bV)(t:T):∀{l:List bk},l.Nodup->(t.fold (fun v l=>lV ⟨v,s⟩ l) l).Nodup:=by
 induction t with
 |var n=>intro l h;exact abN h
 |pair a b d c=>intro l h;exact c (d h)
 |_=>intro l h;exact h
theorem akB(s:List bV)(t:T)(x:bk):∀{l:List bk},x∈t.fold (fun v l=>lV ⟨v,s⟩ l) l↔x∈l\/(x.s=s/\t.occ x.v=true):=by
 induction t with
 |var n=>
  intro l;simp only[T.fold,akA,T.occ,dS];constructor
  ·rintro(rfl|h)
   ·exact .inr ⟨rfl,rfl⟩
   ·exact .inl h
  ·rintro(h|⟨J,U⟩)
   ·exact .inr h
   ·left;cases x;simp at J U;subst J U;rfl
 |pair a b d c=>
  intro l;simp only[T.fold,c,d,T.occ,nL];constructor
  ·rintro((h|h)|h)
   ·exact .inl h
   ·exact .inr ⟨h.1,.inl h.2⟩
   ·exact .inr ⟨h.1,.inr h.2⟩
  ·rintro(h|⟨J,U|U⟩)
   ·exact .inl (.inl h)
   ·exact .inl (.inr ⟨J,U⟩)
   ·exact .inr ⟨J,U⟩
 |_=>intro l;simp[T.fold,T.occ]
def ajJ(M:List bk)(k:Nat)(st:bh):Prop:=∃(seen:List Nat) (xs:List bk),seen.Nodup/\(∀b∈seen,b<M.length)/\k=M.length-seen.length/\xs=seen.filterMap (fun b=>M[b]?)/\xs.length=seen.length/\st=⟨[(15,.ptr (.obj 815) 0),(63,.ptr (.loc 2) 0)],[(.obj 812,o1 M),(.loc 2,b0 M.length seen (.obj 812)),(.obj 815,[.row 2 (.obj 814) xs.length])],[(.obj 814,⟨xs.length,82,2,some (xs.map bk.e)⟩)],3,[.obj 815,.obj 814,.obj 813,.obj 812,.obj 811]⟩
theorem ap9{s:List au}(B:eJ s){l:List bk}(P:iX l)(ze:l.length<=68719470000)(t:T)(aM:t.fit=true){g:List bV}(aY:iW g=true):
  bL ar 168 [.slice 5 .no (s.map au.e),.slice 2 .no (l.map bk.e),t.e,.str g] (jW (if(t.ap (cI s)).size<=5000 then mK l (t.ap (cI s)) g else none)):=by
 have p:=qL B;have o:=PM aM;have n:=aay P;have m:=aqc aY;have d:=JP s t B.len B.sol.asc B.fit;generalize ab:t.ap (cI s)=x at d⊢;generalize w:(if x.size<=5000 then mK l x g else none)=O;by_cases q:x.size<=5000;rotate_left
 ·rw[if_neg q]at w;rw[<-w];rw[if_neg q,pj q]at d;refine bs kJ Tryz.func168 NV fun Q=>?_;unfold Gs;simp;(with_reducible repeat' first|refine al ?_|refine aI p ?_|refine aJ p ?_|refine aI o ?_|refine aJ o ?_|refine aI n ?_|refine aJ n ?_|refine aI m ?_|refine aJ m ?_|refine aI d ?_|refine aJ d ?_|simp);simp[bE,aX,a1,aV];simp[jW]
 rw[if_pos q]at w;rw[if_pos q,oE q]at d;have u:=aqA g x;cases z:x.has g;rotate_left
 ·rw[z]at u;have ei:O=none:=by rw[<-w];unfold mK;rw[z];rfl
  rw[ei];refine bs kJ Tryz.func168 NV fun Q=>?_;unfold Gs;simp;(with_reducible repeat' first|refine al ?_|refine aI p ?_|refine aJ p ?_|refine aI o ?_|refine aJ o ?_|refine aI n ?_|refine aJ n ?_|refine aI m ?_|refine aJ m ?_|refine aI d ?_|refine aJ d ?_|refine aI u ?_|refine aJ u ?_|simp);simp[bE,aX,a1,aV];simp[jW]
 rw[z]at u;refine bs kJ Tryz.func168 NV fun Q=>?_;unfold Gs;simp;(with_reducible repeat' first|refine al ?_|refine aI p ?_|refine aJ p ?_|refine aI o ?_|refine aJ o ?_|refine aI n ?_|refine aJ n ?_|refine aI m ?_|refine aJ m ?_|refine aI d ?_|refine aJ d ?_|refine aI u ?_|refine aJ u ?_|simp);have V:l.Nodup:=ir.nodup mD P.asc;have H:∀xs:List bk,xs.Perm (x.fold (fun v l=>lV ⟨v,g⟩ l) l)->O=some (pW fJ xs):=fun xs N=>by
  rw[<-w];refine Kb z ?_ fun y=>?_
  ·have J:=Ph mD xs;have U:(pW fJ xs).Nodup:=(((Ac fJ xs).trans N).nodup_iff).2 (agN g x V);exact(J.and U).imp fun{a b} h=>by have:=mt (mD.zero a b).1 h.2;omega
  ·rw[((Ac fJ xs).trans N).mem_iff,akB]
 have hlen:(x.fold (fun v l=>lV ⟨v,g⟩ l) l).length<=68719475000:=by have:=agM g x l;omega
 rw[show k1 []=o1 []from rfl];refine hk (fun i (_:Unit)=>⟨[(7,.ptr (.obj 811) 0),(10,.ptr (.loc 1) 0),(12,.ptr (.obj 813) 0),(49,.slice 2 .no (l.map bk.e)),(50,.int .i64 l.length),(51,.int .i64 i)],[(.obj 811,[.str g]),(.loc 1,[.int .i64 x.kind,.int .i64 x.int,.str x.name,.slice 4 .no (x.args.map T.e)]),(.obj 812,o1 (l.take i)),(.obj 813,[.gmap (.obj 812)])],[],2,[.obj 813,.obj 812,.obj 811]⟩) l.length (fun _ _=>True) () b6 trivial (fun _ _ _=>?_) (fun i _ hi _ _=>?_)
 ·rw[p5];simp;(with_reducible repeat' first|refine al ?_|simp);have key:=Uw (pq g) (Gf g) (J4 g) 188 [.ptr (.obj 813) 0,.ptr (.obj 811) 0] (by intro a;simp[inObs,pq,Pv.look,aA,av]) Ψ (fun v l=>lV ⟨v,g⟩ l) (fun v a=>agV g v a) x l;refine cC.ob key (Gf g l) (by unfold pq;exact aL) (by unfold pq;exact aL) (by simp[inObs,pq,Pv.look]) ?_;rintro r aj ⟨rfl,rfl⟩;refine⟨J4 g _ _,?_⟩;unfold pq;generalize hl:x.fold (fun v l=>lV ⟨v,g⟩ l) l=M at H hlen⊢;simp[bZ];(with_reducible repeat' first|refine al ?_|simp);refine vr (ajJ M) M.length _ ⟨by simp[fresh,aA,av,b0,inObs,Pv.look,BO],dN (by simp[fresh,aA,av,b0,inObs,Pv.look,BO]),dP (by simp[fresh,aA,av,dH,inObs,Pv.look,BO]),Ψ⟩ ⟨[],[],Ψ,Ψ,Ψ,Ψ,Ψ,rfl⟩ ?_;rintro k st ⟨seen,xs,D,A,ad,R,Z,rfl⟩ X cU;clear X cU;have hle:=Jl D A;simp;refine adC (mk:= .obj 812) (seen:=seen) (l:=M) Ψ Ψ rfl (fun Y=>?_) (fun b y F ae=>?_)
  ·have G:=Pa D A Y;rw[<-R]at G;have dR:=H xs G;simp;(with_reducible repeat' first|refine al ?_|simp);have key:=ahw xs Ω;have K:=J3 xs;unfold yo eh at key K;refine cC.ob key K aL aL (by simp[inObs,Pv.look]) ?_;rintro r aj ⟨rfl,rfl⟩;refine⟨Same.keys Ψ Ψ,?_⟩;rw[dR];simp[bZ];(with_reducible repeat' first|refine al ?_|simp);simp[bE,aX,a1,aV];simp[jW]
  ·have W:∀f:aB->aW (List ah),f (.loc 2)=some (b0 M.length (seen++[b]) (.obj 812))->f (.obj 812)=some (o1 M)->qz f (.ptr (.loc 2) 0)=some (True,.tuple [y.e,.bool true]):=fun f J U=>akF f (.loc 2) (.obj 812) M.length seen b M y J U rfl F;have L:b<M.length:=(fy.1 F).1;have l3:=Pb D A L ae;simp[W];(with_reducible repeat' first|refine al ?_|simp[W]);all_goals first|(refine⟨by unfold lim;omega,?_⟩)|skip
   have E:∀S:aB->Prop,aA S (xs.map bk.e++[y.e])=True:=fun S=>by
    have e:xs.map bk.e++[y.e]=(xs++[y]).map bk.e:=Ψ
    rw[e];simp[-List.map_append]
   refine bO.next (M.length-(seen.length+1)) Ω ⟨seen++[b],xs++[y],NP D ae,(by simp;intro c ax;rcases ax with ax|rfl;exact A c ax;exact L),Ψ,by rw[List.filterMap_append,<-R];simp[F],by simp[Z],rfl⟩ ⟨by simp[fresh,aA,av,b0,inObs,Pv.look,BO,E],dN (by simp[fresh,aA,av,b0,inObs,Pv.look,BO,E]),dP (by simp[fresh,aA,av,dH,inObs,Pv.look,BO,E]),Ψ⟩
 ·obtain⟨b,ae,cX⟩:=ev hi;have kv:lV b (l.take i)=l.take (i+1):=by
   have J:b∉l.take i:=fun h=>by
    obtain⟨j,af,e⟩:=oC h;have iU:j<i:=by simp at af;omega
    rw[List.getElem_take]at e;have:=(List.nodup_iff_pairwise_ne.1 V);exact(qN.1 this j i Ω hi iU) (by rw[e,cX])
   rw[List.take_succ,ae];simp[lV,J]
  exact iH
def Rm:C:=(aa [bt 4 false] (.seq (aa [I 7 0,cp 8 7,b1 9 0] (fR 10 9 8 (.seq (.block 1 (aa [cx 11 5 7 9,bg 12 5 11,eg 6 ko,b7 5 6 12] (aa [aH 13 0 1 6,aw 14 1 13,I 15 1,bp 16 .geq 14 15,I 17 16,ay 17 false (h9 18 1 4 6),ay 17 false (bg 19 4 18),ys 17 false (.bsl 20 4 71 [.t 19]),ay 17 false (cG 21 135 20),cg 17 false 22 1,ay 17 false (bp 23 .gtr 21 22),dy 24 17 23] (aU 24 (aa [bt 4 false] .ret) .skip)))) (.region [aT 25 .add 9 1,I 9 25])))) (aa [bt 4 true] .ret)))
def Rl:C:=(aa [b1 2 0] (.seq (aa [I 6 0,cG 7 97 6,cJ 8 7] (aU 8 (aa [b1 2 (-1)] .ret) .skip)) (aa [c8 (.alloc 3 (some 831) (.int .i64 0)),c8 (.store 1 (.t 3) (gi 0))] (.seq (aa [I 9 0,cp 10 9,b1 11 0] (fR 12 11 10 (.seq (.block 1 (aa [cx 13 4 9 11,bg 14 4 13,eg 5 eI,b7 4 5 14] (.region [bg 15 4 5,bG 16 (.mkf 166 [.t 3]),cq 17 131 15 16]))) (.region [aT 18 .add 11 1,I 11 18])))) (aa [aw 19 1 3,I 2 19] .ret)))))
def Rh:C:=(aa [fk 4 2,bt 5 false] (.seq (aa [I 11 0,cG 12 82 11,cJ 13 12,I 14 13,cg 14 false 15 1,ay 14 false (cG 16 83 15),ay 14 false (cJ 17 16),dy 18 14 17] (aU 18 (aa [fk 4 2,bt 5 false] .ret) .skip)) (aa [eD 19 2 78 [],I 6 19] (.seq (.seq (.fg false 6 (.region [I 20 1,cp 21 20,b1 22 0])) (fR 23 22 21 (.seq (.block 1 (aa [cx 24 2 20 22,bg 25 2 24,c8 (.alloc 8 none (.agg [.int .i64 0,.int .i64 0])),b7 2 8 25] (.seq (.drawn true 42 [I 27 0,I 28 6,aH 29 0 1 8,aw 30 1 29,cG 31 50 30,aH 32 1 1 8,aw 33 1 32,dU 34 167 [.t 27,.t 28,.t 31,.t 33],I 26 34,dn 35 0 26,dn 36 1 26,I 9 35,I 10 36]) (.seq (aa [I 37 10,cJ 38 37] (aU 38 (aa [fk 4 2,bt 5 false] .ret) .skip)) (.region [I 39 9,I 6 39]))))) (.region [aT 40 .add 22 1,I 22 40])))) (aa [I 41 6,I 4 41,bt 5 true] .ret)))))
def Ri:C:=(aa [fk 4 2,bt 5 false] (.seq (aa [I 11 0,cG 12 82 11,cJ 13 12,I 14 13,cg 14 false 15 1,ay 14 false (cG 16 84 15),ay 14 false (cJ 17 16),dy 18 14 17] (aU 18 (aa [fk 4 2,bt 5 false] .ret) .skip)) (aa [eD 19 2 82 [],I 6 19] (.seq (.seq (.fg false 6 (.region [I 20 1,cp 21 20,b1 22 0])) (fR 23 22 21 (.seq (.block 1 (aa [cx 24 2 20 22,bg 25 2 24,c8 (.alloc 8 none (.agg [.int .i64 0,.str []])),b7 2 8 25] (.seq (.drawn true 42 [I 27 0,I 28 6,aH 29 0 1 8,aw 30 1 29,cG 31 50 30,aH 32 1 1 8,aw 33 1 32,dU 34 168 [.t 27,.t 28,.t 31,.t 33],I 26 34,dn 35 0 26,dn 36 1 26,I 9 35,I 10 36]) (.seq (aa [I 37 10,cJ 38 37] (aU 38 (aa [fk 4 2,bt 5 false] .ret) .skip)) (.region [I 39 9,I 6 39]))))) (.region [aT 40 .add 22 1,I 22 40])))) (aa [I 41 6,I 4 41,bt 5 true] .ret)))))
def Re:C:=(aa [fk 2 1] (.seq (aa [I 12 0,cp 13 12,b1 14 0] (fR 15 14 13 (.seq (.block 1 (aa [cx 16 1 12 14,aw 17 1 16,I 4 17] (aa [I 18 4,cG 19 82 18,cJ 20 19] (aU 20 (aa [fk 2 1] .ret) .skip)))) (.region [aT 21 .add 14 1,I 14 21])))) (aa [c8 (.bslm 22 (some 821) 1 30 []),I 23 0,c8 (.appm 24 none 1 30 (.t 22) (.t 23)),c8 (.alloc 5 (some 822) (.slice 1 .nil [])),b7 1 5 24] (aa [aw 25 1 5,bG 26 (.mkif 31 (.t 25)),bG 27 (.mkf 172 [.t 5]),cq 28 171 26 27] (aa [eD 29 1 30 [],I 6 29] (.seq (aa [aw 30 1 5,cp 31 30,b1 32 0] (.block 2 (.loop (aa [bp 33 .lss 32 31] (.seq (aU 33 .skip (.exit 2)) (.seq (.block 3 (aa [I 34 32,cx 35 1 30 32,aw 36 1 35,I 7 34,I 8 36] (.seq (aa [I 37 7,aT 38 .gtr 37 0,I 39 38,ay 39 true (aw 40 1 5),cg 39 true 41 7,ay 39 true (aT 42 .sub 41 1),ay 39 true (cx 43 1 40 42),ay 39 true (aw 44 1 43),cg 39 true 45 8,ay 39 true (cq 46 173 44 45),ay 39 true (aT 47 .eql 46 0),ef 48 39 47] (aU 48 (.exit 3) .skip)) (aa [bt 9 true] (.seq (aa [aw 49 1 5,cp 50 49,b1 51 0] (.block 4 (.loop (aa [bp 52 .lss 51 50] (.seq (aU 52 .skip (.exit 4)) (.seq (.block 5 (aa [cx 53 1 49 51,aw 54 1 53,I 11 54] (aa [I 55 11,I 56 8,cq 57 173 55 56,aT 58 .neq 57 0,I 59 58,cg 59 true 60 11,cg 59 true 61 8,ay 59 true (cq 62 174 60 61),ef 63 59 62] (aU 63 (.region [bt 9 false]) .skip)))) (.region [aT 64 .add 51 1,I 51 64]))))))) (aa [I 65 9] (aU 65 (.region [I 66 6,I 67 8,cG 68 141 67,eD 69 1 30 [.t 68],hW 70 1 30 66 69,I 6 70]) .skip))))))) (.region [aT 71 .add 32 1,I 32 71]))))))) (aa [I 72 6,I 2 72] .ret)))))))
def Ku:C:=(.region [aw 3 1 1,I 4 0,aT 5 .add 4 1,bG 6 (.max2 (.t 3) (.t 5)),b7 1 1 6])
def Rf:C:=(aa [bt 5 false] (.seq (.drawn true 16 [aw 6 1 2,I 7 0,cx 8 1 6 7,aw 9 1 8,aw 10 1 2,I 11 1,cx 12 1 10 11,aw 13 1 12,cq 14 173 9 13,aT 15 .lss 14 0,I 5 15]) .ret))
def yc:List (Nat×dE):=[
 (3,⟨1,8,.int .i64,.int .i64 0⟩),
 (9,⟨1,16,.str,.str []⟩),
 (30,⟨1,24,.slice 74,.slice 5 .nil []⟩),
 (31,⟨1,24,.slice 30,.slice 1 .nil []⟩),
 (32,⟨1,24,.slice 78,.slice 2 .nil []⟩),
 (33,⟨1,24,.slice 82,.slice 2 .nil []⟩),
 (44,⟨1,24,.slice 71,.slice 4 .nil []⟩),
 (71,⟨4,56,.struct [(0,3),(1,3),(2,9),(3,44)],.agg [.int .i64 0,.int .i64 0,.str [],.slice 4 .nil []]⟩),
 (74,⟨5,64,.struct [(0,3),(1,71)],.agg [.int .i64 0,.int .i64 0,.int .i64 0,.str [],.slice 4 .nil []]⟩),
 (78,⟨2,16,.struct [(0,3),(1,3)],.agg [.int .i64 0,.int .i64 0]⟩),
 (82,⟨2,24,.struct [(0,3),(1,9)],.agg [.int .i64 0,.str []]⟩)]
theorem ye:e6 ar yc=true:=an
theorem alC:b4 yc Rm [.tmp 4] 2 Tryz.f85=true:=an
theorem alB:b4 yc Rl [.tmp 2] 1 Tryz.f135=true:=an
theorem alx:b4 yc Rh [.tmp 4,.tmp 5] 2 Tryz.f136=true:=an
theorem aly:b4 yc Ri [.tmp 4,.tmp 5] 2 Tryz.f137=true:=an
theorem alu:b4 yc Re [.tmp 2] 1 Tryz.f140=true:=an
theorem XY:b4 yc Ku [] 2 Tryz.f166=true:=an
theorem alv:b4 yc Rf [.tmp 5] 3 Tryz.f172=true:=an
def Wl(s:List au)(l:List bN)(i:Nat)(a:List bN):Prop:=jl a/\gA s (l.drop i) a=gA s l []
theorem aaz{s:List au}(g:eJ s){l:List bN}(j:jl l):bL ar 136 [.slice 5 .no (s.map au.e),.slice 2 .no (l.map bN.e)] (gv (gA s l [])):=by
 have p:=xE j;have k:=qL g;have m:=aaw j;refine bs ye Tryz.func136 alx fun q=>?_;unfold Rh;simp;(with_reducible repeat' first|refine al ?_|refine aI k ?_|refine aJ k ?_|refine aI m ?_|refine aJ m ?_|simp);refine eG [0,20,21] (fun i (a:List bN)=>[(6,.slice 2 .no (a.map bN.e)),(22,.int .i64 i)]) l.length (Wl s l) [] b6 ⟨⟨Ψ,Ψ⟩,rfl⟩ (fun a c _=>?_) (fun i a hi c _=>?_)
 ·obtain⟨_,c⟩:=c;rw[List.drop_length]at c;simp only[gA]at c;rw[<-c];simp;(with_reducible repeat' first|refine al ?_|simp);simp[bE,aX,a1,aV];simp[gv]
 ·obtain⟨n,c⟩:=c;obtain⟨b,ae,f⟩:=ev hi;have e:=j.at' b (eQ ae);rw[mh hi,f]at c;simp only[gA]at c;have d:=aqa g n (.var b.v) (by simp[T.fit,T.ok,T.size,e.1]) b.k;have o:((T.var b.v).ap (cI s)).size<=5000:=FD g b.v;rw[if_pos ⟨e.2,o⟩,show(T.var b.v).ap (cI s)=cI s b.v from rfl]at d;simp[hi,f];cases h:la a (cI s b.v) b.k with
  |none=>rw[h]at c d;simp only at c;rw[<-c];simp only[gv]at d;(with_reducible repeat' first|refine al ?_|refine aI (k5 _) ?_|refine aJ (k5 _) ?_|refine aI d ?_|refine aJ d ?_|simp[f,hi]);simp[bE,aX,a1,aV];simp[gv]
  |some bo=>rw[h]at c d;simp only[gv]at d;(with_reducible repeat' first|refine al ?_|refine aI (k5 _) ?_|refine aJ (k5 _) ?_|refine aI d ?_|refine aJ d ?_|simp[f,hi]);exact bO.rng bo hi ⟨Ka n (Cx g e.1) e.2 h,c⟩ b6
end
end Go.Proofs.YtfeencekjcjalaaGreatDoor
