/- Contracts: words read one after the other. -/
import Derived.Shelf.Sort.Plain
import Derived.Ground.NamesProg
import Derived.Test.YtlnndmgfngfeiaaGreatDoorProg
import Derived.Sort.OwnSortedInts
import Derived.Lib.OwnBridge
import Derived.Shelf.Strings.Builder1
import Derived.Shelf.Strconv.Itoa3
import Derived.Shelf.Strconv.AtoiAll
import Derived.ProofKit
import Derived.WalkKit
import Derived.Lib.ItoaLen
import Derived.Test.YtlnndmgfngfeiaaGreatDoorZp5
set_option linter.all false
set_option maxHeartbeats 4000000
set_option maxRecDepth 4000
open Array renaming getD_eq_getD_getElem?->oC,getElem?_eq_getElem->oD,replicate->p8
open Bool renaming and_eq_true->bM,false_eq_true->kk,not_eq_true'->q0
open ByteArray renaming size->KT
open Go renaming Program->bK
open Go.IntKind renaming i64->kD
open Go.Proofs.Tryz renaming prog->aQ
open Go.Result renaming andThen_ok->e4
open Go.Sem renaming run_bind->e2,run_pure->fH
open Go.Value renaming cells->oF,int->nK
open List renaming all_eq_true->jy,append_assoc->kE,cons_append->dm,drop_length->jN,eq_nil_of_length_eq_zero->q1,getElem?_eq_getElem->cF,getElem?_eq_some_iff->e3,length_cons->lx,map_cons->gY,mem_append->hv,mem_append_left->lY,mem_append_right->j3,mem_cons->gp,mem_map->lZ,mem_of_getElem?->fJ,nil_append->ef,nodup_append->qb,take_add_one->k3,take_append_drop->q3,take_length->j4,take_succ_cons->sB
open List.Nodup renaming length_le_of_subset->aeS
open List.Pairwise renaming imp_of_mem->ai4,map->aeT
open List.Perm renaming eq_of_pairwise->ai5
open List.cons renaming injEq->Ai
open Nat renaming le_refl->cq,lt_or_ge->ly
open Option renaming getD->oG,map_eq_some_iff->ij,map_some->kF
open Option.some renaming inj->gq,injEq->dZ
open Prod.mk renaming injEq->gA
open _root_ renaming ByteArray->jL,False->cZ,Option->aT,UInt8->al,beq_eq_false_iff_ne->jm,congrArg->er,decide_eq_true->nM,decide_eq_true_eq->fK,if_neg->bq
namespace Go.Pv
section
open Go Go.Lib
inductive Gm where
 |mk (kind:Int) (name:List al) (ts:List aX) (gs:List Gm)
 deriving Inhabited
def Gm.kind:Gm->Int| .mk k _ _ _=>k
def Gm.name:Gm->List al| .mk _ s _ _=>s
def Gm.ts:Gm->List aX| .mk _ _ t _=>t
def Gm.gs:Gm->List Gm| .mk _ _ _ g=>g
mutual
def pF:Gm->ae
 | .mk k s t g=>.agg [.int .i64 k,.str s,.slice 4 .no (t.map enc),.slice 4 .no (mc g)]
def mc:List Gm->List ae
 |[]=>[]
 |x::xs=>pF x::mc xs
end
def Gm.e(g:Gm):ae:=pF g
theorem DG:∀l,mc l=l.map Gm.e
 |[]=>rfl
 |x::xs=>by simp[mc,DG xs,Gm.e]
theorem Gm.e_eq(g:Gm):g.e= .agg [.int .i64 g.kind,.str g.name,.slice 4 .no (g.ts.map enc),.slice 4 .no (g.gs.map Gm.e)]:=by cases g;simp[Gm.e,pF,DG,Gm.kind,Gm.name,Gm.ts,Gm.gs]
mutual
theorem PU(S:aC->Prop):∀g:Gm,kin S (pF g)
 | .mk k s t g=>by simp[pF,kin,kinL,IB S g]
theorem IB(S:aC->Prop):∀l:List Gm,kinL S (mc l)
 |[]=>by simp[mc,kinL]
 |x::xs=>by simp[mc,kinL,PU S x,IB S xs]
end
mutual
theorem Sd:∀g:Gm,bC (pF g)=pF g
 | .mk k s t g=>by simp[pF,bC,bz,Ka g]
theorem Ka:∀l:List Gm,bz (mc l)=mc l
 |[]=>by simp[mc,bz]
 |x::xs=>by simp[mc,bz,Sd x,Ka xs]
end
@[simp]theorem aht(S:aC->Prop)(g:Gm):kin S g.e=True:=eq_true (PU S g)
@[simp]theorem ahp(S:aC->Prop)(l:List Gm):kinL S (l.map Gm.e)=True:=by rw[<-DG];exact eq_true (IB S l)
@[simp]theorem aiO(g:Gm):bC g.e=g.e:=Sd g
@[simp]theorem aiL(l:List Gm):bz (l.map Gm.e)=l.map Gm.e:=by rw[<-DG];exact Ka l
@[simp]theorem aiv(g:Gm):eD g.e=true:=by rw[Gm.e_eq];rfl
@[simp]theorem afO(g:Gm):cells g.e=[.int .i64 g.kind,.str g.name,.slice 4 .no (g.ts.map enc),.slice 4 .no (g.gs.map Gm.e)]:=by rw[Gm.e_eq];rfl
@[simp]theorem afa(g:Gm):ae.agg [.int .i64 g.kind,.str g.name,.slice 4 .no (g.ts.map enc),.slice 4 .no (g.gs.map Gm.e)]=g.e:=(Gm.e_eq g).symm
@[simp]theorem agk(off:Nat)(eR:Bool)(sz:Nat)(g:Gm):n7 off eR sz (.eptr g.e)=if eR then some (off+sz<=4,.eptr (.agg (([.int .i64 g.kind,.str g.name,.slice 4 .no (g.ts.map enc),.slice 4 .no (g.gs.map Gm.e)].drop off).take sz)))else(([.int .i64 g.kind,.str g.name,.slice 4 .no (g.ts.map enc),.slice 4 .no (g.gs.map Gm.e)]:List ae)[off]?).map fun p=>(eD p=true/\cells p=[p],.eptr p):=by rw[Gm.e_eq];rfl
@[simp]theorem ahd(g:Gm):Pv.isAgg 4 g.e:=by rw[Gm.e_eq];exact⟨_,rfl,rfl⟩
def hP:List al:=[116,114,117,101]
def ih:List al:=[102,97,105,108]
def yi:List al:=[61]
def yh:List al:=[47,61]
def sw:List al:=[115,121,109,98,111,108]
def ss:List al:=[110,117,109,98,101,114]
def sn:List al:=[97,98,115,101,110,116]
def sp:List al:=[97,110,100]
def su:List al:=[111,114]
def sr:List al:=[110,111,116]
def iD:List al:=[100,101,102,105,110,101]
def jw:List (List al):=[hP,ih,sw,ss,sn,sp,su,sr,iD]
def gL(s:List al):Bool:= !jw.contains s&&fM s
def lp(k:Int):Int:=if k=2 then 2 else if k=3 then 2 else if k=4 then 1 else if k=5 then 1 else if k=6 then 2 else 0
mutual
def Gm.sz:Gm->Nat
 | .mk _ _ _ g=>1+oN g
def oN:List Gm->Nat
 |[]=>0
 |x::xs=>x.sz+oN xs
end
theorem N3{x:Gm}:∀{l:List Gm},x∈l->x.sz<=oN l
 |[],h=>by simp at h
 |y::l,h=>by
  simp only[oN];rcases gp.1 h with rfl|h
  ·omega
  ·have:=N3 h;omega
theorem Gm.gs_lt{g x:Gm}(h:x∈g.gs):x.sz<g.sz:=by
 cases g with
 |mk k s t gs=>have:=N3 (l:=gs) h;simp only[Gm.sz];omega
theorem Gm.sz_pos(g:Gm):1<=g.sz:=by cases g;simp[Gm.sz]
mutual
def Gm.shape:Gm->Bool
 | .mk k s t g=>t.all aX.fits&&(
  if 0<=k/\k<=6 then s==[]&&g.isEmpty&&decide ((t.length:Int)=lp k)&&(k !=6||(match t with|x::_=>decide (x.kind=2)|[]=>false))
  else if k=9 then gL s&&g.isEmpty&&decide (t.length<=4)
  else if k=7\/k=8 then s==[]&&t.isEmpty&&decide (g.length<=8)&&x5 g
  else if k=10 then s==[]&&t.isEmpty&&(match g with|[x]=>decide (x.kind=9)|_=>false)&&x5 g
  else false)
def x5:List Gm->Bool
 |[]=>true
 |x::xs=>x.shape&&x5 xs
end
def Gm.fits(n:Nat)(g:Gm):Bool:=g.shape&&decide (g.sz<=n)
def nr(w:List al):aT Int:=if w=yi then some 2 else if w=yh then some 3 else if w=sw then some 4 else if w=ss then some 5 else if w=sn then some 6 else if w=sp then some 7 else if w=su then some 8 else if w=sr then some 10 else none
def kz(k:Int):Bool:=k==7||k==8||k==10
mutual
def eX(tr:List (List al)->aT (T×List (List al)))(aF:List al->aT (Int×List al)):Nat->List (List al)->aT (Gm×List (List al))
 |0,_=>none
 |_+1,[]=>none
 |n+1,w::r=>if w=hP then some (.mk 0 [] [] [],r)else if w=ih then some (.mk 1 [] [] [],r)
  else if w=[40]then(match r with
   |[]=>none
   |h::cE=>match aF h with
    |some (k,s)=>eC tr aF n k s [] [] cE
    |none=>none)
  else none
def eC(tr:List (List al)->aT (T×List (List al)))(aF:List al->aT (Int×List al)):Nat->Int->List al->List T->List Gm->List (List al)->aT (Gm×List (List al))
 |0,_,_,_,_,_=>none
 |_+1,_,_,_,_,[]=>none
 |n+1,k,s,ts,gs,w::r=>if w=[41]then(if 1<k then some (.mk k s (ts.map T.tm) gs,r)else none)
  else if kz k then(match eX tr aF n (w::r)with
   |some (g,cE)=>eC tr aF n k s ts (gs++[g]) cE
   |none=>none)
  else match tr (w::r)with
   |some (t,cE)=>eC tr aF n k s (ts++[t]) gs cE
   |none=>none
end
def FG(tr:List (List al)->aT (T×List (List al))):Prop:= ∀l t r,tr l=some (t,r)->r<:+l/\r.length<l.length
mutual
theorem zM{tr:List (List al)->aT (T×List (List al))}(aD:FG tr){aF:List al->aT (Int×List al)}:∀(n:Nat) (l:List (List al)) (g:Gm) (r:List (List al)),eX tr aF n l=some (g,r)->r<:+l/\r.length<l.length
 |0,_,_,_,h=>by simp[eX]at h
 |_+1,[],_,_,h=>by simp[eX]at h
 |n+1,w::l,g,r,h=>by
  simp only[eX]at h;split at h
  ·cases h;exact⟨List.suffix_cons _ _,Ψ⟩
  ·split at h
   ·cases h;exact⟨List.suffix_cons _ _,Ψ⟩
   ·split at h
    ·split at h
     ·cases h
     ·split at h
      ·obtain⟨I,J⟩:=JC aD n _ _ _ _ _ g r h;exact⟨(I.trans (List.suffix_cons _ _)).trans (List.suffix_cons _ _),by simp;omega⟩
      ·cases h
    ·cases h
theorem JC{tr:List (List al)->aT (T×List (List al))}(aD:FG tr){aF:List al->aT (Int×List al)}:∀(n:Nat) (k:Int) (s:List al) (ts:List T) (gs:List Gm) (l:List (List al)) (g:Gm) (r:List (List al)),eC tr aF n k s ts gs l=some (g,r)->r<:+l/\r.length<l.length
 |0,_,_,_,_,_,_,_,h=>by simp[eC]at h
 |_+1,_,_,_,_,[],_,_,h=>by simp[eC]at h
 |n+1,k,s,ts,gs,w::l,g,r,h=>by
  simp only[eC]at h;split at h
  ·split at h
   ·cases h;exact⟨List.suffix_cons _ _,Ψ⟩
   ·cases h
  ·split at h
   ·split at h
    ·rename_i x cE hr;obtain⟨I,J⟩:=zM aD n (w::l) x cE hr;obtain⟨ao,aO⟩:=JC aD n _ _ _ _ _ g r h;exact⟨ao.trans I,Ω⟩
    ·cases h
   ·split at h
    ·rename_i x cE hr;obtain⟨I,J⟩:=aD (w::l) x cE hr;obtain⟨ao,aO⟩:=JC aD n _ _ _ _ _ g r h;exact⟨ao.trans I,Ω⟩
    ·cases h
end
def hI(w:List al):aT T:=match eg w with
 |some t=>if t.ok then some t else none
 |none=>none
theorem BT:∀(a:List T) (t:T),(e9 a t).ok=(a.all T.ok&&t.ok)
 |[],t=>by simp[e9]
 |x::r,t=>by simp[e9,T.ok,BT r t,Bool.and_assoc]
theorem Pn:∀(n:Nat) (l:List (List al)) (acc:List T) (t:T) (r:List (List al)),bH eg n l acc=some (t,r)->t.ok=true->acc.all T.ok=true
 |0,_,_,_,_,h,_=>by simp[bH]at h
 |_+1,[],_,_,_,h,_=>by simp[bH]at h
 |n+1,w::l,acc,t,r,h,ak=>by
  simp only[bH]at h;split at h
  ·cases h;rw[BT]at ak;simp only[bM]at ak;exact ak.1
  ·split at h
   ·split at h
    ·cases h
    ·split at h
     ·split at h
      ·cases h;rw[BT]at ak;simp only[bM]at ak;exact ak.1
      ·cases h
     ·cases h
   ·split at h
    ·have:=Pn n _ _ t r h ak;simp only[List.all_append,bM]at this;exact this.1
    ·cases h
def ou:aT (T×List (List al))->aT (T×List (List al))
 |some (t,r)=>if t.ok then some (t,r)else none
 |none=>none
mutual
theorem Fb:∀(n:Nat) (l:List (List al)),rd hI n l=ou (rd eg n l)
 |0,_=>by simp[rd,ou]
 |_+1,[]=>by simp[rd,ou]
 |n+1,w::l=>by
  simp only[rd];split
  ·exact Po n l [] rfl
  ·split
   ·rfl
   ·unfold hI;cases eg w with
    |none=>rfl
    |some t=>by_cases h:t.ok=true<;>simp[ou,h]
theorem Po:∀(n:Nat) (l:List (List al)) (acc:List T),acc.all T.ok=true->bH hI n l acc=ou (bH eg n l acc)
 |0,_,_,_=>by simp[bH,ou]
 |_+1,[],_,_=>by simp[bH,ou]
 |n+1,w::l,acc,bF=>by
  simp only[bH];split
  ·simp[ou,BT,bF,T.ok]
  ·split
   ·split
    ·rfl
    ·rw[Fb n l];cases hr:rd eg n l with
     |none=>rfl
     |some x=>
      obtain⟨t,r⟩:=x;cases r with
      |nil=>by_cases h:t.ok=true<;>simp[ou,h]
      |cons v cE=>by_cases h:t.ok=true<;>by_cases aM:v=[41]<;>simp[ou,h,aM,BT,bF]
   ·rw[Fb n (w::l)];cases hr:rd eg n (w::l)with
    |none=>rfl
    |some x=>
     obtain⟨t,r⟩:=x;by_cases h:t.ok=true
     ·simp only[ou,h,if_true];exact Po n r _ (by simp[bF,h])
     ·simp only[ou,h,kk,if_false];cases az:bH eg n r (acc++[t])with
      |none=>rfl
      |some y=>
       obtain⟨u,eW⟩:=y;by_cases hu:u.ok=true
       ·have:=Pn n r _ u eW az hu;simp at this;exact absurd this.2 h
       ·simp[ou,hu]
end
def ei(l:List (List al)):aT (T×List (List al)):=match rd eg (2*l.length+1) l with
 |some (t,r)=>if t.fit then some (t,r)else none
 |none=>none
def jk(l:List (List al)):aT (T×List (List al)):=rd hI (2*l.length+1) l
theorem Dx{t:T}(h:t.fit=true):t.ok=true:=by unfold T.fit at h;simp only[bM]at h;exact h.1
theorem adH{l:List (List al)}{t:T}{r:List (List al)}(h:ei l=some (t,r)):jk l=some (t,r)/\t.fit=true:=by
 unfold ei at h;unfold jk;rw[Fb];cases hr:rd eg (2*l.length+1) l with
 |none=>rw[hr]at h;cases h
 |some x=>
  obtain⟨u,cE⟩:=x;rw[hr]at h;simp only at h;split at h
  ·rename_i aL;cases h;simp[ou,Dx aL,aL]
  ·cases h
theorem adK{l:List (List al)}{t:T}{r:List (List al)}(h:jk l=some (t,r))(aL:t.fit=true):ei l=some (t,r):=by
 unfold jk at h;unfold ei;rw[Fb]at h;cases hr:rd eg (2*l.length+1) l with
 |none=>rw[hr]at h;cases h
 |some x=>
  obtain⟨u,cE⟩:=x;rw[hr]at h;simp only[ou]at h;split at h
  ·cases h;simp[aL]
  ·cases h
theorem Km:FG ei:=fun l t r h=>by
 unfold ei at h;split at h
 ·rename_i x y hr;split at h
  ·cases h;exact pY _ _ _ _ hr
  ·cases h
 ·cases h
theorem CF:FG jk:=fun l t r h=>pY _ _ _ _ h
def fb(h:List al):aT (Int×List al):=match nr h with
 |some k=>some (k,[])
 |none=>if gL h then some (9,h)else none
def hdS(h:List al):aT (Int×List al):=if h=hP then some (0,[])else if h=ih then some (1,[])else match nr h with
 |some k=>some (k,[])
 |none=>some (9,h)
theorem Ye{h:List al}{x:Int×List al}(e:fb h=some x):hdS h=some x:=by
 unfold fb at e;unfold hdS;have I:h≠hP:=by rintro rfl;revert e;simp[nr,hP,yi,yh,sw,ss,sn,sp,su,sr,gL,jw]
 have J:h≠ih:=by rintro rfl;revert e;simp[nr,ih,yi,yh,sw,ss,sn,sp,su,sr,gL,jw,hP]
 rw[bq I,bq J];cases aa:nr h with
 |some k=>rw[aa]at e;exact e
 |none=>
  rw[aa]at e;simp only at e⊢;split at e
  ·exact e
  ·cases e
mutual
theorem Rs:∀(n:Nat) (l:List (List al)) (g:Gm) (r:List (List al)),eX ei fb n l=some (g,r)->eX jk hdS n l=some (g,r)
 |0,_,_,_,h=>by simp[eX]at h
 |_+1,[],_,_,h=>by simp[eX]at h
 |n+1,w::l,g,r,h=>by
  simp only[eX]at h⊢;split at h
  ·rename_i e;rw[if_pos e];exact h
  ·rename_i aj;rw[bq aj];split at h
   ·rename_i e;rw[if_pos e];exact h
   ·rename_i aJ;rw[bq aJ];split at h
    ·rename_i bs;rw[if_pos bs];cases l with
     |nil=>exact h
     |cons v l=>
      simp only at h⊢;cases bI:fb v with
      |none=>rw[bI]at h;cases h
      |some x=>obtain⟨k,s⟩:=x;rw[bI]at h;rw[Ye bI];exact Jz n k s [] [] l g r h
    ·cases h
theorem Jz:∀(n:Nat) (k:Int) (s:List al) (ts:List T) (gs:List Gm) (l:List (List al)) (g:Gm) (r:List (List al)),eC ei fb n k s ts gs l=some (g,r)->eC jk hdS n k s ts gs l=some (g,r)
 |0,_,_,_,_,_,_,_,h=>by simp[eC]at h
 |_+1,_,_,_,_,[],_,_,h=>by simp[eC]at h
 |n+1,k,s,ts,gs,w::l,g,r,h=>by
  simp only[eC]at h⊢;split at h
  ·rename_i e;rw[if_pos e];exact h
  ·rename_i e;rw[bq e];split at h
   ·rename_i aK;rw[if_pos aK];cases hr:eX ei fb n (w::l)with
    |none=>rw[hr]at h;cases h
    |some x=>obtain⟨eM,cE⟩:=x;rw[hr]at h;rw[Rs n _ _ _ hr];exact Jz n k s ts _ cE g r h
   ·rename_i aK;rw[bq aK];cases hr:ei (w::l)with
    |none=>rw[hr]at h;cases h
    |some x=>obtain⟨t',cE⟩:=x;rw[hr]at h;rw[(adH hr).1];exact Jz n k s _ gs cE g r h
end
theorem Ch{tr:List (List al)->aT (T×List (List al))}{aF:List al->aT (Int×List al)}:∀(n:Nat) (k:Int) (s:List al) (ts:List T) (gs:List Gm) (l:List (List al)) (g:Gm) (r:List (List al)),eC tr aF n k s ts gs l=some (g,r)->
  g.kind=k/\1<k/\g.name=s/\(∀t∈ts,t.tm∈g.ts)/\∀x∈gs,x∈g.gs
 |0,_,_,_,_,_,_,_,h=>by simp[eC]at h
 |_+1,_,_,_,_,[],_,_,h=>by simp[eC]at h
 |n+1,k,s,ts,gs,w::l,g,r,h=>by
  simp only[eC]at h;split at h
  ·split at h
   ·rename_i aa;cases h;exact⟨rfl,aa,rfl,fun t aD=>List.mem_map_of_mem aD,fun x af=>af⟩
   ·cases h
  ·split at h
   ·split at h
    ·obtain⟨I,J,ao,aO,bp⟩:=Ch n k s ts _ _ g r h;exact⟨I,J,ao,aO,fun x af=>bp x (by simp[af])⟩
    ·cases h
   ·split at h
    ·obtain⟨I,J,ao,aO,bp⟩:=Ch n k s _ gs _ g r h;exact⟨I,J,ao,fun t aD=>aO t (by simp[aD]),bp⟩
    ·cases h
theorem J3:∀{l:List Gm},x5 l=true->∀x∈l,x.shape=true
 |[],_,x,h=>by simp at h
 |y::l,h,x,af=>by
  simp only[x5,bM]at h;rcases gp.1 af with rfl|af
  ·exact h.1
  ·exact J3 h.2 x af
theorem x6{g:Gm}(h:g.shape=true):∀t∈g.ts,t.fits=true:=by
 cases g with
 |mk k s ts gs=>simp only[Gm.shape,bM,jy]at h;exact h.1
theorem shape_gs{g:Gm}(h:g.shape=true)(aa:kz g.kind=true):∀x∈g.gs,x.shape=true:=by
 cases g with
 |mk k s ts gs=>
  have aa:(k=7\/k=8)\/k=10:=by simpa[kz,Gm.kind]using aa
  simp only[Gm.shape,bM]at h;have J:=h.2;rw[bq Ω,bq Ω]at J;split at J
  ·simp only[bM]at J;exact J3 J.2
  ·rw[if_pos Ω]at J;simp only[bM]at J;exact J3 J.2
theorem R6{g:Gm}(h:g.shape=true)(aa:g.kind=9):gL g.name=true:=by
 cases g with
 |mk k s ts gs=>simp only[Gm.kind]at aa;subst aa;simp only[Gm.shape,bM]at h;have J:=h.2;simp at J;exact J.1.1
mutual
theorem Rt:∀(n:Nat) (l:List (List al)) (g:Gm) (r:List (List al)),eX jk hdS n l=some (g,r)->g.shape=true->eX ei fb n l=some (g,r)
 |0,_,_,_,h,_=>by simp[eX]at h
 |_+1,[],_,_,h,_=>by simp[eX]at h
 |n+1,w::l,g,r,h,aR=>by
  simp only[eX]at h⊢;split at h
  ·rename_i e;rw[if_pos e];exact h
  ·rename_i aj;rw[bq aj];split at h
   ·rename_i e;rw[if_pos e];exact h
   ·rename_i aJ;rw[bq aJ];split at h
    ·rename_i bs;rw[if_pos bs];cases l with
     |nil=>exact h
     |cons v l=>
      simp only at h⊢;cases bI:hdS v with
      |none=>rw[bI]at h;cases h
      |some x=>
       obtain⟨k,s⟩:=x;rw[bI]at h;simp only at h;obtain⟨m1,m2,m3,_⟩:=Ch n k s [] [] l g r h;have az:fb v=some (k,s):=by
        unfold hdS at bI;unfold fb;split at bI
        ·cases bI;omega
        ·split at bI
         ·cases bI;omega
         ·cases aa:nr v with
          |some bb=>rw[aa]at bI;exact bI
          |none=>rw[aa]at bI;cases bI;have:=R6 aR m1;rw[m3]at this;simp[this]
       rw[az];exact JA n k s [] [] l g r h aR
    ·cases h
theorem JA:∀(n:Nat) (k:Int) (s:List al) (ts:List T) (gs:List Gm) (l:List (List al)) (g:Gm) (r:List (List al)),eC jk hdS n k s ts gs l=some (g,r)->g.shape=true->eC ei fb n k s ts gs l=some (g,r)
 |0,_,_,_,_,_,_,_,h,_=>by simp[eC]at h
 |_+1,_,_,_,_,[],_,_,h,_=>by simp[eC]at h
 |n+1,k,s,ts,gs,w::l,g,r,h,aR=>by
  simp only[eC]at h⊢;split at h
  ·rename_i e;rw[if_pos e];exact h
  ·rename_i e;rw[bq e];split at h
   ·rename_i aK;rw[if_pos aK];cases hr:eX jk hdS n (w::l)with
    |none=>rw[hr]at h;cases h
    |some x=>obtain⟨eM,cE⟩:=x;rw[hr]at h;simp only at h;obtain⟨m1,_,_,_,m5⟩:=Ch n k s ts _ cE g r h;rw[Rt n _ _ _ hr (shape_gs aR (by rw[m1];exact aK) eM (m5 eM Ψ))];exact JA n k s ts _ cE g r h aR
   ·rename_i aK;rw[bq aK];cases hr:jk (w::l)with
    |none=>rw[hr]at h;cases h
    |some x=>obtain⟨t',cE⟩:=x;rw[hr]at h;simp only at h;obtain⟨_,_,_,m4,_⟩:=Ch n k s _ gs cE g r h;have aL:=x6 aR _ (m4 t' Ψ);rw[aX.fits_T]at aL;rw[adK hr aL];exact JA n k s _ gs cE g r h aR
end
theorem adJ{t:T}(h:t.fit=true)(r:List (List al)):ei (hY t++r)=some (t,r):=by unfold ei;rw[Ci t r _ (Dx h) (by simp;omega)];simp[h]
theorem aey{v:Int}(h:0<=v/\v<=100000):(T.var v).fit=true:=by unfold T.fit T.ok T.size;simp[h]
def fB(w:List al):Int:=if w=[40]then 1 else if w=[41]then-1 else 0
def et:List (List al)->Int
 |[]=>0
 |w::r=>fB w+et r
theorem vo:∀(a b:List (List al)),et (a++b)=et a+et b
 |[],b=>by simp[et]
 |w::a,b=>by simp only[dm,et,vo a b];omega
def rs(p:List (List al)):Prop:=p≠[]/\et p=0/\∀k,0<k->k<p.length->0<et (p.take k)
def l5(p:List (List al)):Prop:=et p= -1/\∀k,k<p.length->0<=et (p.take k)
theorem vB{w:List al}(I:w≠[40])(J:w≠[41]):rs [w]:=by refine⟨Ψ,by simp[et,fB,I,J],fun k ao aO=>?_⟩;simp at aO;omega
theorem C6{p:List (List al)}(h:l5 p):rs ([40]::p):=by refine⟨Ψ,by simp only[et,h.1];rfl,fun k I J=>?_⟩;obtain⟨k,rfl⟩:∃j,k=j+1:=⟨k-1,Ω⟩;have:=h.2 k (by simpa using J);simp only[sB,et];have:fB [40]=1:=rfl;omega
theorem XH{p:List (List al)}(h:rs p)(k:Nat):0<=et (p.take k):=by
 rcases Nat.eq_zero_or_pos k with rfl|aa
 ·simp[et]
 ·by_cases aG:k<p.length
  ·have:=h.2.2 k aa aG;omega
  ·rw[List.take_of_length_le Ω,h.2.1];exact Int.le_refl _
theorem rv{p q:List (List al)}(h:rs p)(bn:l5 q):l5 (p++q):=by
 refine⟨by rw[vo,h.2.1,bn.1];rfl,fun k aa=>?_⟩;rw[List.take_append,vo];have I:=XH h k;by_cases aG:k<=p.length
 ·rw[show k-p.length=0 by omega];simp[et];exact I
 ·have e:p.take k=p:=List.take_of_length_le Ω;rw[e,h.2.1];have:=bn.2 (k-p.length) (by simp at aa;omega);omega
theorem AI:l5 [[41]]:=⟨rfl,fun k aa=>by
 have:k=0:=by simp at aa;omega
 subst this;simp[et]⟩
mutual
theorem JE{at':List al->aT T}:∀(n:Nat) (l:List (List al)) (t:T) (r:List (List al)),rd at' n l=some (t,r)->∃p,l=p++r/\rs p
 |0,_,_,_,h=>by simp[rd]at h
 |_+1,[],_,_,h=>by simp[rd]at h
 |n+1,w::l,t,r,h=>by
  simp only[rd]at h;split at h
  ·rename_i e;obtain⟨p,I,J⟩:=Pp n l [] t r h;exact⟨[40]::p,by rw[e,I];rfl,C6 J⟩
  ·rename_i aj;split at h
   ·cases h
   ·rename_i aJ;cases bF:at' w with
    |none=>rw[bF]at h;cases h
    |some x=>rw[bF]at h;cases h;exact⟨[w],rfl,vB aj fun e=>aJ (.inl e)⟩
theorem Pp{at':List al->aT T}:∀(n:Nat) (l:List (List al)) (acc:List T) (t:T) (r:List (List al)),bH at' n l acc=some (t,r)->∃p,l=p++r/\l5 p
 |0,_,_,_,_,h=>by simp[bH]at h
 |_+1,[],_,_,_,h=>by simp[bH]at h
 |n+1,w::l,acc,t,r,h=>by
  simp only[bH]at h;split at h
  ·rename_i e;cases h;exact⟨[[41]],by rw[e];rfl,AI⟩
  ·split at h
   ·rename_i e;split at h
    ·cases h
    ·split at h
     ·rename_i x v cE hr;split at h
      ·rename_i U3;cases h;obtain⟨p,I,J⟩:=JE n l x (v::r) hr;refine⟨[46]::(p++[[41]]),by rw[e,I,U3];simp,?_⟩;have:=rv (vB (w:=[46]) (by decide) (by decide)) (rv J AI);simpa using this
      ·cases h
     ·cases h
   ·split at h
    ·rename_i x cE hr;obtain⟨p,I,J⟩:=JE n (w::l) x cE hr;obtain⟨q,ao,aO⟩:=Pp n cE _ t r h;exact⟨p++q,by rw[I,ao];simp,rv J aO⟩
    ·cases h
end
def Kl(tr:List (List al)->aT (T×List (List al))):Prop:= ∀l t r,tr l=some (t,r)->∃p,l=p++r/\rs p
def Hn(aF:List al->aT (Int×List al)):Prop:= ∀h x,aF h=some x->h≠[40]/\h≠[41]
theorem Sw:Kl ei:=fun l t r h=>by
 unfold ei at h;split at h
 ·rename_i x y hr;split at h
  ·cases h;exact JE _ _ _ _ hr
  ·cases h
 ·cases h
theorem Oj:Hn fb:=fun h x e=>by constructor<;>(rintro rfl;revert e;simp[fb,nr,gL,jw,fM,yi,yh,sw,ss,sn,sp,su,sr,hP,ih,iD,low])
mutual
theorem JD{tr:List (List al)->aT (T×List (List al))}(aD:Kl tr){aF:List al->aT (Int×List al)}(bI:Hn aF):∀(n:Nat) (l:List (List al)) (g:Gm) (r:List (List al)),eX tr aF n l=some (g,r)->∃p,l=p++r/\rs p
 |0,_,_,_,h=>by simp[eX]at h
 |_+1,[],_,_,h=>by simp[eX]at h
 |n+1,w::l,g,r,h=>by
  simp only[eX]at h;split at h
  ·rename_i e;cases h;exact⟨[w],rfl,by rw[e];exact vB (by decide) (by decide)⟩
  ·split at h
   ·rename_i e;cases h;exact⟨[w],rfl,by rw[e];exact vB (by decide) (by decide)⟩
   ·split at h
    ·rename_i e;split at h
     ·cases h
     ·rename_i v c6;split at h
      ·rename_i k s aa;obtain⟨p,I,J⟩:=JB aD bI n _ _ _ _ _ g r h;have ao:=bI _ _ aa;refine⟨[40]::v::p,by rw[e,I];rfl,C6 ?_⟩;have:=rv (vB ao.1 ao.2) J;simpa using this
      ·cases h
    ·cases h
theorem JB{tr:List (List al)->aT (T×List (List al))}(aD:Kl tr){aF:List al->aT (Int×List al)}(bI:Hn aF):∀(n:Nat) (k:Int) (s:List al) (ts:List T) (gs:List Gm) (l:List (List al)) (g:Gm) (r:List (List al)),eC tr aF n k s ts gs l=some (g,r)->∃p,l=p++r/\l5 p
 |0,_,_,_,_,_,_,_,h=>by simp[eC]at h
 |_+1,_,_,_,_,[],_,_,h=>by simp[eC]at h
 |n+1,k,s,ts,gs,w::l,g,r,h=>by
  simp only[eC]at h;split at h
  ·rename_i e;split at h
   ·cases h;exact⟨[[41]],by rw[e];rfl,AI⟩
   ·cases h
  ·split at h
   ·split at h
    ·rename_i x cE hr;obtain⟨p,I,J⟩:=JD aD bI n (w::l) x cE hr;obtain⟨q,ao,aO⟩:=JB aD bI n _ _ _ _ _ g r h;exact⟨p++q,by rw[I,ao];simp,rv J aO⟩
    ·cases h
   ·split at h
    ·rename_i x cE hr;obtain⟨p,I,J⟩:=aD (w::l) x cE hr;obtain⟨q,ao,aO⟩:=JB aD bI n _ _ _ _ _ g r h;exact⟨p++q,by rw[I,ao];simp,rv J aO⟩
    ·cases h
end
def u4(s:List al):Bool:=fM s||(match fQ s with|some n=>decide (0<=n/\n<=100000)|none=>false)
def num:List (List al)->List (List al)->aT (List (List al)×List (List al))
 |ns,[]=>some ([],ns)
 |ns,w::r=>match w with
  |63::s=>if u4 s then(num (if w∈ns then ns else ns++[w]) r).map fun x=>((63::itoa (ns.idxOf w))::x.1,x.2)else none
  |_=>(num ns r).map fun x=>(w::x.1,x.2)
theorem tg(ns r:List (List al))(w:List al)(h:∀s,w≠63::s):num ns (w::r)=(num ns r).map fun x=>(w::x.1,x.2):=by
 conv=>lhs;unfold num
 split
 ·rename_i s;exact absurd rfl (h s)
 ·rfl
theorem BZ(ns r:List (List al))(s:List al):num ns ((63::s)::r)=if u4 s then(num (if(63::s)∈ns then ns else ns++[63::s]) r).map fun x=>((63::itoa (ns.idxOf (63::s)))::x.1,x.2)else none:=by rw[num]
theorem UL(s:List al):fB (63::s)=0:=by simp[fB]
theorem El(w:List al):(∃s,w=63::s)\/ ∀s,w≠63::s:=by
 cases w with
 |nil=>exact .inr Ψ
 |cons c s=>
  by_cases h:c=63
  ·exact .inl ⟨s,by rw[h]⟩
  ·exact .inr (by intro t e;cases e;exact h rfl)
theorem xR:∀(l ns c6 ms:List (List al)),num ns l=some (c6,ms)->c6.length=l.length/\∀k,et (c6.take k)=et (l.take k)
 |[],ns,c6,ms,h=>by simp only[num,dZ,gA]at h;obtain⟨rfl,rfl⟩:=h;simp
 |w::r,ns,c6,ms,h=>by
  rcases El w with⟨s,rfl⟩|hw
  ·rw[BZ]at h;split at h
   ·simp only[ij]at h;obtain⟨⟨u5,u6⟩,af,e⟩:=h;simp only[gA]at e;obtain⟨rfl,rfl⟩:=e;obtain⟨I,J⟩:=xR r _ u5 u6 af;refine⟨by simp[I],fun k=>?_⟩;cases k with
    |zero=>rfl
    |succ k=>simp only[sB,et,J k,UL]
   ·cases h
  ·rw[tg _ _ _ hw]at h;simp only[ij]at h;obtain⟨⟨u5,u6⟩,af,e⟩:=h;simp only[gA]at e;obtain⟨rfl,rfl⟩:=e;obtain⟨I,J⟩:=xR r _ u5 u6 af;refine⟨by simp[I],fun k=>?_⟩;cases k with
   |zero=>rfl
   |succ k=>simp only[sB,et,J k]
def jz:Int->List (List al)->Nat
 |_,[]=>0
 |d,w::r=>if d+fB w<0 then 1 else jz (d+fB w) r+1
theorem Gx:∀(d:Int) (l:List (List al)),jz d l<=l.length
 |_,[]=>by simp[jz]
 |d,w::r=>by simp only[jz];have:=Gx (d+fB w) r;split<;>simp<;>omega
theorem Mq:∀(p r:List (List al)) (d:Int),0<=d->d+et p<0->(∀k,k<p.length->0<=d+et (p.take k))->jz d (p++r)=p.length
 |[],r,d,bL,I,J=>by exfalso;simp[et]at I;omega
 |w::p,r,d,bL,I,J=>by
  simp only[dm,jz];by_cases h:d+fB w<0
  ·rw[if_pos h];cases p with
   |nil=>rfl
   |cons v q=>exfalso;have:=J 1 Ψ;simp[et]at this;omega
  ·rw[bq h,Mq p r (d+fB w) Ω (by simp only[et]at I;omega) fun k aa=>by have:=J (k+1) (by simp;omega);simp only[sB,et]at this;omega]
   rfl
theorem Mp{p:List (List al)}(h:l5 p)(r:List (List al)):jz 0 (p++r)=p.length:=Mq p r 0 (Int.le_refl _) (by rw[h.1];decide) fun k aa=>by have:=h.2 k aa;omega
def h4:Int->List (List al)->aT (Int×List (List al))
 |_,[]=>none
 |k,w::r=>if w=[41]then some (k,r)else if w=63::itoa k then h4 (k+1) r else none
theorem Jt:∀(l:List (List al)) (k j:Int) (r:List (List al)),h4 k l=some (j,r)->∃p,l=p++r/\l5 p
 |[],_,_,_,h=>by simp[h4]at h
 |w::l,k,j,r,h=>by
  simp only[h4]at h;split at h
  ·rename_i e;cases h;exact⟨[[41]],by rw[e];rfl,AI⟩
  ·split at h
   ·rename_i e;obtain⟨p,I,J⟩:=Jt l _ j r h;refine⟨w::p,by rw[I];rfl,?_⟩;have:=rv (vB (w:=w) (by rw[e];simp) (by rw[e];simp)) J;simpa using this
   ·cases h
structure Rl where
 name:List al
 ar:Int
 loc:Int
 body:Gm
 deriving Inhabited
def rf(name:List al)(c:Nat)(l:List (List al)):aT (Rl×List (List al)):=match h4 0 l with
 |some (k,r)=>match eX ei fb (2*r.length+1) r with
  |some (g,[41]::eW)=>some (⟨name,k,c-k,g⟩,eW)
  |_=>none
 |none=>none
def l8(l:List (List al)):Nat:=jz 0 l+jz 0 (l.drop (jz 0 l))
def n2:List (List al)->aT (Rl×List (List al))
 |[40]::d::[40]::name::l=>if d=iD then match num [] (l.take (l8 l))with
   |some (c6,ms)=>(rf name ms.length c6).map fun x=>(x.1,l.drop (l8 l-x.2.length))
   |none=>none
  else none
 |_=>none
theorem GH{name:List al}{c:Nat}{l r:List (List al)}{x:Rl}(h:rf name c l=some (x,r)):∃p q,l=p++q++r/\l5 p/\l5 q/\x.name=name:=by
 unfold rf at h;cases aU:h4 0 l with
 |none=>rw[aU]at h;cases h
 |some y=>
  obtain⟨k,ff⟩:=y;rw[aU]at h;simp only at h;obtain⟨p,I,J⟩:=Jt l 0 k ff aU;split at h
  ·rename_i g eW aR;cases h;obtain⟨q,ao,aO⟩:=JD Sw Oj _ _ _ _ aR;exact⟨p,q++[[41]],by rw[I,ao];simp,J,rv aO AI,rfl⟩
  ·cases h
theorem ME{l r:List (List al)}{name:List al}{x:Rl}(aK:gL name=true):
  (n2 ([40]::iD::[40]::name::l)=some (x,r))↔∃p ms c6,l=p++r/\num [] p=some (c6,ms)/\rf name ms.length c6=some (x,[])/\rs ([40]::iD::[40]::name::p):=by
 have nu:name≠[40]/\name≠[41]:=by constructor<;>(rintro rfl;revert aK;simp[gL,jw,fM,low,sw,ss,sn,sp,su,sr,hP,ih,iD])
 have YC:∀p q,l5 p->l5 q->rs ([40]::iD::[40]::name::(p++q)):=by intro p q aU bn;have I:=rv (vB nu.1 nu.2) aU;have J:=C6 I;have ao:=rv J bn;have aO:=C6 (rv (vB (w:=iD) (by decide) (by decide)) ao);simpa using aO
 have key:∀(p:List (List al)) (ms c6 eW:List (List al)),num [] p=some (c6,ms)->rf name ms.length c6=some (x,eW)->∃u v,p.take (u+v)=p.take (u+v)/\u+v+eW.length=p.length/\l5 (p.take u)/\l5 ((p.drop u).take v):=by
  intro p ms c6 eW I J;obtain⟨ao,aO⟩:=xR p _ _ _ I;obtain⟨a,b,e,bF,ah,_⟩:=GH J;refine⟨a.length,b.length,rfl,by rw[<-ao,e];simp;omega,?_,?_⟩
  ·refine⟨by rw[<-aO,e,kE,List.take_left];exact bF.1,fun k aa=>?_⟩;have gw:k<a.length:=by simp at aa;omega
   rw[List.take_take,Nat.min_eq_left Ω,<-aO,e,kE,List.take_append_of_le_length Ω];exact bF.2 k gw
  ·have aF:∀k,et ((p.drop a.length).take k)=et ((c6.drop a.length).take k):=by
    intro k;have aj:et (p.take (a.length+k))=et (p.take a.length)+et ((p.drop a.length).take k):=by rw[List.take_add,vo]
    have aJ:et (c6.take (a.length+k))=et (c6.take a.length)+et ((c6.drop a.length).take k):=by rw[List.take_add,vo]
    have:=aO (a.length+k);have:=aO a.length;omega
   have aG:c6.drop a.length=b++eW:=by rw[e,kE,List.drop_left]
   refine⟨by rw[aF,aG,List.take_left];exact ah.1,fun k aa=>?_⟩;have gw:k<b.length:=by simp at aa;omega
   rw[List.take_take,Nat.min_eq_left Ω,aF,aG,List.take_append_of_le_length Ω];exact ah.2 k gw
 have w9:∀(m:List (List al)) (u v:Nat),l5 (m.take u)->l5 ((m.drop u).take v)->u+v<=m.length->l8 m=u+v:=by
  intro m u v I J ao;unfold l8;have aj:jz 0 m=u:=by have:=Mp I (m.drop u);rw[q3]at this;rw[this];simp;omega
  rw[aj];have:=Mp J ((m.drop u).drop v);rw[q3]at this;rw[this];simp;omega
 simp only[n2,if_true];constructor
 ·intro h;cases gK:num [] (l.take (l8 l))with
  |none=>rw[gK]at h;cases h
  |some y=>
   obtain⟨c6,ms⟩:=y;rw[gK]at h;simp only[ij]at h;obtain⟨⟨wP,eW⟩,af,e⟩:=h;simp only[gA]at e;obtain⟨rfl,aJ⟩:=e;obtain⟨u,v,_,Ed,hu,aM⟩:=key _ _ _ _ gK af;have hle:(l.take (l8 l)).length<=l8 l:=by simp;omega
   have Bn:(l.take (l8 l)).length<=l.length:=by simp;omega
   have OX:l5 (l.take u):=by rw[List.take_take,Nat.min_eq_left Ω]at hu;exact hu
   have O0:l5 ((l.drop u).take v):=by rw[List.drop_take,List.take_take,Nat.min_eq_left Ω]at aM;exact aM
   have cm:=w9 l u v OX O0 Ω;have hlen:(l.take (l8 l)).length=u+v:=by simp;omega
   have jX:eW=[]:=q1 Ω;subst jX;refine⟨l.take (l8 l),ms,c6,by rw[<-aJ];simp,gK,af,?_⟩;have:l.take (l8 l)=l.take u++(l.drop u).take v:=by rw[cm,List.take_add]
   rw[this];exact YC _ _ OX O0
 ·rintro⟨p,ms,c6,rfl,I,J,_⟩;obtain⟨u,v,_,Ed,hu,aM⟩:=key _ _ _ _ I J;simp only[List.length_nil,Nat.add_zero]at Ed;have cm:=w9 (p++r) u v (by rw[List.take_append_of_le_length Ω];exact hu) (by rw[List.drop_append_of_le_length Ω,List.take_append_of_le_length (by simp;omega)];exact aM) (by simp;omega)
  have aD:(p++r).take (l8 (p++r))=p:=by rw[cm,Ed,List.take_left]
  rw[aD,I];simp only[J,kF];rw[cm,Ed];simp
def mF(p:List (List al)):aT Rl:=match num [] p with
 |some (_::d::b::name::l,ms)=>if d=iD/\b=[40]then match h4 0 l with
   |some (k,r)=>match eX jk hdS (2*r.length+1) r with
    |some (g,[_])=>some ⟨name,k,ms.length-k,g⟩
    |_=>none
   |none=>none
  else none
 |_=>none
def ps:Int->List (List al)->aT Nat
 |_,[]=>none
 |d,w::r=>if d+fB w<=0 then some 1 else(ps (d+fB w) r).map (· +1)
theorem Gu:∀(p r:List (List al)) (d:Int),p≠[]->d+et p<=0->(∀k,0<k->k<p.length->0<d+et (p.take k))->ps d (p++r)=some p.length
 |[],_,_,h,_,_=>absurd rfl h
 |w::p,r,d,_,I,J=>by
  simp only[dm,ps];cases p with
  |nil=>rw[if_pos (by simp[et]at I;omega)];rfl
  |cons v q=>
   have:=J 1 Ω Ψ;simp[et]at this;rw[bq Ω,Gu (v::q) r (d+fB w) Ψ (by simp only[et]at I⊢;omega) fun k aa gh=>by have:=J (k+1) Ω (by simp at gh⊢;omega);simp only[sB,et]at this;omega]
   rfl
theorem Gv:∀(l:List (List al)) (d:Int) (n:Nat),ps d l=some n->0<n/\n<=l.length/\d+et (l.take n)<=0/\∀k,0<k->k<n->0<d+et (l.take k)
 |[],_,_,h=>by simp[ps]at h
 |w::r,d,n,h=>by
  simp only[ps]at h;split at h
  ·cases h;exact⟨Ω,Ψ,by simp[et];omega,fun k I J=>Ω⟩
  ·rename_i hw;simp only[ij]at h;obtain⟨m,hm,rfl⟩:=h;obtain⟨I,J,ao,aO⟩:=Gv r _ m hm;refine⟨Ω,by simp;omega,by simp only[sB,et];omega,fun k aa gh=>?_⟩;obtain⟨j,rfl⟩:∃j,k=j+1:=⟨k-1,Ω⟩;simp only[sB,et];rcases Nat.eq_zero_or_pos j with rfl|aw
   ·simp[et];omega
   ·have:=aO j aw Ω;omega
theorem UJ(w:List al): -1<=fB w:=by unfold fB;split<;>(try split)<;>omega
theorem T1{l:List (List al)}{n:Nat}(h:ps 0 l=some n):rs (l.take n)\/l.take n=[[41]]:=by
 obtain⟨I,J,ao,aO⟩:=Gv l 0 n h;have hlen:(l.take n).length=n:=by simp;omega
 obtain⟨m,rfl⟩:∃m,n=m+1:=⟨n-1,Ω⟩;have D0:l.take (m+1)=l.take m++[l[m]]:=by rw[k3,cF Ω];rfl
 have aR:=UJ l[m];have OV:et (l.take (m+1))=et (l.take m)+fB l[m]:=by rw[D0,vo];simp[et]
 rcases Nat.eq_zero_or_pos m with rfl|hm
 ·rw[OV]at ao;simp[et]at ao;by_cases de:fB l[0]=0
  ·left;exact⟨by rw[D0];simp,by rw[OV,de];simp[et],fun k aa gh=>Ω⟩
  ·right;rw[D0];unfold fB at ao de;split at ao
   ·omega
   ·split at ao
    ·rename_i e;simp[e]
    ·rename_i bp cj;rw[bq bp,bq cj]at de;omega
 ·left;have:=aO m hm Ω;refine⟨by rw[D0];exact List.append_ne_nil_of_right_ne_nil _ Ψ,Ω,fun k aa gh=>?_⟩;rw[hlen]at gh;rw[List.take_take,Nat.min_eq_left Ω];have:=aO k aa gh;omega
theorem Qu{l ns c6 ms:List (List al)}(h:num ns l=some (c6,ms)):c6.length=l.length:=(xR l ns c6 ms h).1
theorem Jf{w:List al}{r ns ms c6:List (List al)}{v:List al}(h:num ns (w::r)=some (v::c6,ms))(aM:∀s,v≠63::s):w=v/\num ns r=some (c6,ms):=by
 rcases El w with⟨s,rfl⟩|hw
 ·rw[BZ]at h;split at h
  ·simp only[ij]at h;obtain⟨x,_,e⟩:=h;simp only[gA,Ai]at e;exact absurd e.1.1.symm (aM _)
  ·cases h
 ·rw[tg _ _ _ hw]at h;simp only[ij]at h;obtain⟨⟨u5,u6⟩,af,e⟩:=h;simp only[gA,Ai]at e;obtain⟨⟨rfl,rfl⟩,rfl⟩:=e;exact⟨rfl,af⟩
theorem Rw{s:List al}(h:gL s=true):∀r,s≠63::r:=by unfold gL at h;simp only[bM]at h;exact Qq h.2
theorem aeE:∀s,iD≠63::s:=by simp[iD]
theorem abW:∀s,([40]:List al)≠63::s:=by simp
theorem MG{p:List (List al)}{x:Rl}(aR:rs p)(aK:gL x.name=true)(ah:x.body.shape=true):
  mF p=some x↔∃l ms c6,p=[40]::iD::[40]::x.name::l/\num [] l=some (c6,ms)/\rf x.name ms.length c6=some (x,[]):=by
 constructor
 ·intro h;unfold mF at h;split at h
  ·rename_i w0 d b name c6 ms sY;split at h
   ·rename_i Yg;obtain⟨rfl,rfl⟩:=Yg;split at h
    ·rename_i k r aU;split at h
     ·rename_i g z hr;cases h;simp only at aK ah;have hlen:=Qu sY;simp at hlen;obtain⟨k1,iC,hX,ye,l,rfl⟩:∃k1 iC hX ye l,p=k1::iC::hX::ye::l:=by
       match p,hlen with
       |[],h=>simp at h
       |[_],h=>simp at h
       |[_,_],h=>simp at h
       |[_,_,_],h=>simp at h
       |k1::iC::hX::ye::l,_=>exact⟨k1,iC,hX,ye,l,rfl⟩
      have rU:k1=[40]:=by
       have:=aR.2.2 1 Ω Ψ;simp[et]at this;unfold fB at this;split at this
       ·assumption
       ·split at this<;>omega
      subst rU;rw[tg _ _ _ Ψ]at sY;simp only[ij]at sY;obtain⟨⟨FL,FM⟩,bA,e⟩:=sY;simp only[gA,Ai]at e;obtain⟨⟨_,rfl⟩,rfl⟩:=e;obtain⟨aj,O3⟩:=Jf bA aeE;obtain⟨aJ,jE⟩:=Jf O3 abW;obtain⟨bs,ZA⟩:=Jf jE (Rw aK);clear bA O3 jE;subst aj;subst aJ;subst bs;have bA:=ZA;refine⟨l,_,c6,rfl,bA,?_⟩;have ub:=Rt _ _ _ _ hr ah;obtain⟨bR,aj,HP⟩:=Jt c6 0 k r aU;obtain⟨cA,aJ,Zd⟩:=JD Sw Oj _ _ _ _ ub;have de:z=[41]:=by
       have bL:=aR.2.1;have aG:=(xR l [] c6 _ bA).2 l.length;rw[j4,List.take_of_length_le (by rw[Qu bA];exact cq _)]at aG;rw[aj,vo,HP.1,aJ,vo,Zd.2.1]at aG;simp only[et]at bL aG;have aF:fB iD=0:=by decide
       have n8:fB [40]=1:=rfl;have ft:fB ye=0:=by unfold gL at aK;simp only[bM]at aK;have:=xQ (Ih aK.2);simp[fB,this]
       have Ic:fB z= -1:=Ω
       unfold fB at Ic;split at Ic
       ·omega
       ·split at Ic
        ·assumption
        ·omega
      subst de;unfold rf;rw[aU];simp only;rw[ub];rfl
     ·cases h
    ·cases h
   ·cases h
  ·cases h
 ·rintro⟨l,ms,c6,rfl,I,J⟩;unfold rf at J;cases aU:h4 0 c6 with
  |none=>rw[aU]at J;cases J
  |some y=>
   obtain⟨k,r⟩:=y;rw[aU]at J;simp only at J;split at J
   ·rename_i g eW ub;simp only[dZ,gA]at J;obtain⟨af,rfl⟩:=J;unfold mF;rw[tg _ _ _ Ψ,tg _ _ _ (by simp[iD]),tg _ _ _ Ψ,tg _ _ _ (Rw aK),I];simp only[kF,and_self,if_true,aU,Rs _ _ _ _ ub,af]
   ·cases J
def sb:Nat->List (List al)->aT (List Rl)
 |_,[]=>some []
 |0,_=>none
 |n+1,l=>match n2 l with
  |some (x,r)=>(sb n r).map (x:: ·)
  |none=>none
def ov:Nat->List (List al)->aT (List Rl)
 |_,[]=>some []
 |0,_=>none
 |n+1,l=>match ps 0 l with
  |some k=>match mF (l.take k)with
   |some x=>(ov n (l.drop k)).map (x:: ·)
   |none=>none
  |none=>none
def N1(P:List Rl):Prop:= ∀x∈P,gL x.name=true/\x.body.shape=true
theorem Fa:∀(n:Nat) (l:List (List al)) (P:List Rl),N1 P->(sb n l=some P↔ov n l=some P)
 |n,[],P,_=>by cases n<;>simp[sb,ov]
 |0,w::l,P,_=>by simp[sb,ov]
 |n+1,w::l,P,uc=>by
  simp only[sb,ov];constructor
  ·intro h;cases aF:n2 (w::l)with
   |none=>rw[aF]at h;cases h
   |some y=>
    obtain⟨x,r⟩:=y;rw[aF]at h;simp only[ij]at h;obtain⟨Q,jb,rfl⟩:=h;obtain⟨aK,ah⟩:=uc x Ψ;have hU:=aF;unfold n2 at hU;split at hU
    ·rename_i d name IG e;split at hU
     ·rename_i fL;subst fL;have ft:x.name=name:=by
       split at hU
       ·simp only[ij]at hU;obtain⟨⟨wP,eW⟩,I,J⟩:=hU;cases J;exact(GH I).choose_spec.choose_spec.2.2.2
       ·cases hU
      subst ft;rw[e]at aF;obtain⟨p,ms,c6,I,J,ao,aO⟩:=(ME aK).1 aF;have jf:ps 0 (w::l)=some ([40]::iD::[40]::x.name::p).length:=by rw[e,I];exact Gu ([40]::iD::[40]::x.name::p) r 0 aO.1 (by rw[aO.2.1];decide) fun k aa gh=>by have:=aO.2.2 k aa gh;omega
      have uy:w::l=([40]::iD::[40]::x.name::p)++r:=by rw[e,I];rfl
      rw[jf];simp only;rw[uy,List.take_left,List.drop_left];rw[(MG aO aK ah).2 ⟨p,ms,c6,rfl,J,ao⟩];simp only;rw[(Fa n r Q fun y bA=>uc y (by simp[bA])).1 jb];rfl
     ·cases hU
    ·cases hU
  ·intro h;cases aE:ps 0 (w::l)with
   |none=>rw[aE]at h;cases h
   |some k=>
    rw[aE]at h;simp only at h;cases aF:mF ((w::l).take k)with
    |none=>rw[aF]at h;cases h
    |some x=>
     rw[aF]at h;simp only[ij]at h;obtain⟨Q,jb,rfl⟩:=h;obtain⟨aK,ah⟩:=uc x Ψ;rcases T1 aE with aR|aR
     ·obtain⟨q,ms,c6,I,J,ao⟩:=(MG aR aK ah).1 aF;have uy:w::l=[40]::iD::[40]::x.name::(q++(w::l).drop k):=by have:=q3 k (w::l);rw[I]at this;exact this.symm
      have ub:=(ME (l:=q++(w::l).drop k) (r:=(w::l).drop k) (x:=x) aK).2 ⟨q,ms,c6,rfl,J,ao,by rw[<-I];exact aR⟩;rw[<-uy]at ub;rw[ub];simp only;rw[(Fa n _ Q fun y bA=>uc y (by simp[bA])).2 jb];rfl
     ·rw[aR]at aF;simp[mF,num]at aF
mutual
def aX.vs:aX->List Int
 | .mk k n _ a=>if k=1 then [n]else aX.vsL a
def aX.vsL:List aX->List Int
 |[]=>[]
 |x::xs=>x.vs++aX.vsL xs
end
mutual
def Gm.vs:Gm->List Int
 | .mk _ _ t g=>aX.vsL t++Gm.vsL g
def Gm.vsL:List Gm->List Int
 |[]=>[]
 |x::xs=>x.vs++Gm.vsL xs
end
mutual
def Gm.cf(P:List Rl):Gm->Bool
 | .mk k s t g=>if k=9 then(match P.find? fun r=>r.name==s with|some r=>r.ar==(t.length:Int)|none=>false)else Gm.cfL P g
def Gm.cfL(P:List Rl):List Gm->Bool
 |[]=>true
 |x::xs=>x.cf P&&Gm.cfL P xs
end
def Rl.ok(P:List Rl)(x:Rl):Bool:=gL x.name&&decide (0<=x.ar/\x.ar<=4)&&decide (0<=x.loc/\x.loc<=8)&&x.body.fits 60&&(x.body.vs.all fun v=>decide (v<x.ar+x.loc))&&x.body.cf P
def mr(P:List Rl):Bool:=decide (P.length<=8)&&decide ((P.map Rl.name).Nodup)&&P.all (Rl.ok P)
theorem Qx{P:List Rl}(h:mr P=true):N1 P:=by intro x af;simp only[mr,bM,jy]at h;have I:=h.2 x af;simp only[Rl.ok,Gm.fits,bM]at I;exact⟨I.1.1.1.1.1,I.1.1.2.1⟩
def nH(o:aT (List Rl)):aT (List Rl):=o.bind fun P=>if mr P then some P else none
theorem KE{o:aT (List Rl)}{P:List Rl}:nH o=some P↔o=some P/\mr P=true:=by
 cases o with
 |none=>simp[nH]
 |some Q=>
  simp only[nH,Option.bind_some];by_cases jb:mr Q=true
  ·rw[if_pos jb];simp only[dZ];exact⟨fun e=>⟨e,e▸jb⟩,fun e=>e.1⟩
  ·rw[bq jb];simp only[dZ,reduceCtorEq,false_iff];intro h;exact jb (h.1▸h.2)
theorem ab0(n:Nat)(l:List (List al)):nH (sb n l)=nH (ov n l):=by apply Option.ext;intro P;rw[KE,KE];exact⟨fun h=>⟨(Fa n l P (Qx h.2)).1 h.1,h.2⟩,fun h=>⟨(Fa n l P (Qx h.2)).2 h.1,h.2⟩⟩
structure Ix where
 op:Int
 a:Int
 b:Int
 g:Gm
structure Ey where
 name:List al
 pos:Int
 ar:Int
 vars:Int
structure Cd where
 is:List Ix
 es:List Ey
def aaW(g:Gm):Bool:=g.kind==0&&g.name==[]&&g.ts.isEmpty&&g.gs.isEmpty
def MR(es:List Ey)(s:List al):Int:=match es.findIdx? fun e=>e.name==s with
 |some i=>i
 |none=> -1
def Cd.fin(c:Cd)(i:Nat):Int:=match c.es[i+1]? with
 |some e=>e.pos
 |none=>c.is.length
def FJ(g:Gm)(n:Int):Prop:= ∀v∈g.vs,v<n
def UW(es:List Ey)(s:List al):Int:=MR (es.take (es.length-1)) s
def Xv(c:Cd)(x:Ix)(vars:Int):Prop:=
 (x.op≠0->x.op≠5->aaW x.g=true)/\(x.op=0\/x.op=5->x.g.fits 80=true/\FJ x.g vars/\(x.op=0->2<=x.g.kind/\x.g.kind<=6)/\
  (x.op=5->x.g.kind=9/\∃k f,UW c.es x.g.name=(k:Nat)/\c.es[k]? =some f/\(x.g.ts.length:Int)=f.ar))
def ZX(c:Cd)(e:Ey)(yI:Int)(at':Int)(x:Ix):Prop:=
 (0<=x.op/\x.op<=6)/\(x.op=6↔at'=yI-1)/\Xv c x e.vars/\(x.op=1\/x.op=3->at'+1<=x.a/\x.a<=yI-1)/\(¬(x.op=1\/x.op=3)->x.a=0)/\
 (x.op=1\/x.op=2->0<=x.b/\x.b<=7)/\(¬(x.op=1\/x.op=2)->x.b=0)/\(x.op=1->∃y,c.is[x.a.toNat]? =some y/\(y.op=1\/y.op=2)/\y.b=x.b+1)
def FQ(c:Cd)(e:Ey)(yI:Int):Prop:= ∀(k:Nat) x,e.pos<=k->(k:Int)<yI->c.is[k]? =some x->ZX c e yI k x
def Yc(e:Ey):List al:=e.name++([47]++(itoa e.ar++[58,10]))
def Eb(es:List Ey)(k:Nat):List al:=((es.filter fun e=>e.pos==(k:Int)).map Yc).flatten
end
end Go.Pv
namespace Go.Proofs.YtlnndmgfngfeiaaGreatDoor
section
open Go Go.Pv
def oj{α:Type}(p:α->Bool)(s:List α)(i:Nat)(_:Unit):Prop:= ∀k b,k<i->s[k]? =some b->p b=true
theorem oj.step{α:Type}{p:α->Bool}{s:List α}{i:Nat}(h:oj p s i ()){b:α}(ah:s[i]? =some b)(aU:p b=true):oj p s (i+1) ():=fun k c aa aE=>by
 rcases ly k i with cu|cu
 ·exact h k c cu aE
 ·obtain rfl:k=i:=Ω
  rw[ah]at aE;cases aE;exact aU
theorem oj.fin{α:Type}{p:α->Bool}{s:List α}(h:oj p s s.length ()):s.all p=true:=by rw[jy];intro b ah;obtain⟨i,az⟩:=List.mem_iff_getElem?.1 ah;exact h i b (e3.1 az).1 az
theorem wV{α:Type}{p:α->Bool}{s:List α}{i:Nat}{b:α}(ah:s[i]? =some b)(aU:p b=false):s.all p=false:=by rw[List.all_eq_false];exact⟨b,fJ ah,by rw[aU];simp⟩
theorem tE(l:List aX):b6 aQ 183 [.slice 4 .no (l.map enc)] (.bool (l.all aX.fits)):=by
 generalize bu:l.all aX.fits=R;refine bQ p4 Wi abk fun aN=>?_;unfold LK;have gJ:l.length<=68719476736:=by simp[iZ,js,ja,bN]at aN;omega
 simp;refine gu (fun i (_:Unit)=>⟨[(5,.slice 4 .no (l.map enc)),(6,.int .i64 l.length),(7,.int .i64 i)],[],[],0,[]⟩) l.length (oj aX.fits l) () dw (fun k b aa=>Ω) (fun _ aw _=>?_) (fun i _ az aw _=>?_)
 ·have:R=true:=by rw[<-bu];exact aw.fin
  subst this;clear aw bu;exact cw
 ·obtain⟨t,aD,Zq⟩:=hj az;have cx:=SJ t;cases g:t.fits
  ·rw[g]at cx;have:R=false:=by rw[<-bu];exact wV aD g
   subst this;clear aD aw bu;exact cw
  ·rw[g]at cx;have aK:=aw.step aD g;clear aD aw bu;exact r7
theorem Kw(s:List al):b6 aQ 103 [.str s] (.bool (gL s)):=by
 have cD:=CK s;by_cases h:jw.contains s=true
 ·have:gL s=false:=by unfold gL;rw[h];rfl
  rw[this];have hm:s∈jw:=by simpa using h
  simp only[jw,gp,List.not_mem_nil,or_false]at hm;rcases hm with rfl|rfl|rfl|rfl|rfl|rfl|rfl|rfl|rfl;all_goals
   refine bQ lV M1 QA fun aN=>?_;unfold F6
   clear aN cD
   simp[hP,ih,sw,ss,sn,sp,su,sr,iD]
   exact cw
 ·have:gL s=fM s:=by unfold gL;rw[Bool.not_eq_true]at h;rw[h];rfl
  rw[this];have hm:∀w∈jw,(s==w)=false:=fun w hw=>by rw[jm];rintro rfl;exact h (by simpa using hw)
  simp only[jw,gp,List.not_mem_nil,or_false,forall_eq_or_imp,forall_eq]at hm;obtain⟨I,J,ao,aO,bp,cj,eu,gB,e6⟩:=hm;simp only[hP,ih,sw,ss,sn,sp,su,sr,iD]at I J ao aO bp cj eu gB e6;refine bQ lV M1 QA fun aN=>?_;unfold F6;clear aN;exact cw
theorem Ew{α:Type}(l:List α):((l.length:Int)==0)=l.isEmpty:=by
 cases l with
 |nil=>rfl
 |cons a l=>simp;omega
def iS(g:Gm)(room:Int):Int:=if g.shape=true/\(g.sz:Int)<=room then g.sz else-1
theorem xP{g:Gm}{room:Int}(h:g.shape=true)(J:(g.sz:Int)<=room):iS g room=g.sz:=if_pos ⟨h,J⟩
theorem wb{g:Gm}{room:Int}(h:g.shape=false):iS g room= -1:=bq fun J=>by rw[h]at J;cases J.1
theorem aaO{g:Gm}{room:Int}(h:room<g.sz):iS g room= -1:=bq fun J=>Ω
theorem oA(g:Gm):g.shape=(g.ts.all aX.fits&&(
  if 0<=g.kind/\g.kind<=6 then g.name==[]&&g.gs.isEmpty&&decide ((g.ts.length:Int)=lp g.kind)&&(g.kind !=6||(match g.ts with|x::_=>decide (x.kind=2)|[]=>false))
  else if g.kind=9 then gL g.name&&g.gs.isEmpty&&decide (g.ts.length<=4)
  else if g.kind=7\/g.kind=8 then g.name==[]&&g.ts.isEmpty&&decide (g.gs.length<=8)&&g.gs.all Gm.shape
  else if g.kind=10 then g.name==[]&&g.ts.isEmpty&&(match g.gs with|[x]=>decide (x.kind=9)|_=>false)&&g.gs.all Gm.shape
  else false)):=by
 have hS:∀l:List Gm,x5 l=l.all Gm.shape:=by
  intro l;induction l with
  |nil=>rfl
  |cons x l bo=>simp[x5,bo]
 cases g;simp only[Gm.shape,Gm.kind,Gm.name,Gm.ts,Gm.gs,hS];rfl
theorem tx(g:Gm):g.sz=1+(g.gs.map Gm.sz).sum:=by
 have hS:∀l:List Gm,oN l=(l.map Gm.sz).sum:=by
  intro l;induction l with
  |nil=>rfl
  |cons x l bo=>simp[oN,bo]
 cases g;simp only[Gm.sz,Gm.gs,hS]
abbrev Kf:List (Int×ae):=vh 6 (.int .i64 2) (vh 5 (.int .i64 1) (vh 4 (.int .i64 1) (vh 3 (.int .i64 2) (vh 2 (.int .i64 2) []))))
theorem r1(f:aC->aT (List ae))(m:aC)(k:Int)(hm:f m=some (lP Kf)):o2 f .i (.int .i64 0) false (.gmap m) (.int .i64 k)=some (True,.int .i64 (lp k)):=by
 rw[qE _ _ _ _ false k hm];by_cases J:k=2
 ·subst J;rfl
 by_cases ao:k=3
 ·subst ao;rfl
 by_cases aO:k=4
 ·subst aO;rfl
 by_cases bp:k=5
 ·subst bp;rfl
 by_cases cj:k=6
 ·subst cj;rfl
 have:wW k Kf=none:=by have e:Kf=[(2,.int .i64 2),(3,.int .i64 2),(4,.int .i64 1),(5,.int .i64 1),(6,.int .i64 2)]:=rfl;rw[e];simp[wW,J,ao,aO,bp,cj]
 rw[this];simp[lp,J,ao,aO,bp,cj]
theorem Z8(k:Int):k=0\/k=1\/k=2\/k=3\/k=4\/k=5\/k=6\/k=7\/k=8\/k=9\/k=10\/(k<0\/10<k):=Ω
theorem Sx{α:Type}{l:List α}(h:l.length=2):∃x y,l=[x,y]:=by
 match l,h with
 |[x,y],_=>exact⟨x,y,rfl⟩
theorem Xz(g:Gm){room:Int}(h:room<1):b6 aQ 117 [g.e,.int .i64 room] (.int .i64 (-1)):=by refine bQ lV rl r5 fun aN=>?_;unfold qp;clear aN;exact cw
theorem XE(g:Gm){room:Int}(h:¬room<1)(aD:g.ts.all aX.fits=false):b6 aQ 117 [g.e,.int .i64 room] (.int .i64 (-1)):=by have cx:=tE g.ts;rw[aD]at cx;refine bQ lV rl r5 fun aN=>?_;unfold qp;clear aN;exact cw
theorem Xx(g:Gm){room:Int}(h:¬room<1)(aD:g.ts.all aX.fits=true)(aa:0<=g.kind/\g.kind<=6):b6 aQ 117 [g.e,.int .i64 room] (.int .i64 (if g.shape then 1 else-1)):=by
 have cx:=tE g.ts;rw[aD]at cx;generalize bu:(if g.shape then(1:Int)else-1)=R;rw[oA,aD,if_pos aa,Bool.true_and]at bu;have oS:g.kind=0\/g.kind=1\/g.kind=2\/g.kind=3\/g.kind=4\/g.kind=5\/g.kind=6:=Ω
 have ah:∀l:List Gm,((l.length:Int) !=0)= !l.isEmpty:=fun l=>by simp only[bne,Ew]
 clear aa aD;rcases oS with aa|aa|aa|aa|aa|aa|aa;all_goals
  rw[aa]at bu
  simp[lp]at bu
  refine bQ lV rl r5 fun aN=>?_;unfold qp
  clear aN
  simp
  simp[aa]
  ((with_reducible repeat' first|refine aA ?_|refine a8 cx ?_|refine ba cx ?_|simp[h,aa,r1,lp,ah,-qE]|((first|apply dG|apply dJ|apply dI)<;>intro h<;>try simp at h))<;>(try exact ev))
  all_goals try(simp[cg,tl,a1,be,aV];simp_all;done)
  all_goals
   obtain⟨x,y,e⟩:∃x y,g.ts=[x,y]:=Sx Ω
   simp only[e]at bu⊢
   simp
   ((with_reducible repeat' first|refine aA ?_|simp|((first|apply dG|apply dJ|apply dI)<;>intro h<;>try simp at h))<;>(try exact ev))
   all_goals(simp[cg,tl,a1,be,aV];simp_all;done)
theorem Xw(g:Gm){room:Int}(h:¬room<1)(aD:g.ts.all aX.fits=true)(aa:g.kind=9):b6 aQ 117 [g.e,.int .i64 room] (.int .i64 (if g.shape then 1 else-1)):=by
 have cx:=tE g.ts;rw[aD]at cx;have vV:=Kw g.name;generalize bu:(if g.shape then(1:Int)else-1)=R;have he:g.shape=(gL g.name&&g.gs.isEmpty&&decide (g.ts.length<=4)):=by rw[oA,aD,aa];rfl
 rw[he]at bu;clear he;have ah:∀l:List Gm,((l.length:Int) !=0)= !l.isEmpty:=fun l=>by simp only[bne,Ew]
 have aE:decide ((4:Int)<g.ts.length)= !decide (g.ts.length<=4):=by
  by_cases h:g.ts.length<=4
  ·rw[nM h];simp;omega
  ·rw[decide_eq_false h];simp;omega
 cases az:gL g.name;all_goals
  rw[az]at vV bu
  refine bQ lV rl r5 fun aN=>?_;unfold qp
  clear aN
  simp
  simp[aa]
  ((with_reducible repeat' first|refine aA ?_|refine a8 cx ?_|refine ba cx ?_|refine a8 vV ?_|refine ba vV ?_|simp[h,aa,r1,lp,ah,-qE]|((first|apply dG|apply dJ|apply dI)<;>intro h<;>try simp at h))<;>(try exact ev))
  all_goals(simp[cg,tl,a1,be,aV];simp_all)
  all_goals omega
theorem XD(g:Gm){room:Int}(h:¬room<1)(aa:g.kind<0\/10<g.kind):b6 aQ 117 [g.e,.int .i64 room] (.int .i64 (-1)):=by
 have cx:=tE g.ts;have e:∀n:Int,0<=n->n<=10->(g.kind==n)=false:=fun n I J=>jm.2 Ω;have pw:=e 0 Ω Ω;have aj:=e 1 Ω Ω;have aJ:=e 2 Ω Ω;have bs:=e 3 Ω Ω;have ch:=e 4 Ω Ω;have fa:=e 5 Ω Ω;have dd:=e 6 Ω Ω;have l9:=e 7 Ω Ω;have n4:=e 8 Ω Ω;have yE:=e 9 Ω Ω;have UQ:=e 10 Ω Ω;clear e aa;cases aD:g.ts.all aX.fits;all_goals
  rw[aD]at cx
  refine bQ lV rl r5 fun aN=>?_;unfold qp
  clear aN
  simp
  (with_reducible repeat' first|refine aA ?_|refine a8 cx ?_|refine ba cx ?_|simp[h,r1,pw,aj,aJ,bs,ch,fa,dd,l9,n4,yE,UQ,-qE])
  simp[cg,tl,a1,be,aV]
set_option maxRecDepth 8000 in
theorem XA(g:Gm){room:Int}(h:¬room<1)(aD:g.ts.all aX.fits=true)(aa:g.kind=7\/g.kind=8\/g.kind=10)(aK:g.name.isEmpty=false):b6 aQ 117 [g.e,.int .i64 room] (.int .i64 (-1)):=by
 have cx:=tE g.ts;rw[aD]at cx;rcases aa with aa|aa|aa;all_goals
  refine bQ lV rl r5 fun aN=>?_;unfold qp
  clear aN
  simp
  (with_reducible repeat' first|refine aA ?_|refine a8 cx ?_|refine ba cx ?_|simp[h,r1,aa,aK,-qE])
  simp[cg,tl,a1,be,aV]
set_option maxRecDepth 8000 in
theorem XF(g:Gm){room:Int}(h:¬room<1)(aD:g.ts.all aX.fits=true)(aa:g.kind=7\/g.kind=8\/g.kind=10)(aK:g.name.isEmpty=true)(J:¬g.ts.length=0):b6 aQ 117 [g.e,.int .i64 room] (.int .i64 (-1)):=by
 have cx:=tE g.ts;rw[aD]at cx;have ao:((g.ts.length:Int) !=0)=true:=by simpa using J
 rcases aa with aa|aa|aa;all_goals
  refine bQ lV rl r5 fun aN=>?_;unfold qp
  clear aN
  simp
  (with_reducible repeat' first|refine aA ?_|refine a8 cx ?_|refine ba cx ?_|simp[h,r1,aa,aK,ao,-qE])
  simp[cg,tl,a1,be,aV]
set_option maxRecDepth 8000 in
theorem Xy(g:Gm){room:Int}(h:¬room<1)(aD:g.ts.all aX.fits=true)(aa:g.kind=7\/g.kind=8)(aK:g.name.isEmpty=true)(J:g.ts.length=0)(aO:¬g.gs.length<=8):b6 aQ 117 [g.e,.int .i64 room] (.int .i64 (-1)):=by
 have cx:=tE g.ts;rw[aD]at cx;have bp:(8:Int)<g.gs.length:=Ω
 rcases aa with aa|aa;all_goals
  refine bQ lV rl r5 fun aN=>?_;unfold qp
  clear aN
  simp
  (with_reducible repeat' first|refine aA ?_|refine a8 cx ?_|refine ba cx ?_|simp[h,r1,aa,aK,J,bp,-qE])
  simp[cg,tl,a1,be,aV]
set_option maxRecDepth 8000 in
theorem XB(g:Gm){room:Int}(h:¬room<1)(aD:g.ts.all aX.fits=true)(aa:g.kind=10)(aK:g.name.isEmpty=true)(J:g.ts.length=0)(aO:¬g.gs.length=1):b6 aQ 117 [g.e,.int .i64 room] (.int .i64 (-1)):=by
 have cx:=tE g.ts;rw[aD]at cx;have bp:((g.gs.length:Int) !=1)=true:=by simp;omega
 refine bQ lV rl r5 fun aN=>?_;unfold qp;clear aN;simp;(with_reducible repeat' first|refine aA ?_|refine a8 cx ?_|refine ba cx ?_|simp[h,r1,aa,aK,J,bp,-qE]);simp[cg,tl,a1,be,aV]
set_option maxRecDepth 8000 in
theorem XC(g:Gm){room:Int}(h:¬room<1)(aD:g.ts.all aX.fits=true)(aa:g.kind=10)(aK:g.name.isEmpty=true)(J:g.ts.length=0){x:Gm}(aO:g.gs=[x])(bp:¬x.kind=9):b6 aQ 117 [g.e,.int .i64 room] (.int .i64 (-1)):=by
 have cx:=tE g.ts;rw[aD]at cx;have cj:(x.kind !=9)=true:=by simpa using bp
 refine bQ lV rl r5 fun aN=>?_;unfold qp;clear aN;simp;(with_reducible repeat' first|refine aA ?_|refine a8 cx ?_|refine ba cx ?_|simp[h,r1,aa,aK,J,aO,cj,-qE]);simp[cg,tl,a1,be,aV]
theorem Ke{l:List Gm}{i:Nat}{x:Gm}(h:l[i]? =some x):((l.take (i+1)).map Gm.sz).sum=((l.take i).map Gm.sz).sum+x.sz:=by rw[k3,h];simp
theorem Kc{l:List Gm}(i:Nat):((l.take i).map Gm.sz).sum<=(l.map Gm.sz).sum:=by
 conv=>rhs;rw[<-q3 i l]
 rw[List.map_append,List.sum_append];omega
def l2(g:Gm)(room:Int)(i:Nat)(n:Int):aS:=⟨[(1,.int .i64 room),(6,.int .i64 n),(124,.slice 4 .no (g.gs.map Gm.e)),(125,.int .i64 g.gs.length),(126,.int .i64 i)],[],[],0,[]⟩
def yo(g:Gm)(room:Int)(i:Nat)(n:Int):Prop:=n=1+(((g.gs.take i).map Gm.sz).sum:Nat)/\oj Gm.shape g.gs i ()/\n<=room
set_option maxRecDepth 8000 in
theorem NZ(g:Gm){room:Int}(h:¬room<1)(hr:room<=1000)(aD:g.ts.all aX.fits=true)(aa:g.kind=7\/g.kind=8\/g.kind=10)(aK:g.name.isEmpty=true)(J:g.ts.length=0)(aO:g.kind≠10->g.gs.length<=8)(bp:g.kind=10->∃x,g.gs=[x]/\x.kind=9)
  (gx:g.shape=g.gs.all Gm.shape) (bo:∀x∈g.gs,∀r:Int,-1000<=r/\r<=1000->b6 aQ 117 [x.e,.int .i64 r] (.int .i64 (iS x r))):b6 aQ 117 [g.e,.int .i64 room] (.int .i64 (iS g room)):=by
 have cx:=tE g.ts;rw[aD]at cx;have YA:g.gs.length<=1000:=by
  rcases aa with aa|aa|aa
  ·have:=aO Ω;omega
  ·have:=aO Ω;omega
  ·obtain⟨x,af,_⟩:=bp aa;rw[af];simp
 have eu:g.kind≠10->¬(8:Int)<g.gs.length:=fun e=>by have:=aO e;omega
 rcases aa with aa|aa|aa;all_goals
  refine bQ lV rl r5 fun aN=>?_;unfold qp
  clear aN
  simp
 ·have gB:=eu Ω;clear aO bp eu;(with_reducible repeat' first|refine aA ?_|refine a8 cx ?_|refine ba cx ?_|simp[h,r1,aa,aK,J,gB,-qE]);refine gu (l2 g room) g.gs.length (yo g room) 1 (by simp[l2];exact dw) ⟨Ψ,fun k b aa=>Ω,Ω⟩ (fun n aw _=>?_) (fun i n az aw _=>?_)
  ·obtain⟨ml,kU,xI⟩:=aw;rw[j4]at ml;have:iS g room=n:=by rw[xP (by rw[gx];exact kU.fin) (by rw[tx];omega),tx];omega
   rw[this];clear ml kU bo gx this;simp[l2];exact cw
  ·obtain⟨y,bA,ho⟩:=hj az;obtain⟨ml,kU,xI⟩:=aw;have rS:=Ke bA;have vU:=Kc (l:=g.gs) (i+1);have b1:aY ((i:Int)+1):=by unfold aY;omega
   have Bx:aY (room-n):=by unfold aY;omega
   have ky:=bo y (fJ bA) (room-n) Ω;by_cases jE:y.shape=true/\(y.sz:Int)<=room-n
   ·rw[xP jE.1 jE.2]at ky;have Bp:aY (n+y.sz):=by unfold aY;omega
    have bS:¬(y.sz:Int)<0:=Ω
    have jB:yo g room (i+1) (n+y.sz):=⟨by rw[rS];omega,kU.step bA jE.1,Ω⟩;clear ml kU bo gx rS vU bA;simp[l2,az,ho];(with_reducible repeat' first|refine aA ?_|refine a8 ky ?_|refine ba ky ?_|simp[az,ho,b1,Bx,Bp,bS]);refine b9.rng (n+y.sz) az jB (by simp[l2];exact dw)
   ·have de:iS y (room-n)= -1:=bq jE;rw[de]at ky;have:iS g room= -1:=by
     unfold iS;rw[bq];rintro⟨g1,g2⟩;refine jE ⟨?_,?_⟩
     ·rw[gx,jy]at g1;exact g1 y (fJ bA)
     ·rw[tx]at g2;omega
    rw[this];clear ml kU bo gx rS vU bA jE de this;simp[l2,az,ho];exact cw
 ·have gB:=eu Ω;clear aO bp eu;(with_reducible repeat' first|refine aA ?_|refine a8 cx ?_|refine ba cx ?_|simp[h,r1,aa,aK,J,gB,-qE]);refine gu (l2 g room) g.gs.length (yo g room) 1 (by simp[l2];exact dw) ⟨Ψ,fun k b aa=>Ω,Ω⟩ (fun n aw _=>?_) (fun i n az aw _=>?_)
  ·obtain⟨ml,kU,xI⟩:=aw;rw[j4]at ml;have:iS g room=n:=by rw[xP (by rw[gx];exact kU.fin) (by rw[tx];omega),tx];omega
   rw[this];clear ml kU bo gx this;simp[l2];exact cw
  ·obtain⟨y,bA,ho⟩:=hj az;obtain⟨ml,kU,xI⟩:=aw;have rS:=Ke bA;have vU:=Kc (l:=g.gs) (i+1);have b1:aY ((i:Int)+1):=by unfold aY;omega
   have Bx:aY (room-n):=by unfold aY;omega
   have ky:=bo y (fJ bA) (room-n) Ω;by_cases jE:y.shape=true/\(y.sz:Int)<=room-n
   ·rw[xP jE.1 jE.2]at ky;have Bp:aY (n+y.sz):=by unfold aY;omega
    have bS:¬(y.sz:Int)<0:=Ω
    have jB:yo g room (i+1) (n+y.sz):=⟨by rw[rS];omega,kU.step bA jE.1,Ω⟩;clear ml kU bo gx rS vU bA;simp[l2,az,ho];(with_reducible repeat' first|refine aA ?_|refine a8 ky ?_|refine ba ky ?_|simp[az,ho,b1,Bx,Bp,bS]);refine b9.rng (n+y.sz) az jB (by simp[l2];exact dw)
   ·have de:iS y (room-n)= -1:=bq jE;rw[de]at ky;have:iS g room= -1:=by
     unfold iS;rw[bq];rintro⟨g1,g2⟩;refine jE ⟨?_,?_⟩
     ·rw[gx,jy]at g1;exact g1 y (fJ bA)
     ·rw[tx]at g2;omega
    rw[this];clear ml kU bo gx rS vU bA jE de this;simp[l2,az,ho];exact cw
 ·obtain⟨x,af,Zz⟩:=bp aa;clear aO bp eu;(with_reducible repeat' first|refine aA ?_|refine a8 cx ?_|refine ba cx ?_|simp[h,r1,aa,aK,J,af,Zz,-qE]);refine gu (l2 g room) g.gs.length (yo g room) 1 (by simp[l2];exact⟨by simp[fresh,kinL,kin,bt,au,Pv.look,af],cR (by simp[fresh,kinL,kin,bt,au,Pv.look,af]),cS (by simp[fresh,kinL,kin,cB,au,Pv.look,af]),Ψ⟩) ⟨Ψ,fun k b aa=>Ω,Ω⟩ (fun n aw _=>?_) (fun i n az aw _=>?_)
  ·obtain⟨ml,kU,xI⟩:=aw;rw[j4]at ml;have:iS g room=n:=by rw[xP (by rw[gx];exact kU.fin) (by rw[tx];omega),tx];omega
   rw[this];clear ml kU bo gx this;simp[l2];exact cw
  ·obtain⟨y,bA,ho⟩:=hj az;obtain⟨ml,kU,xI⟩:=aw;have rS:=Ke bA;have vU:=Kc (l:=g.gs) (i+1);have b1:aY ((i:Int)+1):=by unfold aY;omega
   have Bx:aY (room-n):=by unfold aY;omega
   have ky:=bo y (fJ bA) (room-n) Ω;by_cases jE:y.shape=true/\(y.sz:Int)<=room-n
   ·rw[xP jE.1 jE.2]at ky;have Bp:aY (n+y.sz):=by unfold aY;omega
    have bS:¬(y.sz:Int)<0:=Ω
    have jB:yo g room (i+1) (n+y.sz):=⟨by rw[rS];omega,kU.step bA jE.1,Ω⟩;clear ml kU bo gx rS vU bA;simp[l2,az,ho];(with_reducible repeat' first|refine aA ?_|refine a8 ky ?_|refine ba ky ?_|simp[az,ho,b1,Bx,Bp,bS]);refine b9.rng (n+y.sz) az jB (by simp[l2];exact dw)
   ·have de:iS y (room-n)= -1:=bq jE;rw[de]at ky;have:iS g room= -1:=by
     unfold iS;rw[bq];rintro⟨g1,g2⟩;refine jE ⟨?_,?_⟩
     ·rw[gx,jy]at g1;exact g1 y (fJ bA)
     ·rw[tx]at g2;omega
    rw[this];clear ml kU bo gx rS vU bA jE de this;simp[l2,az,ho];exact cw
theorem ad4:∀(n:Nat) (g:Gm),g.sz<=n->∀room:Int,-1000<=room/\room<=1000->b6 aQ 117 [g.e,.int .i64 room] (.int .i64 (iS g room)):=by
 intro n;induction n with
 |zero=>intro g aR;have:=g.sz_pos;omega
 |succ n bo=>
 intro g aR room hr;by_cases h:room<1
 ·rw[aaO (by have:=g.sz_pos;omega)];exact Xz g h
 cases aD:g.ts.all aX.fits
 ·rw[wb (by rw[oA,aD];rfl)];exact XE g h aD
 have leaf:∀aq:g.gs=[]\/g.shape=false,iS g room=if g.shape then 1 else-1:=by
  intro aq;cases gx:g.shape
  ·rw[wb gx];rfl
  ·rw[gx]at aq;have aq:g.gs=[]:=by simpa using aq
   have I:g.sz=1:=by rw[tx,aq];rfl
   rw[xP gx Ω,I];rfl
 rcases Z8 g.kind with aa|aa|aa|aa|aa|aa|aa|aa|aa|aa|aa|aa;case inr.inr.inr.inr.inr.inr.inr.inr.inr.inr.inr=>rw[wb (by rw[oA,bq Ω,bq Ω,bq Ω,bq Ω,Bool.and_false])];exact XD g h aa
 case inr.inr.inr.inr.inr.inr.inr.inr.inr.inl=>
  rw[leaf ?_]
  ·exact Xw g h aD aa
  ·by_cases aq:g.gs=[]
   ·exact .inl aq
   ·right;rw[oA,aD,aa];have:g.gs.isEmpty=false:=by simpa using aq
    simp[this]
 case inr.inr.inr.inr.inr.inr.inr.inl|inr.inr.inr.inr.inr.inr.inr.inr.inl|inr.inr.inr.inr.inr.inr.inr.inr.inr.inr.inl=>
  have gw:g.kind=7\/g.kind=8\/g.kind=10:=Ω
  have gE:=oA g;rw[aD,Bool.true_and,bq Ω,bq Ω]at gE;cases aK:g.name.isEmpty
  ·have gK:(g.name==[])=false:=by simpa using aK
   rw[wb (by rw[gE,gK];simp)];exact XA g h aD gw aK
  have gK:(g.name==[])=true:=by simpa using aK
  by_cases J:g.ts.length=0;rotate_left
  ·have ua:g.ts.isEmpty=false:=by simpa using J
   rw[wb (by rw[gE,ua];simp)];exact XF g h aD gw aK J
  have ua:g.ts.isEmpty=true:=by simpa using J
  rw[gK,ua,Bool.true_and]at gE;have zd:∀x∈g.gs,∀r:Int,-1000<=r/\r<=1000->b6 aQ 117 [x.e,.int .i64 r] (.int .i64 (iS x r)):=fun x af r hr=>bo x (by have:=g.gs_lt af;omega) r hr;by_cases fC:g.kind=10
  ·rw[bq Ω,if_pos fC,Bool.true_and]at gE;by_cases aO:g.gs.length=1
   ·obtain⟨x,af⟩:=List.length_eq_one_iff.1 aO;by_cases e6:x.kind=9
    ·exact NZ g h hr.2 aD gw aK J (fun e=>absurd fC e) (fun _=>⟨x,af,e6⟩) (by rw[gE,af];simp[e6]) zd
    ·rw[wb (by rw[gE,af];simp[e6])];exact XC g h aD fC aK J af e6
   ·rw[wb (by
     rw[gE];match aR:g.gs with
     |[]=>rfl
     |[x]=>rw[aR]at aO;simp at aO
     |x::y::l=>rfl)]
    exact XB g h aD fC aK J aO
  ·have xj:g.kind=7\/g.kind=8:=Ω
   rw[if_pos xj,Bool.true_and]at gE;by_cases aO:g.gs.length<=8
   ·exact NZ g h hr.2 aD gw aK J (fun _=>aO) (fun e=>absurd e fC) (by rw[gE,nM aO];rfl) zd
   ·rw[wb (by rw[gE,decide_eq_false aO];rfl)];exact Xy g h aD xj aK J aO
 all_goals
  rw[leaf ?_]
  ·exact Xx g h aD Ω
  ·by_cases aq:g.gs=[]
   ·exact .inl aq
   ·right;rw[oA,aD,aa]
    have:g.gs.isEmpty=false:=by simpa using aq
    simp[this]
theorem SK(t:T):b6 aQ 77 [t.e] (.bool t.fit):=by have:=SJ t.tm;rwa[tX,aX.fits_T]at this
theorem SR(a b:T):b6 aQ 206 [a.e,b.e] (T.pair a b).e:=by refine bQ p4 Dv EV fun aN=>?_;unfold AF;simp;(with_reducible repeat' first|((first|refine dG (fun h=>?_) fun h=>?_|refine dJ (fun h=>?_) fun h=>?_|refine dI (fun h=>?_) fun h=>?_)<;>try simp at h)|refine aA ?_|simp);all_goals try simp[cg,Ra,a1,be,aV]
theorem aeb(a b:T):b6 aQ 141 [a.e,b.e] (T.pair a b).e:=by refine bQ p4 WE abH fun aN=>?_;unfold L7;simp;(with_reducible repeat' first|((first|refine dG (fun h=>?_) fun h=>?_|refine dJ (fun h=>?_) fun h=>?_|refine dI (fun h=>?_) fun h=>?_)<;>try simp at h)|refine aA ?_|simp);all_goals try simp[cg,Rp,a1,be,aV]
def P8(l:List (Int×T)):List ae:=lP (l.map fun x=>(x.1,x.2.e))
@[simp]theorem ahK:P8 []=lP []:=rfl
@[simp]theorem ah8(l:List (Int×T)):gn (P8 l)=false:=rfl
end
end Go.Proofs.YtlnndmgfngfeiaaGreatDoor
namespace Go.Proofs
section
open Go.Shelf
def Tryz.lays191_ren:Go.Shelf.Ren:=⟨fun|191=>213|189=>254|125=>202|257=>272|128=>240|129=>241|294=>284|295=>285|296=>286|297=>287|298=>288|299=>289|216=>290|300=>291|301=>292|328=>298|329=>299|330=>300|331=>301|332=>302|215=>303|343=>306|n=>n,fun|28=>136|0=>0|3=>3|46=>209|51=>265|53=>267|4=>4|183=>309|182=>308|131=>214|5=>5|9=>9|218=>319|222=>292|228=>328|229=>305|n=>n,fun|n=>n⟩
theorem Tryz.lays191:Go.Proofs.Lays.n191 aQ Tryz.lays191_ren:={
 mixed:=by kernel_rfl
 f125:=Tryz.func202.trans (er some (by kernel_rfl))
 f128:=Tryz.func240.trans (er some (by kernel_rfl))
 f129:=Tryz.func241.trans (er some (by kernel_rfl))
 f189:=Tryz.func254.trans (er some (by kernel_rfl))
 f191:=Tryz.func213.trans (er some (by kernel_rfl))
 f215:=Tryz.func303.trans (er some (by kernel_rfl))
 f216:=Tryz.func290.trans (er some (by kernel_rfl))
 f257:=Tryz.func272.trans (er some (by kernel_rfl))
 f294:=Tryz.func284.trans (er some (by kernel_rfl))
 f295:=Tryz.func285.trans (er some (by kernel_rfl))
 f296:=Tryz.func286.trans (er some (by kernel_rfl))
 f297:=Tryz.func287.trans (er some (by kernel_rfl))
 f298:=Tryz.func288.trans (er some (by kernel_rfl))
 f299:=Tryz.func289.trans (er some (by kernel_rfl))
 f300:=Tryz.func291.trans (er some (by kernel_rfl))
 f301:=Tryz.func292.trans (er some (by kernel_rfl))
 f328:=Tryz.func298.trans (er some (by kernel_rfl))
 f329:=Tryz.func299.trans (er some (by kernel_rfl))
 f330:=Tryz.func300.trans (er some (by kernel_rfl))
 f331:=Tryz.func301.trans (er some (by kernel_rfl))
 f332:=Tryz.func302.trans (er some (by kernel_rfl))
 f343:=Tryz.func306.trans (er some (by kernel_rfl))
 t0:=Tryz.underlying0
 a0:=Tryz.isAgg0
 z0:=Tryz.sizeOf0
 v0:=Tryz.zeroValue0
 t3:=Tryz.underlying3
 a3:=Tryz.isAgg3
 z3:=Tryz.sizeOf3
 v3:=Tryz.zeroValue3
 t4:=Tryz.underlying4
 a4:=Tryz.isAgg4
 z4:=Tryz.sizeOf4
 v4:=Tryz.zeroValue4
 t5:=Tryz.underlying5
 a5:=Tryz.isAgg5
 z5:=Tryz.sizeOf5
 v5:=Tryz.zeroValue5
 t9:=Tryz.underlying9
 a9:=Tryz.isAgg9
 z9:=Tryz.sizeOf9
 v9:=Tryz.zeroValue9
 t28:=Tryz.underlying136
 a28:=Tryz.isAgg136
 z28:=Tryz.sizeOf136
 v28:=Tryz.zeroValue136
 t46:=Tryz.underlying209
 a46:=Tryz.isAgg209
 z46:=Tryz.sizeOf209
 v46:=Tryz.zeroValue209
 t51:=Tryz.underlying265
 a51:=Tryz.isAgg265
 z51:=Tryz.sizeOf265
 v51:=Tryz.zeroValue265
 t53:=Tryz.underlying267
 a53:=Tryz.isAgg267
 z53:=Tryz.sizeOf267
 v53:=Tryz.zeroValue267
 t131:=Tryz.underlying214
 a131:=Tryz.isAgg214
 z131:=Tryz.sizeOf214
 v131:=Tryz.zeroValue214
 t182:=Tryz.underlying308
 a182:=Tryz.isAgg308
 z182:=Tryz.sizeOf308
 v182:=Tryz.zeroValue308
 t183:=Tryz.underlying309
 a183:=Tryz.isAgg309
 z183:=Tryz.sizeOf309
 v183:=Tryz.zeroValue309
 t218:=Tryz.underlying319
 a218:=Tryz.isAgg319
 z218:=Tryz.sizeOf319
 v218:=Tryz.zeroValue319
 t222:=Tryz.underlying292
 a222:=Tryz.isAgg292
 z222:=Tryz.sizeOf292
 v222:=Tryz.zeroValue292
 t228:=Tryz.underlying328
 a228:=Tryz.isAgg328
 z228:=Tryz.sizeOf328
 v228:=Tryz.zeroValue328
 t229:=Tryz.underlying305
 a229:=Tryz.isAgg305
 z229:=Tryz.sizeOf305
 v229:=Tryz.zeroValue305}
end
end Go.Proofs

namespace Go.Proofs.YtlnndmgfngfeiaaGreatDoor
section
open Go Go.Pv
def en(xs:List Int):List ae:=xs.map (ae.int .i64)
theorem RB{w:World}{ν:aP}:∀{xs:List Int} {us:List Value},cC w ν 1 (en xs) us->us=xs.map (nK .i64)
 |[],us,h=>by simpa[en,cC]using h
 |x::xs,us,h=>by simp only[en,gY,cC]at h;obtain⟨u,br,rfl,⟨I,_,_⟩,J⟩:=h;simp only[aH]at I;subst I;rw[RB J];rfl
theorem Pe(w:World)(ν:aP):∀xs:List Int,cC w ν 1 (en xs) (xs.map (nK .i64))
 |[]=>by simp[en,cC]
 |x::xs=>by simp only[en,gY,cC];exact⟨.int .i64 x,_,rfl,⟨by simp[aH],rfl,by intro c aE;simp[oF]at aE;subst aE;rfl⟩,Pe w ν xs⟩
def mC(K:Nat)(xs:List Int):dD:=⟨[],[(.obj K,⟨xs.length,3,1,some (en xs)⟩)]⟩
theorem s9(S:aC->Prop)(xs:List Int):kinL S (en xs):=by
 induction xs with
 |nil=>simp[en,kinL]
 |cons x r bo=>simp only[en,gY,kinL,kin];exact⟨trivial,bo⟩
theorem FU(K:Nat)(xs:List Int):h8 (mC K xs):=by unfold mC;refine h8.of ⟨by intro m;simp[Pv.look],by intro m;simp[Pv.look]⟩ Ψ ?_;intro x af ys bA;simp at af;subst af;simp at bA;subst bA;exact s9 _ xs
def p2(xs:List Int):List Int:=xs.mergeSort fun x y=>decide (x<=y)
theorem J5(xs:List Int):(p2 xs).length=xs.length:=List.length_mergeSort xs
theorem Xn(K:Nat)(xs:List Int)(aG:xs.length<=1000000):b7 aQ 213 [.row 1 (.obj K) xs.length] (mC K xs) fun r ai=>r= .tuple []/\ai=mC K (p2 xs):=by
 refine b7.sem (FU K xs).obj fun w ν vs _ gj hr=>?_;refine .inl ⟨⟨Tryz.f213,Tryz.func213,by kernel_rfl,by kernel_rfl⟩,?_⟩;have pK:=hr.slot 0;simp only[h6,Pv.get,if_true]at pK;have kv:Pv.look (.obj K) (mC K xs).e=some ⟨xs.length,3,1,some (en xs)⟩:=by simp[mC,Pv.look]
 obtain⟨v,us,bR,cA,dE,dM⟩:=hr.good.own (.obj K) _ kv;obtain⟨cP,mv,tj⟩:=dM _ rfl;have lh:=RB mv;subst lh;simp only[aH]at pK;obtain⟨⟨Lk,Mi,xo⟩,_,n',u,aj,aJ,bs⟩:=pK;rw[bR]at aj;simp only[dZ,gA]at aj;obtain⟨rfl,rfl⟩:=aj;have aM:=bs rfl;have Zv:vs= #[v]:=by
  have I:vs.size=1:=by simpa using gj
  apply Array.ext (by simpa using I);intro i J ao;simp at ao;subst ao;rw[<-aM];simp[Array.getD,I]
 have b4:v≠ .slice none 0 0:=by rw[<-aM,xo];simp
 obtain⟨g,cap,rfl,_,mh,y3,agM,agN,XM⟩:=Lib.holds_of_ownsRow cA b4;have aE:=Any.sort_Ints Tryz.lays191 g 0 cap xs w XM mh Ω;subst Zv;refine aE.mono ?_;rintro e w' ⟨rfl,n,os,rfl⟩;have lK:=J5 xs;have kR:=Lib.ownsRow_putRow (q:=n) (k:=xs.length) (ys:=p2 xs) cA lK (cq _);rw[List.take_of_length_le Ω]at kR;obtain⟨hD,fN,_⟩:=hr.setRowM (w':=Sort.putRow (nK .i64) (Sort.ahead w n) g 0 (p2 xs).toArray) kv rfl bR (bl:=g) rfl (v':= .slice (some ⟨g,0,none⟩) xs.length cap) rfl (xs':=en (p2 xs)) (us:=(p2 xs).map (nK .i64)) (.inl ⟨by simp[en,lK],rfl⟩) rfl rfl rfl
  (fun j aw=>by simp[Sort.putRow,Sort.mapBlock,Sort.ahead,Array.getElem?_modify,Ne.symm aw]) (by simp[Sort.putRow,Sort.mapBlock,Sort.ahead]) (by simpa[en,lK]using kR) (Pe _ _ _)
 have o5:=hD.grown (w':=Sort.grow (Sort.putRow (nK .i64) (Sort.ahead w n) g 0 (p2 xs).toArray) os) ⟨rfl,rfl,rfl,Ψ,fun k aa _=>Sort.heap_grow_old _ _ aa⟩;refine⟨_,_,_,_,.tuple [],mC K (p2 xs),rfl,o5,by simp[aH,cc],by simp[mC,mm],?_,?_,?_,(FU K _).obj,by simp[kin,kinL],rfl,rfl⟩
 ·simp[mC,mm,au,Pv.look]
 ·intro k cs aa;simp[mC,Pv.look]at aa
 ·intro k o aa;have hm:=v8 aa;simp[mC]at hm;obtain⟨rfl,rfl⟩:=hm;refine⟨by simp[mC,Pv.look,cT,en,lK],.inr (by simp[aa]),fun ys bA=>?_⟩;simp at bA;subst bA;exact s9 _ _
def nX(l:List Int):List ae:=lP (l.map fun x=>(x,.bool true))
theorem ln(S:aC->Prop)(l:List Int):kinL S (nX l):=by
 have:∀l:List Int,kinL S (flat (l.map fun x=>(x,.bool true))):=by
  intro l;induction l with
  |nil=>simp[flat,kinL]
  |cons x r bo=>simp[flat,kinL,bo,kin]
 simp[nX,lP,kinL,this,kin]
def ql(v:Int)(l:List Int):List Int:=if v∈l then l else l++[v]
theorem Lh(k:Int):∀l:List Int,qn k (.bool true) (l.map fun x=>(x,ae.bool true))=if k∈l then some (l.map fun x=>(x,ae.bool true))else none
 |[]=>rfl
 |i::r=>by
  by_cases h:k=i
  ·simp[qn,h]
  ·by_cases J:k∈r<;>simp[qn,h,J,Lh k r]
@[simp]theorem ahP(k:Int)(l:List Int):qF .i (.int .i64 k) (.bool true) (nX l)=some (nX (ql k l)):=by
 simp only[nX,aaH,vh,Lh,ql];split<;>rename_i h
 ·split at h
  ·simp at h;subst h;simp[*]
  ·cases h
 ·split at h
  ·cases h
  ·simp[*]
@[simp]theorem afp:nX []=lP []:=rfl
@[simp]theorem ah7(l:List Int):gn (nX l)=false:=rfl
@[simp]theorem aib(m:aC)(l:List Int):Cg m (nX l)=some (bt l.length [] m):=by simp[nX]
theorem aax(f:aC->aT (List ae))(hc mk:aC)(n:Nat)(seen:List Nat)(b:Nat)(l:List Int)(x:Int)(az:f hc=some (bt n (seen++[b]) mk))(hm:f mk=some (nX l))(aK:n=l.length)(af:l[b]? =some x):te f (.ptr hc 0)=some (True,.tuple [.int .i64 x,.bool true]):=by rw[aaz f hc mk n seen b _ az hm (by simpa using aK)];simp[af]
theorem U4{st:aS}{d:Nat}{K:aS->Prop}{hc mk:aC}{n:Nat}{seen:List Nat}{l:List Int}(az:Pv.look hc st.b=some (bt n seen mk))(hm:Pv.look mk st.b=some (nX l))(aK:n=l.length)
  (I:(∀b,b<l.length->b∈seen)->K {st with t:=Pv.put d (.tuple [.bool false]) st.t}) (J:∀b x,l[b]? =some x->b∉seen->K {st with t:=Pv.put d (.tuple [.bool true,.int .i64 x,.bool true]) st.t,b:=cT hc (bt n (seen++[b]) mk) st.b}):
  xa st d (.ptr hc 0) K:=by
 refine U5 az hm (by simpa using aK) (fun h=>I fun b ah=>h b Ω) (fun b k v ah aq=>?_);simp only[List.getElem?_map,ij]at ah;obtain⟨x,aj,aJ⟩:=ah;simp only[gA]at aJ;obtain⟨rfl,rfl⟩:=aJ;exact J b x aj aq
def _root_.Go.Pv.T.fold{α:Type}(f:Int->α->α):T->α->α
 | .var n,a=>f n a
 | .pair x y,a=>y.fold f (x.fold f a)
 |_,a=>a
theorem W9{α:Type}(S:α->dD)(gC:∀a,h8 (S a))(gi:∀a b,Same (S a) (S b))(g:Nat)(ds:List ae)(aE:∀a,kinL (au (S a)) ds)(eI:bz ds=ds)(f:Int->α->α)(aL:∀v a,b7 aQ g (.int .i64 v::ds) (S a) fun r ai=>r= .tuple []/\ai=S (f v a))(t:T):
  ∀a,b7 aQ 79 [t.e,.func g ds] (S a) fun r ai=>r= .tuple []/\ai=S (t.fold f a):=by
 have aK:∀a m,Pv.look (.loc m) (S a).b=none:=fun a=>(gC a).obj.1;have hu:∀a m cs,cT (.loc m) cs (S a).b=(S a).b++[(.loc m,cs)]:=fun a m cs=>SE (aK a m);have ak:∀a m,aC.loc m∉ec (S a):=fun a=>aap (gC a).obj;induction t with
 |pair x y ZH ZI=>intro a;have aq:=gC a;refine b7.mk mixed p4 G3 Jl Ψ aq.obj fun aN b3=>?_;unfold C0;simp[hu,ak,rY,aK,eI];(with_reducible repeat' first|refine aA ?_|simp[hu,ak,rY,aK]);refine CallDo.ob (ZH a) aq aB aB (by simp[aE]) ?_;rintro r ai ⟨rfl,rfl⟩;refine⟨gi _ _,?_⟩;simp[wO,CN,bg,aK];(with_reducible repeat' first|refine aA ?_|simp[hu,ak,rY,aK]);rw[eI];refine CallDo.ob (ZI (x.fold f a)) (gC (x.fold f a)) aB aB (by simp[aE]) ?_;rintro r ai ⟨rfl,rfl⟩;refine⟨gi _ _,?_⟩;simp[wO,CN,bg,aK];refine cW.at (S (y.fold f (x.fold f a))) (.inr rfl) (gC _) (gi _ _) aB aB ?_;simp[du,E4,a1,be,aV];simp[T.fold]
 |var n=>intro a;have aq:=gC a;refine b7.mk mixed p4 G3 Jl Ψ aq.obj fun aN b3=>?_;unfold C0;simp[hu,ak,rY,aK,eI];(with_reducible repeat' first|refine aA ?_|simp[hu,ak,rY,aK]);refine CallDo.ob (aL n a) aq aB aB (by simp[aE]) ?_;rintro r ai ⟨rfl,rfl⟩;refine⟨gi _ _,?_⟩;simp[wO,CN,bg,aK,rY];refine cW.at (S (f n a)) (.inr rfl) (gC _) (gi _ _) aB aB ?_;simp[du,E4,a1,be,aV];simp[T.fold]
 |_=>intro a;have aq:=gC a;refine b7.mk mixed p4 G3 Jl Ψ aq.obj fun aN b3=>?_;unfold C0;simp[hu,ak,rY,aK,eI];(with_reducible repeat' first|refine aA ?_|simp[hu,ak,rY,aK]);refine cW.at (S a) (.inr rfl) aq (Same.refl _) aB aB ?_;simp[du,E4,a1,be,aV];simp[T.fold]
def fA(l:List Int):dD:=⟨[(.obj 304,nX l),(.obj 305,[.gmap (.obj 304)])],[]⟩
theorem q7(l:List Int):h8 (fA l):=by unfold fA;exact h8.of ⟨by intro m;simp[Pv.look],by intro m;simp[Pv.look]⟩ (by simp[ln,kinL,kin,au,Pv.look]) Ψ
theorem vf(l c6:List Int):Same (fA l) (fA c6):=by refine⟨fun k=>?_,fun k=>rfl⟩;simp only[fA,Pv.look];split<;>rfl
def tJ(l:List Int):dD:=⟨[(.obj 304,nX l)],[]⟩
theorem K6(l:List Int):h8 (tJ l):=by unfold tJ;exact h8.of ⟨by intro m;simp[Pv.look],by intro m;simp[Pv.look]⟩ (by simp[ln,kinL,kin,au,Pv.look]) Ψ
theorem adl{a b:List Int}(h:a.Perm b):p2 a=p2 b:=by
 have aD:∀a b c:Int,(decide (a<=b))=true->(decide (b<=c))=true->(decide (a<=c))=true:=by intro a b c;simp;omega
 have BE:∀a b:Int,(decide (a<=b)||decide (b<=a))=true:=by intro a b;simp;omega
 have I:=List.pairwise_mergeSort aD BE a;have J:=List.pairwise_mergeSort aD BE b;refine ai5 (le:=fun x y:Int=>(decide (x<=y))=true) (fun x y _ _ I J=>by simp at I J;omega) I J ?_;exact(List.mergeSort_perm a _).trans (h.trans (List.mergeSort_perm b _).symm)
def ZQ(l:List Int)(k:Nat)(st:aS):Prop:=∃(seen:List Nat) (xs:List Int),seen.Nodup/\(∀b∈seen,b<l.length)/\k=l.length-seen.length/\xs=seen.filterMap (fun b=>l[b]?)/\xs.length=seen.length/\st=⟨[(3,.row 1 (.obj 306) xs.length),(7,.ptr (.loc 0) 0)],[(.obj 304,nX l),(.loc 0,bt l.length seen (.obj 304))],[(.obj 306,⟨xs.length,3,1,some (en xs)⟩)],1,[.obj 306,.obj 304]⟩
@[simp]theorem ag8(xs:List Int):(en xs).length=xs.length:=by simp[en]
@[simp]theorem aiP(xs:List Int):bz (en xs)=en xs:=by
 induction xs with
 |nil=>rfl
 |cons x r bo=>simp only[en,gY,bz,bC]at bo⊢;rw[bo]
@[simp]theorem ag9:en []=[]:=rfl
theorem ZN(xs:List Int)(x:Int):en xs++[ae.int .i64 x]=en (xs++[x]):=by simp[en]
theorem Xo(l:List Int)(aG:l.length<=1000000):b7 aQ 160 [.gmap (.obj 304)] (tJ l) fun r ai=>r= .slice 1 .no (en (p2 l))/\ai=tJ l:=by
 have aq:=K6 l;unfold tJ at aq⊢;refine b7.mk mixed p4 Wg abi Ψ aq.obj fun aN b3=>?_;unfold LI;simp;refine Dp (ZQ l) l.length _ ⟨by simp[fresh,kinL,kin,bt,au,Pv.look,ln,s9],cR (by simp[fresh,kinL,kin,bt,au,Pv.look,ln,s9]),cS (by simp[fresh,kinL,kin,cB,au,Pv.look,ln,s9]),Ψ⟩ ⟨[],[],Ψ,Ψ,Ψ,Ψ,Ψ,rfl⟩ ?_;rintro k st ⟨seen,xs,aF,bS,aa,eQ,oi,rfl⟩ Og b3;clear Og b3;have hle:=R3 aF bS;simp;refine U4 (mk:= .obj 304) (seen:=seen) (l:=l) Ψ Ψ rfl (fun k9=>?_) (fun b x af ah=>?_)
 ·simp;have ON:=ac7 aF bS k9;rw[<-eQ]at ON;refine CallDo.ob (Xn 306 xs Ω) (FU 306 xs) (by unfold mC;exact aB) (by unfold mC;exact aB) (by simp[mC,au,Pv.look]) ?_;rintro r ai ⟨rfl,rfl⟩;refine⟨⟨fun _=>rfl,fun k=>by simp only[mC,Pv.look];split<;>rfl⟩,?_⟩;unfold mC;simp[bg,J5];refine cW.at _ (.inl rfl) aq (Same.refl _) aB aB ?_;simp[du,Rb,a1,be,aV];rw[adl ON];simp[kin,s9]
 ·have Y0:∀f:aC->aT (List ae),f (.loc 0)=some (bt l.length (seen++[b]) (.obj 304))->f (.obj 304)=some (nX l)->te f (.ptr (.loc 0) 0)=some (True,.tuple [.int .i64 x,.bool true]):=fun f I J=>aax f (.loc 0) (.obj 304) l.length seen b l x I J rfl af;have fl:b<l.length:=(e3.1 af).1;have lK:=ac8 aF bS fl ah;simp[Y0,ZN];refine⟨by unfold bN;omega,?_⟩;refine b9.next (l.length-(seen.length+1)) Ω ⟨seen++[b],xs++[x],aaY aF ah,(by simp;intro c aE;rcases aE with aE|rfl;exact bS c aE;exact fl),Ψ,by rw[List.filterMap_append,<-eQ];simp[af],by simp[oi],rfl⟩ ⟨by simp[fresh,kinL,kin,bt,au,Pv.look,ln,s9],cR (by simp[fresh,kinL,kin,bt,au,Pv.look,ln,s9]),cS (by simp[fresh,kinL,kin,cB,au,Pv.look,ln,s9]),Ψ⟩
@[simp]theorem ahm(S:aC->Prop)(xs:List Int):kinL S (en xs)=True:=eq_true (s9 S xs)
@[simp]theorem afU:cells .junk=[.junk]:=rfl
def hy(vs:List Int)(l:List Int):List Int:=vs.foldl (fun l v=>ql v l) l
theorem CT(a b l:List Int):hy (a++b) l=hy b (hy a l):=List.foldl_append
theorem FY(vs:List Int):∀(l:List Int) (v:Int),v∈hy vs l↔v∈l\/v∈vs:=by
 induction vs with
 |nil=>intro l v;simp[hy]
 |cons x vs bo=>
  intro l v;show v∈hy vs (ql x l)↔_;rw[bo,ql];split
  ·rename_i h;constructor
   ·rintro(cu|cu)
    ·exact .inl cu
    ·exact .inr (by simp[cu])
   ·rintro(cu|cu)
    ·exact .inl cu
    ·rcases gp.1 cu with rfl|cu
     ·exact .inl h
     ·exact .inr cu
  ·simp[or_assoc]
theorem Ld(vs:List Int):∀l:List Int,l.Nodup->(hy vs l).Nodup:=by
 induction vs with
 |nil=>intro l h;exact h
 |cons x vs bo=>
  intro l h;refine bo _ ?_;show(ql x l).Nodup;unfold ql;split
  ·exact h
  ·rename_i af;rw[qb];exact⟨h,Ψ,fun a bF b ah=>by simp at ah;subst ah;rintro rfl;exact af bF⟩
theorem WZ(t:T):∀l:List Int,t.fold ql l=hy t.tm.vs l:=by
 induction t with
 |pair a b uA uB=>
  intro l;have:(T.pair a b).tm.vs=a.tm.vs++b.tm.vs:=by simp[T.tm,aX.vs,aX.vsL]
  rw[this,CT,<-uA,<-uB];rfl
 |var n=>intro l;simp[T.tm,aX.vs,T.fold,hy]
 |_=>intro l;simp[T.tm,aX.vs,aX.vsL,T.fold,hy]
theorem S0(x:T)(h:x.ok=true):∀v∈x.tm.vs,0<=v/\v<=100000:=by
 induction x with
 |pair a b uA uB=>
  intro v aM;simp only[T.ok,bM]at h;have:(T.pair a b).tm.vs=a.tm.vs++b.tm.vs:=by simp[T.tm,aX.vs,aX.vsL]
  rw[this,hv]at aM;rcases aM with aM|aM
  ·exact uA h.1 v aM
  ·exact uB h.2 v aM
 |var n=>intro v aM;simp[T.tm,aX.vs]at aM;subst aM;simpa[T.ok]using h
 |_=>intro v aM;simp[T.tm,aX.vs,aX.vsL]at aM
theorem yg:∀l:List aX,aX.vsL l=l.flatMap aX.vs
 |[]=>rfl
 |x::l=>by simp[aX.vsL,yg l]
theorem xi:∀l:List Gm,Gm.vsL l=l.flatMap Gm.vs
 |[]=>rfl
 |x::l=>by simp[Gm.vsL,xi l]
theorem He(g:Gm):g.vs=aX.vsL g.ts++Gm.vsL g.gs:=by cases g;rfl
theorem x6{g:Gm}(h:g.shape=true):∀t∈g.ts,t.fits=true:=by rw[oA,bM]at h;exact fun t aD=>jy.1 h.1 t aD
theorem shape_gs{g:Gm}(h:g.shape=true):∀x∈g.gs,x.shape=true:=by
 rw[oA,bM]at h;obtain⟨_,h⟩:=h;intro x af;have no:g.gs.isEmpty=false:=by
  cases aR:g.gs with
  |nil=>rw[aR]at af;cases af
  |cons=>rfl
 rw[no]at h;repeat' split at h
 all_goals simp at h
 ·exact h.2 x af
 ·exact h.2 x af
theorem DI:∀(n:Nat) (g:Gm),g.sz<=n->g.shape=true->∀v∈g.vs,0<=v/\v<=100000:=by
 intro n;induction n with
 |zero=>intro g aR;have:=g.sz_pos;omega
 |succ n bo=>
  intro g aR aq v aM;rw[He,yg,xi,hv,List.mem_flatMap,List.mem_flatMap]at aM;rcases aM with⟨t,aD,aM⟩|⟨x,af,aM⟩
  ·obtain⟨x,rfl,J⟩:=aX.fits_ex (x6 aq t aD);exact S0 x (Dx J) v aM
  ·exact bo x (by have:=g.gs_lt af;omega) (shape_gs aq x af) v aM
theorem Je{l:List Int}(aK:l.Nodup)(h:∀v∈l,0<=v/\v<=100000):l.length<=100001:=by
 have I:(l.map Int.toNat).Nodup:=by refine aeT _ (fun a b n9=>?_) (ai4 (S:=fun a b=>a≠b/\(0<=a/\0<=b)) (fun bF ah n9=>⟨n9,(h _ bF).1,(h _ ah).1⟩) aK);intro e;apply n9.1;omega
 have J:=aeS I (l₂:=List.range 100001) fun x af=>by obtain⟨v,aM,rfl⟩:=lZ.1 af;have:=h v aM;simp;omega
 simpa using J
theorem Xc(v:Int)(l:List Int):b7 aQ 159 [.int .i64 v,.ptr (.obj 305) 0] (fA l) fun r ai=>r= .tuple []/\ai=fA (ql v l):=by have aq:=q7 l;have gT:=q7 (ql v l);have gi:=vf l (ql v l);unfold fA at aq gT gi⊢;refine b7.mk mixed lV Wa abc Ψ aq.obj fun aN b3=>?_;unfold LB;simp;refine cW.at _ (.inr rfl) gT gi aB aB ?_;simp[du,Q8,a1,be,aV]
theorem Xa{t:aX}(h:t.fits=true)(l:List Int):b7 aQ 79 [enc t,.func 159 [.ptr (.obj 305) 0]] (fA l) fun r ai=>r= .tuple []/\ai=fA (hy t.vs l):=by obtain⟨x,rfl,_⟩:=aX.fits_ex h;rw[tX,<-WZ];exact W9 fA q7 vf 159 [.ptr (.obj 305) 0] (by intro a;simp[au,fA,Pv.look,kinL,kin]) Ψ ql Xc x l
theorem aeB{ts:List aX}{i:Nat}{t:aX}(h:ts[i]? =some t)(l:List Int):hy (aX.vsL (ts.take (i+1))) l=hy t.vs (hy (aX.vsL (ts.take i)) l):=by rw[k3,h,yg,yg,<-CT];simp
theorem XI{gs:List Gm}{i:Nat}{g:Gm}(h:gs[i]? =some g)(l:List Int):hy (Gm.vsL (gs.take (i+1))) l=hy g.vs (hy (Gm.vsL (gs.take i)) l):=by rw[k3,h,xi,xi,<-CT];simp
theorem Xb(g:Gm)(aL:∀t∈g.ts,t.fits=true)(l:List Int):b7 aQ 158 [g.e,.ptr (.obj 305) 0] (fA l) fun r ai=>r= .tuple []/\ai=fA (hy (aX.vsL g.ts) l):=by
 have aq:=q7 l;have gT:=q7 (hy (aX.vsL g.ts) l);have gi:=vf l (hy (aX.vsL g.ts) l);unfold fA at aq;refine b7.mk mixed lV V9 abb Ψ aq.obj fun aN b3=>?_;unfold LA;have gJ:g.ts.length<=68719476736:=by rw[Gm.e_eq]at aN;simp[iZ,js,ja,bN]at aN;omega
 clear aN b3;unfold fA;simp;(with_reducible repeat' first|refine aA ?_|simp);refine gu (fun i (_:Unit)=>⟨[(1,.ptr (.obj 305) 0),(6,.slice 4 .no (g.ts.map enc)),(7,.int .i64 g.ts.length),(8,.int .i64 i)],(fA (hy (aX.vsL (g.ts.take i)) l)).b,[],0,[.obj 304,.obj 305]⟩) g.ts.length (fun _ _=>True) () (by simp[fA,hy,aX.vsL];exact⟨by simp[fresh,kinL,kin,bt,au,Pv.look,ln],cR (by simp[fresh,kinL,kin,bt,au,Pv.look,ln]),cS (by simp[fresh,kinL,kin,cB,au,Pv.look,ln]),Ψ⟩) trivial (fun _ _ _=>?_) (fun i _ az _ _=>?_)
 ·simp only[j4,fA]at gT gi⊢;simp;(with_reducible repeat' first|refine aA ?_|simp);all_goals refine cW.at _ (.inr rfl) gT gi aB aB ?_
  all_goals simp[du,Q7,a1,be,aV]
 ·obtain⟨b,ah,oP⟩:=hj az;have pO:=Xa (aL b (fJ ah)) (hy (aX.vsL (g.ts.take i)) l);rw[<-aeB ah]at pO;have b1:aY ((i:Int)+1):=by unfold aY;omega
  clear gT gi;simp only[fA];simp[az,oP];(with_reducible repeat' first|refine aA ?_|simp[az,oP]);refine CallDo.ob pO (q7 _) (by unfold fA;exact aB) (by unfold fA;exact aB) (by simp[au,fA,Pv.look]) ?_;rintro r ai ⟨rfl,rfl⟩;refine⟨vf _ _,?_⟩;unfold fA;simp[bg];(with_reducible repeat' first|refine aA ?_|simp[b1]);all_goals refine b9.rng () az trivial (by simp[fA];exact⟨by simp[fresh,kinL,kin,bt,au,Pv.look,ln],cR (by simp[fresh,kinL,kin,bt,au,Pv.look,ln]),cS (by simp[fresh,kinL,kin,cB,au,Pv.look,ln]),Ψ⟩)
theorem J4{g:Gm}(h:g.shape=true):g.gs.length<=8/\g.ts.length<=4:=by
 rw[oA,bM]at h;obtain⟨_,h⟩:=h;have aK:lp g.kind<=2:=by unfold lp;(repeat' split)<;>omega
 split at h
 ·simp at h;obtain⟨⟨⟨_,I⟩,J⟩,_⟩:=h;rw[I];simp;omega
 ·split at h
  ·simp at h;rw[h.1.2];simp;omega
  ·split at h
   ·simp at h;rw[h.1.1.2];simp;omega
   ·split at h
    ·simp at h;rw[h.1.1.2];have:=h.1.2;split at this
     ·rename_i x af;rw[af];simp
     ·cases this
    ·cases h
theorem W8:∀(n:Nat) (g:Gm),g.sz<=n->g.shape=true->∀l:List Int,b7 aQ 157 [g.e,.func 158 [.ptr (.obj 305) 0]] (fA l) fun r ai=>r= .tuple []/\ai=fA (hy g.vs l):=by
 intro n;induction n with
 |zero=>intro g aR;have:=g.sz_pos;omega
 |succ n bo=>
 intro g aR gx l;have aq:=q7 l;have gT:=q7 (hy g.vs l);have gi:=vf l (hy g.vs l);have pO:=Xb g (x6 gx) l;have zd:∀x∈g.gs,∀l:List Int,b7 aQ 157 [x.e,.func 158 [.ptr (.obj 305) 0]] (fA l) fun r ai=>r= .tuple []/\ai=fA (hy x.vs l):=fun x af l=>bo x (by have:=g.gs_lt af;omega) (shape_gs gx x af) l;rw[He,CT]at gT gi⊢;generalize iM:hy (aX.vsL g.ts) l=fc at pO gT gi⊢;have Yw:g.gs.length<=1000000:=by have:=(J4 gx).1;omega
 unfold fA at aq;refine b7.mk mixed lV M5 QE Ψ aq.obj fun aN b3=>?_;unfold Ga;clear aN b3;unfold fA;simp;refine CallDo.ob (pO) (q7 _) (by unfold fA;exact aB) (by unfold fA;exact aB) (by simp[au,fA,Pv.look]) ?_;rintro r ai ⟨rfl,rfl⟩;refine⟨vf _ _,?_⟩;unfold fA;simp[bg];(with_reducible repeat' first|refine aA ?_|simp);refine gu (fun i (_:Unit)=>⟨[(1,.func 158 [.ptr (.obj 305) 0]),(10,.slice 4 .no (g.gs.map Gm.e)),(11,.int .i64 g.gs.length),(12,.int .i64 i)],(fA (hy (Gm.vsL (g.gs.take i)) fc)).b,[],0,[.obj 304,.obj 305]⟩) g.gs.length (fun _ _=>True) () (by simp[fA,hy,Gm.vsL];exact⟨by simp[fresh,kinL,kin,bt,au,Pv.look,ln],cR (by simp[fresh,kinL,kin,bt,au,Pv.look,ln]),cS (by simp[fresh,kinL,kin,cB,au,Pv.look,ln]),Ψ⟩) trivial (fun _ _ _=>?_) (fun i _ az _ _=>?_)
 ·simp only[j4,fA]at gT gi⊢;simp;(with_reducible repeat' first|refine aA ?_|simp);all_goals refine cW.at _ (.inr rfl) gT gi aB aB ?_
  all_goals simp[du,Ju,a1,be,aV]
 ·obtain⟨b,ah,oP⟩:=hj az;have kb:=zd b (fJ ah) (hy (Gm.vsL (g.gs.take i)) fc);rw[<-XI ah]at kb;have b1:aY ((i:Int)+1):=by unfold aY;omega
  clear gT gi;simp only[fA];simp[az,oP];(with_reducible repeat' first|refine aA ?_|simp[az,oP]);refine CallDo.ob (kb) (q7 _) (by unfold fA;exact aB) (by unfold fA;exact aB) (by simp[au,fA,Pv.look]) ?_;rintro r ai ⟨rfl,rfl⟩;refine⟨vf _ _,?_⟩;unfold fA;simp[bg];(with_reducible repeat' first|refine aA ?_|simp[b1]);all_goals refine b9.rng () az trivial (by simp[fA];exact⟨by simp[fresh,kinL,kin,bt,au,Pv.look,ln],cR (by simp[fresh,kinL,kin,bt,au,Pv.look,ln]),cS (by simp[fresh,kinL,kin,cB,au,Pv.look,ln]),Ψ⟩)
def vx(g:Gm):List Int:=p2 (hy g.vs [])
theorem ad5(g:Gm)(h:g.shape=true):b6 aQ 90 [g.e] (.slice 1 .no (en (vx g))):=by
 have aG:(hy g.vs []).length<=1000000:=by have:=Je (Ld g.vs [] .nil) fun v aM=>DI g.sz g (cq _) h v (by simpa[FY]using aM);omega
 have pO:=W8 g.sz g (cq _) h [];have bT:=Xo (hy g.vs []) aG;refine bQ lV V8 aba fun aN=>?_;unfold Lz;clear aN;simp;(with_reducible repeat' first|refine aA ?_|simp);refine CallDo.ob (pO) (q7 _) (by unfold fA;exact aB) (by unfold fA;exact aB) (by simp[au,fA,Pv.look]) ?_;rintro r ai ⟨rfl,rfl⟩;refine⟨vf _ _,?_⟩;unfold fA;simp[bg];refine CallDo.ob bT (K6 _) (by unfold tJ;exact aB) (by unfold tJ;exact aB) (by simp[au,tJ,Pv.look]) ?_;rintro r ai ⟨rfl,rfl⟩;refine⟨Same.refl _,?_⟩;unfold tJ;simp[bg];simp[cg,Q6,a1,be,aV];simp[vx]
theorem NC(g:Gm)(v:Int):v∈vx g↔v∈g.vs:=by unfold vx p2;rw[List.mem_mergeSort,FY];simp
theorem W4(g:Gm)(h:g.shape=true):(vx g).length<=100001:=by unfold vx;rw[J5];exact Je (Ld g.vs [] .nil) fun v aM=>DI g.sz g (cq _) h v (by simpa[FY]using aM)
def qW(g:Gm)(n:Int):Bool:=(vx g).all fun v=>decide (v<n)
theorem SZ(g:Gm)(n:Int):qW g n=true↔FJ g n:=by unfold qW FJ;rw[jy];exact⟨fun h v aM=>by simpa using h v ((NC g v).2 aM),fun h v aM=>by simpa using h v ((NC g v).1 aM)⟩
theorem ZO{l:List Int}{i:Nat}(h:i<(en l).length):(en l)[i]= .int .i64 (l[i]'(by simpa using h)):=by simp[en]
theorem SX(g:Gm)(h:g.shape=true)(n:Int):b6 aQ 120 [g.e,.int .i64 n] (.bool (qW g n)):=by
 have iP:=ad5 g h;have hlen:=W4 g h;unfold qW;generalize vx g=l at iP hlen⊢;generalize bu:(l.all fun v=>decide (v<n))=R;refine bQ lV Wm abo fun aN=>?_;unfold LO;clear aN;simp;(with_reducible repeat' first|refine aA ?_|refine a8 iP ?_|refine ba iP ?_|simp);refine gu (fun i (_:Unit)=>⟨[(1,.int .i64 n),(8,.slice 1 .no (en l)),(9,.int .i64 l.length),(10,.int .i64 i)],[],[],0,[]⟩) l.length (oj (fun v=>decide (v<n)) l) () (by simp;exact dw) (fun k b aa=>Ω) (fun _ aw _=>?_) (fun i _ az aw _=>?_)
 ·have:R=true:=by rw[<-bu];exact aw.fin
  subst this;clear aw bu;exact cw
 ·obtain⟨v,aM⟩:∃v,l[i]? =some v:=⟨_,cF az⟩;have agY:∀h,((en l)[i]'h)= .int .i64 v:=fun h=>by rw[ZO h];rw[cF az]at aM;rw[gq aM]
  have b1:aY ((i:Int)+1):=by unfold aY;omega
  by_cases O1:v<n
  ·have aK:=aw.step aM (by simpa using O1);have J:¬n<=v:=Ω
   clear aw bu;exact r7
  ·have:R=false:=by rw[<-bu];exact wV aM (by simpa using O1)
   subst this;have J:n<=v:=Ω
   clear aw bu;exact cw
end
end Go.Proofs.YtlnndmgfngfeiaaGreatDoor
namespace Go.Pv
section
open Go Go.RowKit
mutual
theorem IE{S:aC->Prop}:∀p:ae,kin S p->∃l:List aC,(∀k∈l,S k)/\kin (fun k=>k∈l) p
 | .junk,_=>⟨[],Ψ,by simp[kin]⟩
 | .int _ _,_=>⟨[],Ψ,by simp[kin]⟩
 | .bool _,_=>⟨[],Ψ,by simp[kin]⟩
 | .str _,_=>⟨[],Ψ,by simp[kin]⟩
 | .slice sz tag xs,h=>by
  simp only[kin]at h;obtain⟨l,I,J⟩:=zk xs h.2;have hm:kinL (fun k=>k∈l) xs->∀k,kinL (fun j=>j∈k::l) xs:=fun bI k=>nA (fun _ h=>List.mem_cons_of_mem _ h) xs bI;cases tag with
  |no=>exact⟨l,I,by simp only[kin];exact⟨trivial,J⟩⟩
  |nil=>exact⟨l,I,by simp only[kin];exact⟨trivial,J⟩⟩
  |own k=>exact⟨k::l,by rintro j aw;rcases gp.1 aw with rfl|aw;exact h.1;exact I _ aw,by simp only[kin];exact⟨Ψ,hm J k⟩⟩
  |tr k j=>exact⟨k::l,by rintro j aw;rcases gp.1 aw with rfl|aw;exact h.1;exact I _ aw,by simp only[kin];exact⟨Ψ,hm J k⟩⟩
  |lo k=>exact⟨k::l,by rintro j aw;rcases gp.1 aw with rfl|aw;exact h.1;exact I _ aw,by simp only[kin];exact⟨Ψ,hm J k⟩⟩
 | .agg cs,h=>by simp only[kin]at h⊢;exact zk cs h
 | .ptr k _,h=>⟨[k],by simpa[kin]using h,by simp[kin]⟩
 | .eptr x,h=>by simp only[kin]at h⊢;exact IE x h
 | .iface _ x,h=>by simp only[kin]at h⊢;exact IE x h
 | .nilp,_=>⟨[],Ψ,by simp[kin]⟩
 | .tuple vs,h=>by simp only[kin]at h⊢;exact zk vs h
 | .func _ ds,h=>by simp only[kin]at h⊢;exact zk ds h
 | .gmap k,h=>⟨[k],by simpa[kin]using h,by simp[kin]⟩
 | .row _ k _,h=>⟨[k],by simpa[kin]using h,by simp[kin]⟩
 | .rptr _ k _ _ _,h=>⟨[k],by simpa[kin]using h,by simp[kin]⟩
 | .hdm _ _,_=>⟨[],Ψ,by simp[kin]⟩
 | .hdi _ _ _,_=>⟨[],Ψ,by simp[kin]⟩
 | .cst _,_=>⟨[],Ψ,by simp[kin]⟩
theorem zk{S:aC->Prop}:∀a6:List ae,kinL S a6->∃l:List aC,(∀k∈l,S k)/\kinL (fun k=>k∈l) a6
 |[],_=>⟨[],Ψ,by simp[kinL]⟩
 |p::a6,h=>by simp only[kinL]at h;obtain⟨fc,I,J⟩:=IE p h.1;obtain⟨cv,ao,aO⟩:=zk a6 h.2;exact⟨fc++cv,by intro k aa;rcases hv.1 aa with aa|aa;exact I k aa;exact ao k aa,by simp only[kinL];exact⟨nB (fun _ h=>lY _ h) p J,nA (fun _ h=>j3 _ h) a6 aO⟩⟩
end
def wR(di:List cr)(t:List (Nat×ae))(d:aT Nat)(K:aS->Prop)(e:Exit)(s:aS):Prop:=
 (e= .ret\/e= .normal)/\match a1 s di with
  |some (c,a6)=>c/\K ⟨fk d (aV a6) t,s.b,s.e,s.n,s.o⟩
  |none=>cZ
theorem acM{w:World}{ν:aP}:∀{a6:List ae} {h5:List Value},cc w ν a6 h5->aH w ν (aV a6) (if h:h5.toArray.size=1 then h5.toArray[0]else .tuple h5.toArray)
 |[p],h5,h=>by simp only[cc]at h;obtain⟨u,br,rfl,aJ,rfl⟩:=h;simpa[aV]using aJ
 |[],h5,h=>by simp only[cc]at h;subst h;simp[aV,aH,cc]
 |p::fN::a6,h5,h=>by
  have aG:=uS h;match h5,h,aG with
  |v::v2::h5,h,_=>rw[dif_neg Ψ];simp only[aV,aH];exact⟨_,rfl,by simpa using h⟩
  |[],_,h=>simp at h
  |[_],_,h=>simp at h
theorem kn.of{P:bK}(hm:P.follows .mixedOrders=true){aZ:List (Nat×cJ)}(aD:ez P aZ=true){f:FuncId}{fn:Func}(aL:P.funcs[f]? =some fn){c:C}{di:List cr}{n:Nat}(dS:c8 aZ c di n fn=true)
  {args:List ae} (aG:args.length<=n) {ob:List aC} {st:aS} {d:aT Nat} {K:aS->Prop} (t':List (Nat×ae)) (S:aC->Prop) (gC:∀k,S k->¬fresh st.n st.o k) (aa:∀x∈t',get x.1 st.t=x.2/\kin S x.2)
  (he:∀r3,(∀k∈r3,S k\/k∈st.o\/k∈ob)->(∀k∈r3,¬fresh st.n st.o k)->(∀k∈st.o,k∈r3)->ct P r3 c (wR di t' d K) ⟨h6 0 args,st.b,st.e,st.n,r3⟩):kn P ob f args st d K:=by
 intro C a w ν vs DM hr iH aF;subst DM;unfold c8 at dS;split at dS;rotate_left
 ·cases dS
 rename_i code ah;simp only[bM,q0,fK]at dS;obtain⟨⟨⟨aE,ju⟩,ft⟩,aK⟩:=dS;have mj:=uS iH;have gj:vs.size=args.length:=by simpa using mj
 obtain⟨nm,OE,Y8⟩:∃nm:List aC,(∀k∈nm,S k)/\∀x∈t',kin (fun k=>k∈nm) x.2:=by
  have fP:∀l:List (Nat×ae),(∀x∈l,kin S x.2)->kinL S (l.map (·.2)):=by
   intro l aG;induction l with
   |nil=>simp[kinL]
   |cons x r bo=>simp only[gY,kinL];exact⟨aG x Ψ,bo fun y bA=>aG y (by simp[bA])⟩
  obtain⟨nm,I,J⟩:=zk _ (fP t' fun x af=>(aa x af).2);refine⟨nm,I,fun x af=>?_⟩;have:∀l:List ae,kinL (fun k=>k∈nm) l->∀p∈l,kin (fun k=>k∈nm) p:=by
   intro l aG;induction l with
   |nil=>simp
   |cons y r bo=>simp only[kinL]at aG;intro p aU;rcases gp.1 aU with rfl|aU;exact aG.1;exact bo aG.2 p aU
  exact this _ J _ (lZ.2 ⟨x,af,rfl⟩)
 let ob:List aC:=nm++(st.o++C.ob)
 have j9:∀k∈ob,¬fresh st.n st.o k:=by
  intro k aa;rcases hv.1 aa with aa|aa
  ·exact gC k (OE k aa)
  rcases hv.1 aa with aa|aa
  ·exact fun h=>h.2 aa
  ·exact hr.obk k aa
 have hex:∀x∈(t'.map fun x=>(x.2,a.tmps.getD x.1 undef))++C.ex,aH w ν x.1 x.2/\kin (fun k=>k∈ob) x.1:=by
  intro x af;rcases hv.1 af with af|af
  ·obtain⟨y,bA,rfl⟩:=lZ.1 af;exact⟨by have:=hr.slot y.1;rw[(aa y bA).1]at this;exact this,nB (fun _ h=>lY _ h) _ (Y8 y bA)⟩
  ·obtain⟨I,J⟩:=hr.ext x af;exact⟨I,nB (fun _ h=>j3 _ (j3 _ h)) _ J⟩
 let X:ek:=⟨C.w0,C.ν0,C.mt,fn.ntmps,ob,C.gl,(t'.map fun x=>(x.2,a.tmps.getD x.1 undef))++C.ex⟩
 have y8:∀m,.obj m∉st.o->fresh st.n st.o (.obj m):=fun m h=>⟨trivial,h⟩;have ku:ni X w ν:=⟨hr.fr.os,hr.fr.tape,hr.fr.output,hr.fr.size,hr.fr.block,hr.fr.keep,hr.fr.fresh,hr.fr.obj,fun m b h=>j3 _ (j3 _ (hr.fr.obn m b h)),hr.fr.row,fun m k u h=>j3 _ (j3 _ (hr.fr.obr m k u h)),hr.fr.trd,hr.fr.trb,hr.fr.trn,hr.fr.sh,hr.fr.nrow⟩;have mR:bX X ⟨h6 0 args,st.b,st.e,st.n,ob⟩ {tmps:=vs++p8 (fn.ntmps-vs.size) undef,defers:=[]} w ν:=by
  refine⟨hr.good,ku,rfl,?_,fun i=>?_,fun k aa=>hr.new k (qu (cq _) (fun _ h=>j3 _ (lY _ h)) aa),hex,fun m hm aL=>aL.2 hm⟩
  ·show(vs++p8 (fn.ntmps-vs.size) undef).size=fn.ntmps;simp;omega
  ·rw[yV];by_cases az:i<args.length
   ·rw[if_pos Ω];have oc:args[i]? =some args[i]:=cF az;obtain⟨v,aj,aJ⟩:=zR i iH oc;have aM:(vs++p8 (fn.ntmps-vs.size) undef).getD i undef=v:=by
     have vq:vs[i]? =some v:=by simpa using aj
     rw[oC,Array.getElem?_append_left Ω,vq];rfl
    show aH w ν _ ((vs++p8 (fn.ntmps-vs.size) undef).getD i undef);rw[aM];simpa[List.getD,oc]using aJ
   ·rw[bq Ω];simp[aH]
 have BL:=nn hm aD (X:=X) c code (wR di t' d K) ⟨h6 0 args,st.b,st.e,st.n,ob⟩ aE (he ob (fun k aa=>(hv.1 aa).imp (OE k) fun h=>hv.1 h) j9 fun k aa=>j3 _ (lY _ aa)) _ w ν mR;refine .inl ⟨⟨fn,aL,by simp[ah],ft⟩,?_⟩;refine calls_of_wp aL ah (wp_mono BL fun e bU w' bI=>?_);obtain⟨st',ν',⟨ik,bn⟩,bW⟩:=bI;cases hn:a1 st' di with
 |none=>simp[hn]at bn
 |some x=>
  obtain⟨hh,a6⟩:=x;simp only[hn]at bn;obtain⟨kK,cG⟩:=bn;obtain⟨h5,g1,g2⟩:=Co aD bW di fn.results.toList hh a6 ju hn kK;have la:bU.defers=[]/\∃v,(results fn bU.tmps).run P w'= .ok v w'/\(fun(e:Ending) w'=> ∃v st' ν',e= .returned v/\K st'/\bX C st' (a.put d v) w' ν') (.returned v) w':=by
   refine⟨bW.defers,?_⟩;have gD:(results fn bU.tmps).run P w'= .ok (if h:h5.toArray.size=1 then h5.toArray[0]else .tuple h5.toArray) w':=by rw[JT];simp only[e2,Array.mapM_eq_mapM_toList,Sem.run_map,g1,e4,fH]
   refine⟨_,gD,_,_,ν',rfl,cG,?_⟩;have oR:=bW.fr;have bL:bX C ⟨t',st'.b,st'.e,st'.n,st'.o⟩ a w' ν':=by
    refine⟨bW.good,⟨oR.os,oR.tape,oR.output,oR.size,oR.block,oR.keep,oR.fresh,oR.obj,hr.fr.obn,oR.row,hr.fr.obr,oR.trd,oR.trb,oR.trn,oR.sh,oR.nrow⟩,hr.defers,hr.size,fun i=>?_,bW.new,fun x af=>⟨(bW.ext x (j3 _ af)).1,(hr.ext x af).2⟩,fun m hm=>bW.obk m (j3 _ (j3 _ hm))⟩;rcases Ha i t' with aw|aw
    ·simp only;rw[aw];simp[aH]
    ·exact(bW.ext _ (lY _ (lZ.2 ⟨_,aw,rfl⟩))).1
   exact bL.put aF (acM g2)
  rcases ik with rfl|rfl<;>exact la
end
end Go.Pv
namespace Go.Pv
open Go Go.RowKit
end Go.Pv
namespace Go.Proofs
open Go.Shelf Go.RowKit
variable {P:bK} {nJ:Ren}
end Go.Proofs
namespace Go.Proofs
section
open Go.Shelf
def Tryz.laysM171_ren:Go.Shelf.Ren:=⟨fun|171=>136|243=>192|246=>229|283=>261|284=>262|285=>263|286=>264|129=>241|317=>278|318=>279|319=>280|320=>281|337=>296|338=>297|n=>n,fun|3=>3|9=>9|2=>2|4=>4|171=>284|0=>0|53=>267|37=>35|5=>5|173=>286|212=>302|51=>265|20=>20|213=>303|46=>209|232=>326|233=>327|n=>n,fun|17=>0|18=>3|19=>4|n=>n⟩
theorem Tryz.laysM171:Go.Proofs.LaysM.n171 aQ Tryz.laysM171_ren:={
 mixed:=by kernel_rfl
 f129:=Tryz.func241.trans (er some (by kernel_rfl))
 f171:=Tryz.func136.trans (er some (by kernel_rfl))
 f243:=Tryz.func192.trans (er some (by kernel_rfl))
 f246:=Tryz.func229.trans (er some (by kernel_rfl))
 f283:=Tryz.func261.trans (er some (by kernel_rfl))
 f284:=Tryz.func262.trans (er some (by kernel_rfl))
 f285:=Tryz.func263.trans (er some (by kernel_rfl))
 f286:=Tryz.func264.trans (er some (by kernel_rfl))
 f317:=Tryz.func278.trans (er some (by kernel_rfl))
 f318:=Tryz.func279.trans (er some (by kernel_rfl))
 f319:=Tryz.func280.trans (er some (by kernel_rfl))
 f320:=Tryz.func281.trans (er some (by kernel_rfl))
 f337:=Tryz.func296.trans (er some (by kernel_rfl))
 f338:=Tryz.func297.trans (er some (by kernel_rfl))
 t0:=Tryz.underlying0
 a0:=Tryz.isAgg0
 z0:=Tryz.sizeOf0
 v0:=Tryz.zeroValue0
 t2:=Tryz.underlying2
 a2:=Tryz.isAgg2
 z2:=Tryz.sizeOf2
 v2:=Tryz.zeroValue2
 t3:=Tryz.underlying3
 a3:=Tryz.isAgg3
 z3:=Tryz.sizeOf3
 v3:=Tryz.zeroValue3
 t4:=Tryz.underlying4
 a4:=Tryz.isAgg4
 z4:=Tryz.sizeOf4
 v4:=Tryz.zeroValue4
 t5:=Tryz.underlying5
 a5:=Tryz.isAgg5
 z5:=Tryz.sizeOf5
 v5:=Tryz.zeroValue5
 t9:=Tryz.underlying9
 a9:=Tryz.isAgg9
 z9:=Tryz.sizeOf9
 v9:=Tryz.zeroValue9
 t20:=Tryz.underlying20
 a20:=Tryz.isAgg20
 z20:=Tryz.sizeOf20
 v20:=Tryz.zeroValue20
 t37:=Tryz.underlying35
 a37:=Tryz.isAgg35
 z37:=Tryz.sizeOf35
 v37:=Tryz.zeroValue35
 t46:=Tryz.underlying209
 a46:=Tryz.isAgg209
 z46:=Tryz.sizeOf209
 v46:=Tryz.zeroValue209
 t51:=Tryz.underlying265
 a51:=Tryz.isAgg265
 z51:=Tryz.sizeOf265
 v51:=Tryz.zeroValue265
 t53:=Tryz.underlying267
 a53:=Tryz.isAgg267
 z53:=Tryz.sizeOf267
 v53:=Tryz.zeroValue267
 t171:=Tryz.underlying284
 a171:=Tryz.isAgg284
 z171:=Tryz.sizeOf284
 v171:=Tryz.zeroValue284
 t173:=Tryz.underlying286
 a173:=Tryz.isAgg286
 z173:=Tryz.sizeOf286
 v173:=Tryz.zeroValue286
 t212:=Tryz.underlying302
 a212:=Tryz.isAgg302
 z212:=Tryz.sizeOf302
 v212:=Tryz.zeroValue302
 t213:=Tryz.underlying303
 a213:=Tryz.isAgg303
 z213:=Tryz.sizeOf303
 t232:=Tryz.underlying326
 a232:=Tryz.isAgg326
 z232:=Tryz.sizeOf326
 v232:=Tryz.zeroValue326
 t233:=Tryz.underlying327
 a233:=Tryz.isAgg327
 z233:=Tryz.sizeOf327
 v233:=Tryz.zeroValue327
 g17:=by kernel_rfl
 g18:=by kernel_rfl
 g19:=by kernel_rfl
 i0:=by kernel_rfl
 i2:=by kernel_rfl
 i3:=by kernel_rfl
 i4:=by kernel_rfl
 i5:=by kernel_rfl
 i9:=by kernel_rfl
 i20:=by kernel_rfl
 i37:=by kernel_rfl
 i46:=by kernel_rfl
 i51:=by kernel_rfl
 i53:=by kernel_rfl
 i171:=by kernel_rfl
 i173:=by kernel_rfl
 i212:=by kernel_rfl
 i232:=by kernel_rfl
 i233:=by kernel_rfl
 m17:=by kernel_rfl
 m18:=by kernel_rfl
 m19:=by kernel_rfl}
def Tryz.laysC172_ren:Go.Shelf.Ren:=⟨fun|172=>223|244=>257|245=>258|247=>273|279=>274|280=>275|281=>276|282=>277|287=>293|316=>294|171=>136|205=>295|321=>304|322=>305|243=>192|246=>229|283=>261|284=>262|285=>263|286=>264|129=>241|317=>278|318=>279|319=>280|320=>281|337=>296|338=>297|n=>n,fun|9=>9|3=>3|75=>108|76=>109|4=>4|5=>5|167=>295|37=>35|0=>0|85=>296|2=>2|168=>298|53=>267|175=>314|46=>209|210=>317|127=>181|145=>325|143=>323|21=>21|171=>284|173=>286|212=>302|51=>265|20=>20|213=>303|232=>326|233=>327|80=>112|n=>n,fun|15=>1|16=>2|17=>0|18=>3|19=>4|n=>n⟩
theorem Tryz.laysC172:Go.Proofs.LaysC.n172 aQ Tryz.laysC172_ren:={
 mixed:=by kernel_rfl
 f129:=Tryz.func241.trans (er some (by kernel_rfl))
 f171:=Tryz.func136.trans (er some (by kernel_rfl))
 f172:=Tryz.func223.trans (er some (by kernel_rfl))
 f205:=Tryz.func295.trans (er some (by kernel_rfl))
 f243:=Tryz.func192.trans (er some (by kernel_rfl))
 f244:=Tryz.func257.trans (er some (by kernel_rfl))
 f245:=Tryz.func258.trans (er some (by kernel_rfl))
 f246:=Tryz.func229.trans (er some (by kernel_rfl))
 f247:=Tryz.func273.trans (er some (by kernel_rfl))
 f279:=Tryz.func274.trans (er some (by kernel_rfl))
 f280:=Tryz.func275.trans (er some (by kernel_rfl))
 f281:=Tryz.func276.trans (er some (by kernel_rfl))
 f282:=Tryz.func277.trans (er some (by kernel_rfl))
 f283:=Tryz.func261.trans (er some (by kernel_rfl))
 f284:=Tryz.func262.trans (er some (by kernel_rfl))
 f285:=Tryz.func263.trans (er some (by kernel_rfl))
 f286:=Tryz.func264.trans (er some (by kernel_rfl))
 f287:=Tryz.func293.trans (er some (by kernel_rfl))
 f316:=Tryz.func294.trans (er some (by kernel_rfl))
 f317:=Tryz.func278.trans (er some (by kernel_rfl))
 f318:=Tryz.func279.trans (er some (by kernel_rfl))
 f319:=Tryz.func280.trans (er some (by kernel_rfl))
 f320:=Tryz.func281.trans (er some (by kernel_rfl))
 f321:=Tryz.func304.trans (er some (by kernel_rfl))
 f322:=Tryz.func305.trans (er some (by kernel_rfl))
 f337:=Tryz.func296.trans (er some (by kernel_rfl))
 f338:=Tryz.func297.trans (er some (by kernel_rfl))
 t0:=Tryz.underlying0
 a0:=Tryz.isAgg0
 z0:=Tryz.sizeOf0
 v0:=Tryz.zeroValue0
 t2:=Tryz.underlying2
 a2:=Tryz.isAgg2
 z2:=Tryz.sizeOf2
 v2:=Tryz.zeroValue2
 t3:=Tryz.underlying3
 a3:=Tryz.isAgg3
 z3:=Tryz.sizeOf3
 v3:=Tryz.zeroValue3
 t4:=Tryz.underlying4
 a4:=Tryz.isAgg4
 z4:=Tryz.sizeOf4
 v4:=Tryz.zeroValue4
 t5:=Tryz.underlying5
 a5:=Tryz.isAgg5
 z5:=Tryz.sizeOf5
 v5:=Tryz.zeroValue5
 t9:=Tryz.underlying9
 a9:=Tryz.isAgg9
 z9:=Tryz.sizeOf9
 v9:=Tryz.zeroValue9
 t20:=Tryz.underlying20
 a20:=Tryz.isAgg20
 z20:=Tryz.sizeOf20
 v20:=Tryz.zeroValue20
 t21:=Tryz.underlying21
 a21:=Tryz.isAgg21
 z21:=Tryz.sizeOf21
 v21:=Tryz.zeroValue21
 t37:=Tryz.underlying35
 a37:=Tryz.isAgg35
 z37:=Tryz.sizeOf35
 v37:=Tryz.zeroValue35
 t46:=Tryz.underlying209
 a46:=Tryz.isAgg209
 z46:=Tryz.sizeOf209
 v46:=Tryz.zeroValue209
 t51:=Tryz.underlying265
 a51:=Tryz.isAgg265
 z51:=Tryz.sizeOf265
 v51:=Tryz.zeroValue265
 t53:=Tryz.underlying267
 a53:=Tryz.isAgg267
 z53:=Tryz.sizeOf267
 v53:=Tryz.zeroValue267
 t75:=Tryz.underlying108
 a75:=Tryz.isAgg108
 z75:=Tryz.sizeOf108
 v75:=Tryz.zeroValue108
 t76:=Tryz.underlying109
 a76:=Tryz.isAgg109
 z76:=Tryz.sizeOf109
 v76:=Tryz.zeroValue109
 t85:=Tryz.underlying296
 a85:=Tryz.isAgg296
 z85:=Tryz.sizeOf296
 v85:=Tryz.zeroValue296
 t127:=Tryz.underlying181
 a127:=Tryz.isAgg181
 z127:=Tryz.sizeOf181
 v127:=Tryz.zeroValue181
 t143:=Tryz.underlying323
 a143:=Tryz.isAgg323
 z143:=Tryz.sizeOf323
 v143:=Tryz.zeroValue323
 t145:=Tryz.underlying325
 a145:=Tryz.isAgg325
 z145:=Tryz.sizeOf325
 v145:=Tryz.zeroValue325
 t167:=Tryz.underlying295
 a167:=Tryz.isAgg295
 z167:=Tryz.sizeOf295
 v167:=Tryz.zeroValue295
 t168:=Tryz.underlying298
 a168:=Tryz.isAgg298
 z168:=Tryz.sizeOf298
 v168:=Tryz.zeroValue298
 t171:=Tryz.underlying284
 a171:=Tryz.isAgg284
 z171:=Tryz.sizeOf284
 v171:=Tryz.zeroValue284
 t173:=Tryz.underlying286
 a173:=Tryz.isAgg286
 z173:=Tryz.sizeOf286
 v173:=Tryz.zeroValue286
 t175:=Tryz.underlying314
 a175:=Tryz.isAgg314
 z175:=Tryz.sizeOf314
 v175:=Tryz.zeroValue314
 t210:=Tryz.underlying317
 a210:=Tryz.isAgg317
 z210:=Tryz.sizeOf317
 v210:=Tryz.zeroValue317
 t212:=Tryz.underlying302
 a212:=Tryz.isAgg302
 z212:=Tryz.sizeOf302
 v212:=Tryz.zeroValue302
 t213:=Tryz.underlying303
 a213:=Tryz.isAgg303
 z213:=Tryz.sizeOf303
 t232:=Tryz.underlying326
 a232:=Tryz.isAgg326
 z232:=Tryz.sizeOf326
 v232:=Tryz.zeroValue326
 t233:=Tryz.underlying327
 a233:=Tryz.isAgg327
 z233:=Tryz.sizeOf327
 v233:=Tryz.zeroValue327
 g15:=by kernel_rfl
 g16:=by kernel_rfl
 g17:=by kernel_rfl
 g18:=by kernel_rfl
 g19:=by kernel_rfl
 t80:=Tryz.underlying112
 a80:=Tryz.isAgg112
 z80:=Tryz.sizeOf112
 v80:=Tryz.zeroValue112
 i0:=by kernel_rfl
 i2:=by kernel_rfl
 i3:=by kernel_rfl
 i4:=by kernel_rfl
 i5:=by kernel_rfl
 i9:=by kernel_rfl
 i20:=by kernel_rfl
 i21:=by kernel_rfl
 i37:=by kernel_rfl
 i46:=by kernel_rfl
 i51:=by kernel_rfl
 i53:=by kernel_rfl
 i75:=by kernel_rfl
 i76:=by kernel_rfl
 i80:=by kernel_rfl
 i85:=by kernel_rfl
 i127:=by kernel_rfl
 i143:=by kernel_rfl
 i145:=by kernel_rfl
 i167:=by kernel_rfl
 i168:=by kernel_rfl
 i171:=by kernel_rfl
 i173:=by kernel_rfl
 i175:=by kernel_rfl
 i210:=by kernel_rfl
 i212:=by kernel_rfl
 i232:=by kernel_rfl
 i233:=by kernel_rfl
 m15:=by kernel_rfl
 m16:=by kernel_rfl
 m17:=by kernel_rfl
 m18:=by kernel_rfl
 m19:=by kernel_rfl
 c0:=by kernel_rfl
 c2:=by kernel_rfl
 c3:=by kernel_rfl
 c4:=by kernel_rfl
 c5:=by kernel_rfl
 c9:=by kernel_rfl
 c20:=by kernel_rfl
 c21:=by kernel_rfl
 c37:=by kernel_rfl
 c46:=by kernel_rfl
 c51:=by kernel_rfl
 c53:=by kernel_rfl
 c75:=by kernel_rfl
 c76:=by kernel_rfl
 c80:=by kernel_rfl
 c85:=by kernel_rfl
 c127:=by kernel_rfl
 c143:=by kernel_rfl
 c145:=by kernel_rfl
 c167:=by kernel_rfl
 c168:=by kernel_rfl
 c171:=by kernel_rfl
 c173:=by kernel_rfl
 c175:=by kernel_rfl
 c210:=by kernel_rfl
 c212:=by kernel_rfl
 c213:=by kernel_rfl
 c232:=by kernel_rfl
 c233:=by kernel_rfl}
end
end Go.Proofs
namespace Go.Proofs.YtlnndmgfngfeiaaGreatDoor
section
open Go Go.Pv
def Lv:C:=(ag [bk 2 (.mov (.c (.str [])))] (ag [ab 3 0,cK 4 136 3,ab 2 4] .ret))
@[simp] def ab5:List cr:=[.tmp 2]
def F9:C:=(ag [nI 2 1,bD 3 false] (.seq (ag [ab 9 0,bk 10 (.slen (.t 9)),bc 11 .gtr 10 100000] (bh 11 (ag [nI 2 1,bD 3 false] .ret) .skip)) (.seq (ag [cd 4 0] (.block 0 (.loop (.seq (ag [ab 12 4,ab 13 0,bk 14 (.slen (.t 13)),cz 15 .lss 12 14] (bh 15 .skip (.exit 0))) (.seq (.block 1 (ag [ab 18 0,ab 19 4,bk 20 (.sidx (.t 18) (.t 19)),bk 21 (.bin .neq false (.t 20) (.c (.int .u8 10))),ab 22 21,bP 22 true 23 0,bP 22 true 24 4,aI 22 true (bk 25 (.sidx (.t 23) (.t 24))),aI 22 true (bk 26 (.bin .lss false (.t 25) (.c (.int .u8 32)))),bP 22 true 27 26,bP 27 false 28 0,bP 27 false 29 4,aI 27 false (bk 30 (.sidx (.t 28) (.t 29))),aI 27 false (bk 31 (.bin .gtr false (.t 30) (.c (.int .u8 126)))),aI 22 true (dk 32 27 31),e7 33 22 32] (bh 33 (ag [nI 2 1,bD 3 false] .ret) .skip))) (.region [ab 16 4,bc 17 .add 16 1,ab 4 17])))))) (ag [hE 34 1 9 [],ab 5 34] (.seq (ag [cd 6 0] (.block 2 (.loop (.seq (ag [ab 35 6,ab 36 0,bk 37 (.slen (.t 36)),cz 38 .lss 35 37] (bh 38 .skip (.exit 2))) (.block 3 (ag [ab 39 0,ab 40 6,bk 41 (.sidx (.t 39) (.t 40)),ab 7 41] (.block 4 (ag [ab 88 7,bk 89 (.bin .eql false (.t 88) (.c (.int .u8 32))),ab 90 89,bP 90 false 91 7,aI 90 false (bk 92 (.bin .eql false (.t 91) (.c (.int .u8 10)))),dk 93 90 92,ab 87 93] (bh 87 (.region [ab 94 6,bc 95 .add 94 1,ab 6 95]) (ag [ab 97 7,bk 98 (.bin .eql false (.t 97) (.c (.int .u8 59))),ab 96 98] (bh 96 (.block 7 (.loop (.seq (ag [ab 99 6,ab 100 0,bk 101 (.slen (.t 100)),cz 102 .lss 99 101,ab 103 102,bP 103 true 104 0,bP 103 true 105 6,aI 103 true (bk 106 (.sidx (.t 104) (.t 105))),aI 103 true (bk 107 (.bin .neq false (.t 106) (.c (.int .u8 10)))),e7 108 103 107] (bh 108 .skip (.exit 7))) (.block 8 (.region [ab 109 6,bc 110 .add 109 1,ab 6 110]))))) (ag [ab 112 7,bk 113 (.bin .eql false (.t 112) (.c (.int .u8 40))),ab 114 113,bP 114 false 115 7,aI 114 false (bk 116 (.bin .eql false (.t 115) (.c (.int .u8 41)))),dk 117 114 116,ab 111 117] (bh 111 (ag [ab 118 5,ab 119 0,ab 120 6,ab 121 6,bc 122 .add 121 1,bk 123 (.ssl (.t 119) (some (.t 120)) (some (.t 122))),hE 124 1 9 [.t 123],lW 125 1 9 118 124,ab 5 125] (.region [ab 126 6,bc 127 .add 126 1,ab 6 127])) (ag [ab 42 6,ab 8 42] (.seq (.block 5 (.loop (.seq (ag (ab 43 8::ab 44 0::bk 45 (.slen (.t 44))::cz 46 .lss 43 45::ab 47 46::bP 47 true 48 0::bP 47 true 49 8::aI 47 true (bk 50 (.sidx (.t 48) (.t 49)))::aI 47 true (bk 51 (.bin .neq false (.t 50) (.c (.int .u8 32))))::e7 52 47 51::ab 53 52::bP 53 true 54 0::bP 53 true 55 8::aI 53 true (bk 56 (.sidx (.t 54) (.t 55)))::aI 53 true (bk 57 (.bin .neq false (.t 56) (.c (.int .u8 10))))::e7 58 53 57::ab 59 58::bP 59 true 60 0::bP 59 true 61 8::aI 59 true (bk 62 (.sidx (.t 60) (.t 61)))::aI 59 true (bk 63 (.bin .neq false (.t 62) (.c (.int .u8 40))))::e7 64 59 63::ab 65 64::bP 65 true 66 0::bP 65 true 67 8::aI 65 true (bk 68 (.sidx (.t 66) (.t 67)))::aI 65 true (bk 69 (.bin .neq false (.t 68) (.c (.int .u8 41))))::e7 70 65 69::ab 71 70::bP 71 true 72 0::bP 71 true 73 8::aI 71 true (bk 74 (.sidx (.t 72) (.t 73)))::aI 71 true (bk 75 (.bin .neq false (.t 74) (.c (.int .u8 59))))::e7 76 71 75::[]) (bh 76 .skip (.exit 5))) (.block 6 (.region [ab 77 8,bc 78 .add 77 1,ab 8 78]))))) (ag [ab 79 5,ab 80 0,ab 81 6,ab 82 8,bk 83 (.ssl (.t 80) (some (.t 81)) (some (.t 82))),hE 84 1 9 [.t 83],lW 85 1 9 79 84,ab 5 85] (.region [ab 86 8,ab 6 86]))))))))))))))))) (.seq (ag [ab 128 5,c7 129 128,bc 130 .gtr 129 20000] (bh 130 (ag [nI 2 1,bD 3 false] .ret) .skip)) (ag [ab 131 5,ab 2 131,bD 3 true] .ret)))))))
@[simp] def zI:List cr:=[.tmp 2,.tmp 3]
def LN:C:=(ag [ht 2 cU] (ag [ab 3 0,kB 4 cU [(0,1,(da 1)),(1,1,(.t 3))],bE 4 2 4] .ret))
@[simp] def acj:List cr:=[.cell 2 true 4]
def AD:C:=(ag [cd 2 0,bD 3 false] (ag [ab 7 0,cK 8 223 7,ab 6 8,dN 9 0 6,dN 10 1 6,ab 4 9,ab 5 10] (.seq (ag [ab 11 5,bk 12 (.isn true (.t 11)),ab 13 12,bP 13 false 14 4,aI 13 false (cK 15 136 14),bP 13 false 16 0,aI 13 false (cz 17 .neq 15 16),dk 18 13 17] (bh 18 (ag [cd 2 0,bD 3 false] .ret) .skip)) (ag [ab 19 4,ab 2 19,bD 3 true] .ret))))
@[simp] def Q4:List cr:=[.tmp 2,.tmp 3]
def LC:C:=(ag [ht 2 cU] (ag [kB 5 cU [],ht 3 cU,bE 4 3 5] (.seq (ag [ab 6 0,c7 7 6,bc 8 .sub 7 1,ab 4 8] (.block 0 (.loop (.seq (ag [ab 9 4,bc 10 .geq 9 0] (bh 10 .skip (.exit 0))) (.seq (.block 1 (.drawn true 20 [ab 13 0,ab 14 4,cQ 15 4 13 14,ck 16 4 15,ck 17 4 3,eZ 18 206 16 17,bE 4 3 18])) (.region [ab 11 4,bc 12 .sub 11 1,ab 4 12])))))) (ag [ck 19 4 3,bE 4 2 19] .ret))))
@[simp] def Q9:List cr:=[.cell 2 true 4]
def LJ:C:=(ag [ht 2 cU] (ag [ab 3 0,kB 4 cU [(0,1,(da 2)),(2,1,(.t 3))],bE 4 2 4] .ret))
@[simp] def acb:List cr:=[.cell 2 true 4]
def LG:C:=(ag [ht 2 cU] (ag [ab 3 0,kB 4 cU [(0,1,(da 3)),(1,1,(.t 3))],bE 4 2 4] .ret))
@[simp] def ab9:List cr:=[.cell 2 true 4]
def wH:List (Nat×cJ):=[
 (3,⟨1,8,.int .i64,.int .i64 0⟩),
 (5,⟨1,1,.int .u8,.int .u8 0⟩),
 (9,⟨1,16,.str,.str []⟩),
 (35,⟨1,24,.slice 5,.slice 1 .nil []⟩),
 (38,⟨1,24,.slice 40,.slice 4 .nil []⟩),
 (40,⟨4,56,.struct [(0,3),(1,3),(2,9),(3,38)],.agg [.int .i64 0,.int .i64 0,.str [],.slice 4 .nil []]⟩),
 (70,⟨1,24,.slice 9,.slice 1 .nil []⟩),
 (104,⟨1,8,.other,.nilp⟩),
 (106,⟨2,32,.struct [(0,104),(1,35)],.agg [.nilp,.slice 1 .nil []]⟩),
 (108,⟨1,16,.iface,.junk⟩)]
theorem sk:ez aQ wH=true:=by kernel_rfl
theorem aa6:c8 wH Lv ab5 1 Tryz.f63=true:=by kernel_rfl
theorem V4:aQ.funcs[(63:Nat)]? =some Tryz.f63:=Tryz.func63
theorem QD:c8 wH F9 zI 1 Tryz.f82=true:=by kernel_rfl
theorem M4:aQ.funcs[(82:Nat)]? =some Tryz.f82:=Tryz.func82
theorem abn:c8 wH LN acj 1 Tryz.f86=true:=by kernel_rfl
theorem Wl:aQ.funcs[(86:Nat)]? =some Tryz.f86:=Tryz.func86
theorem ET:c8 wH AD Q4 1 Tryz.f179=true:=by kernel_rfl
theorem Dt:aQ.funcs[(179:Nat)]? =some Tryz.f179:=Tryz.func179
theorem abd:c8 wH LC Q9 1 Tryz.f205=true:=by kernel_rfl
theorem Wb:aQ.funcs[(205:Nat)]? =some Tryz.f205:=Tryz.func205
theorem abj:c8 wH LJ acb 1 Tryz.f207=true:=by kernel_rfl
theorem Wh:aQ.funcs[(207:Nat)]? =some Tryz.f207:=Tryz.func207
theorem abg:c8 wH LG ab9 1 Tryz.f208=true:=by kernel_rfl
theorem We:aQ.funcs[(208:Nat)]? =some Tryz.f208:=Tryz.func208
theorem x7:(aQ.info? 106).map (·.size)=some 2:=by kernel_rfl
theorem b6.sem{f:FuncId}{fn:Func}(aL:aQ.funcs[f]? =some fn)(ah:fn.body.isSome=true)(aK:(fn.name== "runtime.NumGoroutine")=false){args:List ae}{r:ae}(hr:kin (fun _=>cZ) r)
  (h:∀(w:World) (ν:aP) (vs:Array Value),nO w ν->(∀b o,ν.A b o->b<w.heap.size)->cc w ν args vs.toList->Calls aQ f vs w fun e w'=> ∃v,e= .returned v/\(∀ν',(∀b o,ν.A b o->ν'.A b o)->aH w' ν' r v)/\w.grownBy w' none):b6 aQ f args r:=by
 refine b7.sem qI fun w ν vs gl gj mR=>?_;have iH:cc w ν args vs.toList:=by
  have de:args.length=vs.toList.length:=by simpa using gj.symm
  have:∀(l:List ae) (us:List Value),l.length=us.length->(∀i p,l[i]? =some p->aH w ν p (us.getD i undef))->cc w ν l us:=by
   intro l;induction l with
   |nil=>intro us h _;cases us<;>simp at h⊢;simp[cc]
   |cons p l bo=>
    intro us h az;cases us with
    |nil=>simp at h
    |cons u us=>simp only[cc];exact⟨u,us,rfl,by simpa using az 0 p rfl,bo us (by simpa using h) fun i q bn=>by simpa using az (i+1) q (by simpa using bn)⟩
  refine this _ _ de fun i p aU=>?_;have aq:=mR.slot i;have az:=(e3.1 aU).1;rw[yV,if_pos Ω]at aq;have:args.getD i .junk=p:=by simp[List.getD,aU]
  simp only[Nat.sub_zero,this]at aq;simpa[oC]using aq
 refine .inl ⟨⟨fn,aL,ah,aK⟩,(h w ν vs gl mR.good.alt iH).mono ?_⟩;rintro e w' ⟨v,rfl,aM,aR⟩;exact⟨v,_,_,ν,r,⟨[],[]⟩,rfl,mR.grown aR,aM ν fun _ _ h=>h,trivial,trivial,fun k cs aa=>by simp[Pv.look]at aa,fun k cs aa=>by simp[Pv.look]at aa,qI,nB (fun _ h=>h.elim) _ hr,rfl,rfl⟩
theorem ZV{n:Int}(h:aY n):(Lib.itoa n).length<=bN:=by unfold aY at h;have:=Lib.itoa_length_le n Ω Ω;unfold bN;omega
theorem XG(w:World)(k:Nat)(os:Array Obj):w.grownBy (Sort.grow (w.drewN k) os) none:=⟨rfl,rfl,rfl,Ψ,fun j aw _=>Sort.heap_grow_old _ _ aw⟩
theorem Hb{w w':World}(h:RowKit.Below w.heap.size w w'):w.grownBy w' none:=⟨h.os,h.tape,h.output,h.size,fun k aa _=>h.block k aa⟩
theorem NY(i:Nat)(az:i<20):(0,i,20,fun v=>v=nK .u64 ((10 ^ i:Nat):Int))∈vz:=by unfold vz;exact lY _ (lZ.2 ⟨i,List.mem_range.2 az,rfl⟩)
theorem adA{w:World}{ν:aP}(h:nO w ν):Lib.TabIs aQ w "internal/strconv.uint64pow10" .u64 Lib.pow10Tab:=by
 have aR:aQ.globalNamed "internal/strconv.uint64pow10" =some 0:=by kernel_rfl
 obtain⟨_,_,el,gx⟩:=h _ (NY 0 Ω);unfold Lib.TabIs;simp only[World.var?,aR,Option.bind_some];unfold Pv.shape at gx;simp only at gx;split at gx
 ·rename_i cur eS fz hw;rw[hw];simp only[dZ,gA]at gx;simp only[dZ];apply Array.ext
  ·simp[gx.1,Lib.pow10Tab]
  ·intro i I J;obtain⟨_,⟨v,aM,aU⟩,_⟩:=h _ (NY i Ω);simp only at aM aU;subst aU;have aE:cur[i]? =some (nK .u64 ((10 ^ i:Nat):Int)):=by simpa[World.cell?,hw]using aM
   rw[oD I]at aE;rw[gq aE];simp[Lib.pow10Tab]
 ·cases gx
theorem SI(n:Int)(h:aY n):b6 aQ 136 [.int .i64 n] (.str (Lib.itoa n)):=by
 refine b6.sem Tryz.func136 (by kernel_rfl) (by kernel_rfl) (by simp[kin]) fun w ν vs gl aW iH=>?_;simp only[cc,aH]at iH;obtain⟨v,us,bF,rfl,rfl⟩:=iH;have gj:vs= #[.int .i64 n]:=by rw[<-Array.toList_inj];simpa using bF
 subst gj;unfold aY at h;refine(Any.strconv_Itoa Tryz.laysM171 n Ω Ω w (adA gl)).mono ?_;rintro e w' ⟨rfl,k,os,rfl⟩;exact⟨_,rfl,fun ν' _=>by simp only[aH];exact⟨trivial,ZV (by unfold aY;omega)⟩,XG w k os⟩
def wX(s:List al):ae:=match Lib.atoiAll s with
 | .ok v=>.tuple [.int .i64 v,.cst .nilIface]
 | .range=>.tuple [.int .i64 (Lib.atoiSat s),.iface (Tryz.laysC172_ren.t 168) .junk]
 |_=>.tuple [.int .i64 0,.iface (Tryz.laysC172_ren.t 168) .junk]
theorem adT(s:List al)(aG:s.length<=bN):b6 aQ 223 [.str s] (wX s):=by
 have aa:kin (fun _=>cZ) (wX s):=by unfold wX;split<;>simp[kin,kinL]
 refine b6.sem Tryz.func223 (by kernel_rfl) (by kernel_rfl) aa fun w ν vs gl aW iH=>?_;simp only[cc,aH]at iH;obtain⟨v,us,bF,⟨rfl,_⟩,rfl⟩:=iH;have gj:vs= #[.string ⟨s.toArray⟩]:=by rw[<-Array.toList_inj];simpa using bF
 subst gj;have de:(⟨s.toArray⟩:jL).size=s.length:=by simp[KT]
 unfold bN at aG;obtain⟨_,⟨aj,Hq,aiS,ah5,rfl⟩,_⟩:=gl (1,0,1,fun v=> ∃t p,v= .iface t p) (by unfold vz;simp);obtain⟨_,⟨aJ,Hr,aiT,ah6,rfl⟩,_⟩:=gl (2,0,1,fun v=> ∃t p,v= .iface t p) (by unfold vz;simp);rcases h:Lib.atoiAll s with v|_|_
 ·refine(Any.strconv_Atoi_ok Tryz.laysC172 ⟨s.toArray⟩ Ω v (by simpa using h) w).mono ?_;rintro e w' ⟨rfl,hw⟩;refine⟨_,rfl,fun ν' _=>?_,?_⟩
  ·unfold wX;rw[h];simp only[aH,cc];exact⟨_,rfl,_,_,rfl,rfl,_,_,rfl,rfl,rfl⟩
  ·rcases hw with rfl|⟨t,rfl⟩
   ·exact⟨rfl,rfl,rfl,cq _,fun _ _ _=>rfl⟩
   ·exact Hb (Lib.bytesWorld_below _ _ _)
 ·refine(Any.strconv_Atoi_syntax Tryz.laysC172 ⟨s.toArray⟩ Ω (by simpa using h) _ w Hq (.inr ⟨_,_,rfl⟩)).mono ?_;rintro e w' ⟨N,rfl,_,_,ah⟩;exact⟨_,rfl,fun ν' _=>by unfold wX;rw[h];simp only[aH,cc];exact⟨_,rfl,_,_,rfl,rfl,_,_,rfl,⟨_,rfl,trivial⟩,rfl⟩,Hb ah⟩
 ·refine(Any.strconv_Atoi_range Tryz.laysC172 ⟨s.toArray⟩ Ω (by simpa using h) _ w Hr (.inr ⟨_,_,rfl⟩)).mono ?_;rintro e w' ⟨N,rfl,_,_,ah⟩;exact⟨_,rfl,fun ν' _=>by unfold wX;rw[h];simp only[aH,cc];exact⟨_,rfl,_,_,rfl,rfl,_,_,rfl,⟨_,rfl,trivial⟩,rfl⟩,Hb ah⟩
theorem adV(n:Int)(h:aY n):b6 aQ 63 [.int .i64 n] (.str (Lib.itoa n)):=by have k:=SI n h;refine bQ sk V4 aa6 fun aN=>?_;unfold Lv;exact cw
theorem Im(n:Int):Lib.itoa n≠[]:=by
 unfold Lib.itoa;split
 ·simp
 ·exact n1 _
end
end Go.Proofs.YtlnndmgfngfeiaaGreatDoor
namespace Go.Pv
section
open Go Go.Lib
def KH(n:Int):List al:=63::itoa n
def Tw(ns:List (List al))(w:List al):List (List al):=if w∈ns then ns else ns++[w]
def FX:T->List (List al)->List (List al)
 | .var n,ns=>Tw ns (KH n)
 | .pair a b,ns=>FX b (FX a ns)
 |_,ns=>ns
def JI(ms:List (List al)):T->T
 | .var n=>.var (ms.idxOf (KH n))
 | .pair a b=>.pair (JI ms a) (JI ms b)
 |t=>t
open Classical in
noncomputable def Tv(t:aX)(ns:List (List al)):List (List al):=if h:∃x:T,x.tm=t then FX (Classical.choose h) ns else ns
open Classical in
noncomputable def acK(ms:List (List al))(t:aX):aX:=if h:∃x:T,x.tm=t then(JI ms (Classical.choose h)).tm else t
noncomputable def Lc:List aX->List (List al)->List (List al)
 |[],ns=>ns
 |x::xs,ns=>Lc xs (Tv x ns)
mutual
noncomputable def La:Gm->List (List al)->List (List al)
 | .mk _ _ t g,ns=>Lb g (Lc t ns)
noncomputable def Lb:List Gm->List (List al)->List (List al)
 |[],ns=>ns
 |x::xs,ns=>Lb xs (La x ns)
end
mutual
noncomputable def Ry(ms:List (List al)):Gm->Gm
 | .mk k s t g=>.mk k s (t.map (acK ms)) (Rz ms g)
noncomputable def Rz(ms:List (List al)):List Gm->List Gm
 |[]=>[]
 |x::xs=>Ry ms x::Rz ms xs
end
def Q1:Nat->Nat->List (List al)
 |_,0=>[]
 |k,n+1=>KH k::Q1 (k+1) n
noncomputable def Sl(a:Nat)(body:Gm):List (List al):=La body (Q1 0 a)
noncomputable def Rl.num(x:Rl):Rl:=⟨x.name,x.ar,(Sl x.ar.toNat x.body).length-x.ar,Ry (Sl x.ar.toNat x.body) x.body⟩
end
section
open Go
def T.ap(tF:Int->T):T->T
 | .var n=>tF n
 | .pair a b=>.pair (a.ap tF) (b.ap tF)
 |t=>t
def ac9(s:List jn)(v:Int):T:=(TK s v).getD (.var v)
abbrev KU(s:List jn):Prop:=s.Pairwise fun x y=>x.v<y.v
def one(v:Int)(x:T)(w:Int):T:=if w=v then x else .var w
def CA{α:Type}(k:Int):List (Int×α)->aT α
 |[]=>none
 |(i,v)::r=>if k=i then some v else CA k r
def Sv{α:Type}(k:Int)(v:α):List (Int×α)->List (Int×α)
 |[]=>[(k,v)]
 |(i,w)::r=>if k=i then(i,v)::r else(i,w)::Sv k v r
def Iy{α:Type}(m:List (Int×α)):List Int:=m.map (·.1)
structure nN where
 up:List (Int×Int)
 shape:List (Int×T)
 shaped:List (Int×Bool)
 color:List (Int×Int)
 size:List (Int×Int)
 full:List (Int×T)
def nN.shd(c:nN)(x:Int):Bool:=(CA x c.shaped).getD false
def nN.shp(c:nN)(x:Int):T:=(CA x c.shape).getD .nil
def nN.sz(c:nN)(x:Int):Int:=(CA x c.size).getD 0
def nN.join(c:nN)(x y:Int):nN:={c with up:=Sv y x c.up}
structure Tq (m:List (Int×Int)) (nJ:Int->Int):Prop where
 up:∀v u,CA v m=some u->(0<=u/\u<=v/\u∈Iy m)/\nJ u=nJ v/\(nJ v=v↔u=v)
 no:∀v,v∉Iy m->nJ v=v
def nN.ph(c:nN)(x:Int):aT T:=if c.shd x then some (c.shp x)else none
def Ts(ph:Int->aT T)(nJ:Int->Int)(tF:Int->T):Prop:=(∀v,tF v=tF (nJ v))/\∀x t,nJ x=x->ph x=some t->tF x=t.ap tF
def Tr(V:List Int)(ph:Int->aT T):Prop:= ∀x t,ph x=some t->t.kind≠1/\(∀w,t.occ w=true->w∈V)/\x∈V
end
section
open Go
section
variable {ph:Int->aT T} {nJ:Int->Int} {r:Int->Nat}
end
structure pj (c:nN) (nJ:Int->Int):Prop where
 ru:Tq c.up nJ
 sh:Tr (Iy c.up) c.ph
 sat:∃tF,Ts c.ph nJ tF
section
variable {c:nN} {nJ:Int->Int} {x y:Int}
end
end
section
open Go
def cut(n:Nat):Int:=if 5001<(n:Int)then 5001 else n
section
variable {V:List Int} {ph:Int->aT T} {nJ:Int->Int} {r:Int->Nat}
end
end
section
open Go
def nN.new:nN:=⟨[],[],[],[],[],[]⟩
section
variable {V:List Int} {ph:Int->aT T} {nJ:Int->Int} {r:Int->Nat}
end
end
section
open Go
end
section
open Go Go.Lib
theorem aaN{s:List al}(h:fM s=true):s.length<=12:=by obtain⟨c,r,rfl,_,_,ao⟩:=BX h;simp;omega
structure KV (s t:List jn):Prop where
 sa:KU s
 sv:∀b∈s,4<=b.v/\b.v<8
 so:∀b∈s,b.t.ok=true/\b.t.size<=16/\∀w,b.t.occ w=true->0<=w/\w<4
 ta:KU t
 tk:∃k:Int,∀b∈t,0<=b.v/\b.v<4/\k<=b.v/\∀w,b.t.occ w=true->0<=w/\w<k
 to:∀b∈t,b.t.ok=true/\b.t.size<=16
def FZ(t:List jn)(b:jn):jn:=⟨b.v,b.t.ap (ac9 t)⟩
section
variable {s t:List jn} (h:KV s t)
include h
end
section
variable {s t:List jn} (h:KV s t)
include h
end
end
end Go.Pv
namespace Go.Proofs.YtlnndmgfngfeiaaGreatDoor
section
open Go Go.Pv
def bZ(l:List (List al)):List ae:=l.map ae.str
@[simp]theorem dT(S:aC->Prop)(l:List (List al)):kinL S (bZ l)=True:=by
 apply eq_true;induction l with
 |nil=>simp[bZ,kinL]
 |cons x r bo=>simp only[bZ,gY,kinL,kin]at bo⊢;exact⟨trivial,bo⟩
@[simp]theorem aiM(l:List (List al)):bz (bZ l)=bZ l:=by
 induction l with
 |nil=>rfl
 |cons x r bo=>simp only[bZ,gY,bz,bC]at bo⊢;rw[bo]
@[simp]theorem aiR(l:List (List al)):(bZ l).length=l.length:=by simp[bZ]
theorem mx{l:List (List al)}{i:Nat}(h:i<l.length):∀cu,(bZ l)[i]'cu= .str l[i]:=fun _=>by simp[bZ]
theorem cX(S:aC->Prop):∀a b:List ae,kinL S (a++b)=(kinL S a/\kinL S b)
 |[],b=>by simp[kinL]
 |x::a,b=>by simp only[dm,kinL,cX S a b,and_assoc]
mutual
def _root_.Go.Pv.Gm.w:Gm->Nat
 | .mk _ _ t g=>1+aX.szL t+sU g
def sU:List Gm->Nat
 |[]=>0
 |x::xs=>x.w+sU xs
end
theorem R6{g:Gm}(h:g.shape=true):g.name.length<=12:=by
 rw[oA,bM]at h;obtain⟨_,h⟩:=h;split at h
 ·simp at h;rw[h.1.1.1];simp
 ·split at h
  ·simp at h;have:=h.1.1;unfold gL at this;rw[bM]at this;exact aaN this.2
  ·split at h
   ·simp at h;rw[h.1.1.1];simp
   ·split at h
    ·simp at h;rw[h.1.1.1];simp
    ·cases h
theorem Cz(x:List al)(l:List (List al)):bZ (x::l)= .str x::bZ l:=rfl
theorem z1:bZ []=[]:=rfl
theorem Cy(a b:List (List al)):bZ (a++b)=bZ a++bZ b:=List.map_append
theorem eJ(S:aC->Prop)(l:List (List al)):kinL S (l.map ae.str)=True:=dT S l
mutual
def jl:ae->Nat
 | .int _ _=>1
 | .str _=>1
 | .slice _ _ xs=>kA xs
 | .agg cs=>kA cs
 |_=>0
def kA:List ae->Nat
 |[]=>0
 |x::xs=>jl x+kA xs
end
mutual
theorem aaD(b5:Int->List al):∀(p:ae) (k:Int),(dp b5 p k).2=k+jl p
 | .int _ _,k=>by simp[dp,jl]
 | .str _,k=>by simp[dp,jl]
 | .slice _ _ xs,k=>by simp only[dp,jl];exact EG b5 xs k
 | .agg cs,k=>by simp only[dp,jl];exact EG b5 cs k
 | .bool _,k=>by simp[dp,jl]
 | .junk,k=>by simp[dp,jl]
 | .ptr _ _,k=>by simp[dp,jl]
 | .eptr _,k=>by simp[dp,jl]
 | .iface _ _,k=>by simp[dp,jl]
 | .nilp,k=>by simp[dp,jl]
 | .tuple _,k=>by simp[dp,jl]
 | .func _ _,k=>by simp[dp,jl]
 | .gmap _,k=>by simp[dp,jl]
 | .row _ _ _,k=>by simp[dp,jl]
 | .rptr _ _ _ _ _,k=>by simp[dp,jl]
 | .hdm _ _,k=>by simp[dp,jl]
 | .hdi _ _ _,k=>by simp[dp,jl]
 | .cst _,k=>by simp[dp,jl]
theorem EG(b5:Int->List al):∀(a6:List ae) (k:Int),(bd b5 a6 k).2=k+kA a6
 |[],k=>by simp[bd,kA]
 |x::xs,k=>by simp only[bd,kA];rw[EG b5 xs,aaD b5 x];omega
end
mutual
theorem aeG:∀t:aX,jl (enc t)=3*t.sz
 | .mk k n s a=>by simp only[enc,jl,kA,aX.sz,KL a];omega
theorem KL:∀l:List aX,kA (ma l)=3*aX.szL l
 |[]=>rfl
 |x::xs=>by simp only[ma,kA,aX.szL,aeG x,KL xs];omega
end
mutual
theorem Ph:∀t:aX,hZ (enc t)
 | .mk k n s a=>by simp only[enc];exact .mk k n s (ma a) fun y bA=>Pj a y bA
theorem Pj:∀(l:List aX),∀y∈ma l,hZ y
 |[],y,h=>by simp[ma]at h
 |x::xs,y,h=>by
  simp only[ma,gp]at h;rcases h with rfl|h
  ·exact Ph x
  ·exact Pj xs y h
end
theorem Pk{l:List aX}:∀y∈l.map enc,hZ y:=fun y bA=>by obtain⟨t,_,rfl⟩:=lZ.1 bA;exact Ph t
mutual
theorem Pg:∀g:Gm,jq (pF g)
 | .mk k s t g=>by simp only[pF];exact .mk k s (t.map enc) (mc g) Pk fun y bA=>Pf g y bA
theorem Pf:∀(l:List Gm),∀y∈mc l,jq y
 |[],y,h=>by simp[mc]at h
 |x::xs,y,h=>by
  simp only[mc,gp]at h;rcases h with rfl|h
  ·exact Pg x
  ·exact Pf xs y h
end
theorem ZR{l:List Gm}:∀y∈l.map Gm.e,jq y:=fun y bA=>by obtain⟨g,_,rfl⟩:=lZ.1 bA;exact Pg g
mutual
theorem S5:∀g:Gm,jl (pF g)<=3*g.w
 | .mk k s t g=>by have I:=S6 g;have J:=KL t;rw[AS]at J;simp only[pF,jl,kA,Gm.w,J];omega
theorem S6:∀l:List Gm,kA (mc l)<=3*sU l
 |[]=>by simp[mc,kA,sU]
 |x::xs=>by have I:=S5 x;have J:=S6 xs;simp only[mc,kA,sU];omega
end
theorem WS{t:aX}(h:t.fits=true):t.sz<=5000:=by
 obtain⟨x,rfl,J⟩:=aX.fits_ex h;have e:x.tm.sz=x.size:=by
  clear J h;induction x with
  |pair a b uA uB=>simp[T.tm,aX.sz,aX.szL,T.size,uA,uB];omega
  |_=>rfl
 unfold T.fit at J;simp only[bM,fK]at J;omega
theorem Sf:∀{l:List aX},(∀t∈l,t.fits=true)->aX.szL l<=5000*l.length
 |[],_=>by simp[aX.szL]
 |t::l,h=>by have I:=WS (h t Ψ);have J:=Sf (l:=l) fun x af=>h x (by simp[af]);simp only[aX.szL,lx];omega
theorem adh{g:Gm}(h:g.shape=true):g.ts.length<=4:=by
 rw[oA,bM]at h;obtain⟨_,h⟩:=h;split at h
 ·simp at h;have J:=h.1.2;unfold lp at J;repeat' split at J
  all_goals omega
 ·split at h
  ·simp at h;exact h.2
  ·split at h
   ·simp at h;rw[h.1.1.2];simp
   ·split at h
    ·simp at h;rw[h.1.1.2];simp
    ·simp at h
theorem aaP{g:Gm}(h:g.shape=true)(aK:kz g.kind=false):g.gs=[]:=by
 rw[oA,bM]at h;obtain⟨_,h⟩:=h;simp[kz]at aK;split at h
 ·simp at h;exact h.1.1.2
 ·split at h
  ·simp at h;exact h.1.2
  ·split at h
   ·omega
   ·split at h
    ·omega
    ·simp at h
mutual
theorem R7:∀g:Gm,g.shape=true->g.w<=20001*g.sz
 | .mk k s t gs,h=>by
  have I:=adh h;have J:=Sf (l:=t) (x6 h);have ao:sU gs<=20001*oN gs:=by
   by_cases aK:kz k=true
   ·exact R8 gs fun x af=>_root_.Go.Pv.shape_gs h aK x af
   ·have:gs=[]:=aaP (g:= .mk k s t gs) h (Bool.eq_false_iff.2 aK);subst this;simp[sU]
  simp only[Gm.ts]at I;simp only[Gm.w,Gm.sz];omega
theorem R8:∀l:List Gm,(∀x∈l,x.shape=true)->sU l<=20001*oN l
 |[],_=>by simp[sU]
 |x::xs,h=>by have I:=R7 x (h x Ψ);have J:=R8 xs fun y bA=>h y (by simp[bA]);simp only[sU,oN];omega
end
theorem WT{g:Gm}{n:Nat}(h:g.fits n=true):kA (g.ts.map enc)+kA (g.gs.map Gm.e)+2<=60003*n:=by unfold Gm.fits at h;simp only[bM,fK]at h;have I:=S5 g;have J:=R7 g h.1;have e:pF g=g.e:=rfl;rw[e,Gm.e_eq]at I;simp only[jl,kA]at I;omega
@[simp]theorem ahH(n:Nat):(aC.loc n=dv)=cZ:=eq_false (oq n)
@[simp]theorem aie(n:Nat):(dv=aC.loc n)=cZ:=eq_false fun h=>oq n h.symm
@[simp]theorem ahI(m b n:Nat):(aC.loc m∈CC b n)=cZ:=eq_false fun h=>by obtain⟨_,e,_⟩:=Qd.1 h;cases e
theorem _root_.Go.Pv.CallDo.tree{P:bK}{n:Nat}{args:List ae}{st:aS}{d:aT Nat}{K:aS->Prop}{ε:Nat->Nat}{b:Nat}{p lS p1:ae}(aF:b0 p)(aE:bO lS=bO p)
  (aL:b7 P n args (dR ε b p) fun cE ai=>cE=p1/\ai=dR ε b lS) (he:st.e=dc ε b p) (aa:kinL (rng b (b+bO p)) args) (h:K ⟨fk d p1 st.t,st.b,dc ε b lS,st.n,st.o++ec (dR ε b lS)⟩):CallDo P n args st d K:=by
 refine CallDo.ob aL (nR aF) (fun k cs aa=>by simp[Pv.look]at aa) (fun k o aa=>by rw[he];exact aa) (nA (fun k aa=>(Ax k).2 aa) _ aa) ?_;rintro cE ai ⟨rfl,rfl⟩;refine⟨qk aE,?_⟩;rw[he,wO,Ae];simpa using h
def qK(o:aT Int):ae:= .tuple [.int .i64 (o.getD 0),.bool o.isSome]
theorem CL(s:List al)(aG:s.length<=bN):b6 aQ 179 [.str s] (qK (fQ s)):=by
 have fp:=adT s aG;unfold wX at fp;unfold fQ qK;rcases h:Lib.atoiAll s with v|_|_
 ·rw[h]at fp;obtain⟨Lk,cb⟩:=Lib.atoiAll_bounds h;have eG:=SI v (by unfold aY;omega);simp only at fp⊢;by_cases he:Lib.itoa v=s
  ·rw[if_pos he];rw[he]at eG;refine bQ sk Dt ET fun aN=>?_;unfold AD;exact cw
  ·rw[bq he];refine bQ sk Dt ET fun aN=>?_;unfold AD;simp;((with_reducible repeat' first|refine aA ?_|refine a8 fp ?_|refine ba fp ?_|refine a8 eG ?_|refine ba eG ?_|simp[he]|((first|apply dG|apply dJ|apply dI)<;>intro h<;>try simp at h))<;>(try exact ev));simp[cg,Q4,a1,be,aV]
 ·rw[h]at fp;simp only at fp⊢;refine bQ sk Dt ET fun aN=>?_;unfold AD;exact cw
 ·rw[h]at fp;simp only at fp⊢;refine bQ sk Dt ET fun aN=>?_;unfold AD;exact cw
theorem nG(v:Int):b6 aQ 86 [.int .i64 v] (T.var v).e:=by refine bQ sk Wl abn fun aN=>?_;unfold LN;exact cw
theorem FI(g:List al):b6 aQ 207 [.str g] (T.sym g).e:=by refine bQ sk Wh abj fun aN=>?_;unfold LJ;exact cw
theorem wN(k:Int):b6 aQ 208 [.int .i64 k] (T.num k).e:=by refine bQ sk We abg fun aN=>?_;unfold LG;exact cw
theorem P5{l:List T}{i:Nat}{x:T}(h:l[i]? =some x)(t:T):e9 (l.drop i) t= .pair x (e9 (l.drop (i+1)) t):=by rw[fi h];rfl
def zm(l:List T)(k:Nat):List ae:=if k=l.length then cU else cells (e9 (l.drop k) .nil).e
theorem aak(l:List T){k:Nat}(h:k<=l.length):∃a b c d,zm l k=[.int .i64 a,.int .i64 b,.str c,d]/\(∀S:aC->Prop,kin S d=True)/\ae.agg [.int .i64 a,.int .i64 b,.str c,bC d]=(e9 (l.drop k) .nil).e:=by
 unfold zm;split
 ·rename_i h;rw[h,jN];exact⟨0,0,[],.slice 4 .nil [],rfl,fun S=>by simp[kin,kinL],rfl⟩
 ·rw[TY];refine⟨_,_,_,_,rfl,fun S=>by simp[kin],?_⟩;simp[bC]
theorem aem(l:List T):b6 aQ 205 [.slice 4 .no (l.map T.e)] (e9 l .nil).e:=by
 refine bQ sk Wb abd fun aN=>?_;unfold LC;have ah:l.length<=bN:=by simpa[iZ,js,ja]using aN
 have sV:aY ((l.length:Int)-1):=by unfold aY;unfold bN at ah;omega
 clear aN;simp[sV];(with_reducible repeat' first|refine aA ?_|simp[sV]);refine h1 (fun j:Int=>⟨[(0,.slice 4 .no (l.map T.e)),(2,.ptr (.loc 0) 0),(3,.ptr (.loc 1) 0),(4,.int .i64 j)],[(.loc 0,cU),(.loc 1,zm l (j+1).toNat)],[],2,[]⟩) (fun j=>(j+1).toNat) (fun j=> -1<=j/\j<l.length) (l.length-1) (by simp[zm];exact⟨by simp[fresh,kinL,kin,bt,au,Pv.look,cU],cR (by simp[fresh,kinL,kin,bt,au,Pv.look,cU]),cS (by simp[fresh,kinL,kin,cB,au,Pv.look,cU]),Ψ⟩) ⟨Ω,Ω⟩ ?_;rintro j ⟨Ox,kP⟩ _;obtain⟨k,aa⟩:∃k,k=(j+1).toNat:=⟨_,rfl⟩;have fP:k<=l.length:=Ω
 simp only[<-aa];obtain⟨cK,aeM,kC,aeN,de,O4,eI⟩:=aak l fP;rw[de];have kQ:aY (j-1):=by unfold aY;unfold bN at ah;omega
 by_cases il:0<=j
 ·obtain⟨n,rfl⟩:∃n:Nat,j=n:=⟨j.toNat,Ω⟩;obtain rfl:k=n+1:=Ω
  have aK:n<l.length:=Ω
  obtain⟨x,af,fF⟩:=hj aK;have mU:=SR x (e9 (l.drop (n+1)) .nil);simp[aK,fF];(with_reducible repeat' first|refine aA ?_|refine a8 mU ?_|refine ba mU ?_|simp[aK,fF,eI,O4,kQ]);refine b9.whl ((n:Int)-1) Ω ⟨Ω,Ω⟩ ?_;have aj:((n:Int)-1+1).toNat=n:=Ω
  have aJ:zm l n=cells (e9 (l.drop n) .nil).e:=by unfold zm;rw[bq Ω]
  rw[aj,aJ,P5 af];exact⟨by simp[fresh,kinL,kin,bt,au,Pv.look,cU],cR (by simp[fresh,kinL,kin,bt,au,Pv.look,cU]),cS (by simp[fresh,kinL,kin,cB,au,Pv.look,cU]),Ψ⟩
 ·obtain rfl:j= -1:=Ω
  obtain rfl:k=0:=Ω
  have Zj:ae.agg [ae.int kD cK,ae.int kD aeM,ae.str kC,bC aeN]=(e9 l .nil).e:=eI;simp;simp[cg,Q9,a1,be,aV,bC,bz,Zj,O4,kin,kinL]
def LL:C:=(ag [bD 2 false] (.seq (.drawn true 13 [ab 3 0,hf 4 3,bm 5 1 1 4,bf 6 1 5,ab 7 0,hf 8 7,bm 9 0 1 8,bf 10 1 9,c7 11 10,cz 12 .eql 6 11,ab 2 12]) .ret))
@[simp] def Rc:List cr:=[.tmp 2]
def w1:C:=(ag [ht 2 cU,bD 3 false] (ag [ab 7 0,cK 8 152 7,ab 6 8,dN 9 0 6,dN 10 1 6,ht 4 cU,bE 4 4 9,ab 5 10] (.seq (ag [ab 11 5,dB 12 11,ab 13 12,aI 13 false (ck 14 4 4),aI 13 false (cK 15 77 14),aI 13 false (dB 16 15),dk 17 13 16] (bh 17 (ag [kB 18 cU [],bE 4 2 18,bD 3 false] .ret) .skip)) (ag [ck 19 4 4,bE 4 2 19,bD 3 true] .ret))))
@[simp] def acg:List cr:=[.cell 2 true 4,.tmp 3]
def tS:C:=(ag [ht 2 cU,bD 3 false] (.seq (ag [ab 15 0,cK 16 83 15] (bh 16 (ag [kB 17 cU [],bE 4 2 17,bD 3 false] .ret) .skip)) (ag [ab 18 0,cK 19 178 18,ab 4 19] (.seq (ag [ab 20 4,bk 21 (.bin .eql false (.t 20) (.c (.str [40])))] (bh 21 (ag [ab 22 0,hf 23 22,bm 24 1 1 23,bf 25 1 24,bc 26 .add 25 1,hf 27 22,bm 28 1 1 27,bE 1 28 26] (ag [hE 29 4 40 [],ab 5 29] (.block 0 (.loop (.block 1 (.seq (ag [ab 30 0,⟨none,.call (some 31) (.c (.func 177 [])) [.t 30,(.c (.str [41]))]⟩] (bh 31 (ag [ab 32 5,cK 33 205 32,bE 4 2 33,bD 3 true] .ret) .skip)) (.seq (ag [ab 34 0,cK 35 178 34,bk 36 (.bin .eql false (.t 35) (.c (.str [46]))),ab 37 36,bP 37 true 38 0,aI 37 true (cK 39 83 38),aI 37 true (dB 40 39),e7 41 37 40] (bh 41 (ag [ab 42 0,hf 43 42,bm 44 1 1 43,bf 45 1 44,bc 46 .add 45 1,hf 47 42,bm 48 1 1 47,bE 1 48 46] (ag [ab 50 0,cK 51 152 50,ab 49 51,dN 52 0 49,dN 53 1 49,ht 6 cU,bE 4 6 52,ab 7 53] (.seq (ag [ab 54 7,dB 55 54,ab 56 55,bP 56 false 57 5,aI 56 false (c7 58 57),aI 56 false (bc 59 .eql 58 0),dk 60 56 59,ab 61 60,bP 61 false 62 0,⟨(some (61,false)),.call (some 63) (.c (.func 177 [])) [.t 62,(.c (.str [41]))]⟩,aI 61 false (dB 64 63),dk 65 61 64] (bh 65 (ag [kB 66 cU [],bE 4 2 66,bD 3 false] .ret) .skip)) (.seq (ag [ab 67 5,c7 68 67,bc 69 .sub 68 1,ab 8 69] (.block 2 (.loop (.seq (ag [ab 70 8,bc 71 .geq 70 0] (bh 71 .skip (.exit 2))) (.seq (.block 3 (.drawn true 132 [ab 74 5,ab 75 8,cQ 76 4 74 75,ck 77 4 76,ck 78 4 6,eZ 79 206 77 78,bE 4 6 79])) (.region [ab 72 8,bc 73 .sub 72 1,ab 8 73])))))) (ag [ck 80 4 6,bE 4 2 80,bD 3 true] .ret))))) .skip)) (ag [ab 82 0,cK 83 152 82,ab 81 83,dN 84 0 81,dN 85 1 81,ht 9 cU,bE 4 9 84,ab 10 85] (.seq (ag [ab 86 10,dB 87 86] (bh 87 (ag [kB 88 cU [],bE 4 2 88,bD 3 false] .ret) .skip)) (.region [ab 89 5,ck 90 4 9,hE 91 4 40 [.t 90],lW 92 4 40 89 91,ab 5 92])))))))))) .skip)) (ag [ab 93 0,hf 94 93,bm 95 1 1 94,bf 96 1 95,bc 97 .add 96 1,hf 98 93,bm 99 1 1 98,bE 1 99 97] (.seq (ag [ab 100 4,bk 101 (.sidx (.t 100) (da 0)),bk 102 (.bin .eql false (.t 101) (.c (.int .u8 63)))] (bh 102 (ag [ab 104 4,bk 105 (.ssl (.t 104) (some (da 1)) none),cK 106 179 105,ab 103 106,dN 107 0 103,dN 108 1 103,ab 11 107,ab 12 108] (ag [ab 109 11,cK 110 86 109,ab 111 12,ab 112 111,bP 112 true 113 11,aI 112 true (bc 114 .geq 113 0),e7 115 112 114,ab 116 115,bP 116 true 117 11,aI 116 true (bc 118 .leq 117 100000),e7 119 116 118,bE 4 2 110,ab 3 119] .ret)) .skip)) (.seq (ag [ab 120 4,cK 121 170 120] (bh 121 (ag [ab 122 4,cK 123 207 122,bE 4 2 123,bD 3 true] .ret) .skip)) (ag [ab 125 4,cK 126 179 125,ab 124 126,dN 127 0 124,dN 128 1 124,ab 13 127,ab 14 128] (ag [ab 129 13,cK 130 208 129,ab 131 14,bE 4 2 130,ab 3 131] .ret)))))))))
@[simp] def ach:List cr:=[.cell 2 true 4,.tmp 3]
def AG:C:=(ag [bD 4 false] (.seq (.seq (.drawn false 28 [ab 5 0,cK 6 178 5,ab 7 1,cz 8 .eql 6 7,ab 9 8,bP 9 true 10 0,aI 9 true (hf 11 10),aI 9 true (bm 12 1 1 11),aI 9 true (bk 13 (.loadB false 1 (.t 12))),bP 9 true 14 0,aI 9 true (hf 15 14),aI 9 true (bm 16 0 1 15),aI 9 true (bk 17 (.loadB false 1 (.t 16))),aI 9 true (c7 18 17),aI 9 true (cz 19 .lss 13 18),e7 20 9 19]) (bh 20 (ag [ab 21 0,hf 22 21,bm 23 1 1 22,bf 24 1 23,bc 25 .add 24 1,hf 26 21,bm 27 1 1 26,bE 1 27 25] (ag [bD 4 true] .ret)) .skip)) (ag [bD 4 false] .ret)))
@[simp] def Cf:List cr:=[.tmp 4]
def LM:C:=(ag [bk 2 (.mov (.c (.str [])))] (.seq (.seq (.drawn true 23 [ab 3 0,hf 4 3,bm 5 1 1 4,bf 6 1 5,ab 7 0,hf 8 7,bm 9 0 1 8,bf 10 1 9,c7 11 10,cz 12 .lss 6 11]) (bh 12 (.seq (.drawn true 23 [ab 13 0,hf 14 13,bm 15 0 1 14,bf 16 1 15,ab 17 0,hf 18 17,bm 19 1 1 18,bf 20 1 19,cQ 21 1 16 20,bf 22 1 21,ab 2 22]) .ret) .skip)) (ag [bk 2 (.mov (.c (.str [])))] .ret)))
@[simp] def Jv:List cr:=[.tmp 2]
def Ab:List (Nat×cJ):=[
 (3,⟨1,8,.int .i64,.int .i64 0⟩),
 (9,⟨1,16,.str,.str []⟩),
 (36,⟨1,24,.slice 120,.slice 5 .nil []⟩),
 (38,⟨1,24,.slice 40,.slice 4 .nil []⟩),
 (40,⟨4,56,.struct [(0,3),(1,3),(2,9),(3,38)],.agg [.int .i64 0,.int .i64 0,.str [],.slice 4 .nil []]⟩),
 (70,⟨1,24,.slice 9,.slice 1 .nil []⟩),
 (120,⟨5,64,.struct [(0,3),(1,40)],.agg [.int .i64 0,.int .i64 0,.int .i64 0,.str [],.slice 4 .nil []]⟩),
 (131,⟨2,32,.struct [(0,70),(1,3)],.agg [.slice 1 .nil [],.int .i64 0]⟩)]
theorem ls:ez aQ Ab=true:=by kernel_rfl
theorem abl:c8 Ab LL Rc 1 Tryz.f83=true:=by kernel_rfl
theorem Wj:aQ.funcs[(83:Nat)]? =some Tryz.f83:=Tryz.func83
theorem zy:c8 Ab w1 acg 1 Tryz.f84=true:=by kernel_rfl
theorem yN:aQ.funcs[(84:Nat)]? =some Tryz.f84:=Tryz.func84
theorem wh:c8 Ab tS ach 1 Tryz.f152=true:=by kernel_rfl
theorem vt:aQ.funcs[(152:Nat)]? =some Tryz.f152:=Tryz.func152
theorem EW:c8 Ab AG Cf 2 Tryz.f177=true:=by kernel_rfl
theorem Dw:aQ.funcs[(177:Nat)]? =some Tryz.f177:=Tryz.func177
theorem abm:c8 Ab LM Jv 1 Tryz.f178=true:=by kernel_rfl
theorem Wk:aQ.funcs[(178:Nat)]? =some Tryz.f178:=Tryz.func178
theorem IM{α β:Type}(k:aC):∀{l:List (aC×α)} {c6:List (aC×β)},l.map (·.1)=c6.map (·.1)->(Pv.look k l).isSome=(Pv.look k c6).isSome
 |[],[],_=>rfl
 |[],_::_,h=>by simp at h
 |_::_,[],h=>by simp at h
 |(i,x)::r,(j,y)::cE,h=>by
  simp only[gY,Ai]at h;simp only[Pv.look];obtain⟨rfl,h⟩:=h;split
  ·rfl
  ·exact IM k h
theorem _root_.Go.Pv.Same.keys{s ai:dD}(ah:s.b.map (·.1)=ai.b.map (·.1))(he:s.e.map (·.1)=ai.e.map (·.1)):Same s ai:=⟨fun k=>IM k ah,fun k=>IM k he⟩
end
section
open Go Go.Pv
variable {ky:Nat}
def av(ky:Nat):ae:= .ptr (.obj ky) 0
def ad(ky:Nat)(l:List (List al))(i:Nat):dD:=⟨[(.obj ky,[.slice 1 .no (bZ l),.int .i64 i])],[]⟩
theorem a7(l:List (List al))(i:Nat):h8 (ad ky l i):=by unfold ad;exact h8.of ⟨by intro m;simp[Pv.look],by intro m;simp[Pv.look]⟩ (by simp[kinL,kin]) Ψ
theorem bJ(l c6:List (List al))(i j:Nat):Same (ad ky l i) (ad ky c6 j):=Same.keys (by simp[ad]) (by simp[ad])
section
variable (l:List (List al)) (i:Nat)
theorem ND:b7 aQ 83 [av ky] (ad ky l i) fun r ai=>r= .bool ((i:Int)==l.length)/\ai=ad ky l i:=by have aq:=a7 (ky:=ky) l i;simp only[ad]at aq⊢;refine b7.mk mixed ls Wj abl Ψ aq.obj fun aN b3=>?_;unfold LL;simp[av];refine cW.at (ad ky l i) Ψ (a7 _ _) (Same.refl _) (by simp only[ad];exact aB) (by simp only[ad];exact aB) ?_;simp[du,Rc,a1,be,aV,ad,au,Pv.look,kin,kinL]
theorem DH:b7 aQ 178 [av ky] (ad ky l i) fun r ai=>r= .str (l[i]?.getD [])/\ai=ad ky l i:=by
 have aq:=a7 (ky:=ky) l i;simp only[ad]at aq⊢;refine b7.mk mixed ls Wk abm Ψ aq.obj fun aN b3=>?_;unfold LM;simp[av];by_cases h:i<l.length
 ·obtain⟨x,af⟩:∃x,l[i]? =some x:=⟨_,cF h⟩;have Ec:∀h,(bZ l)[i]'h= .str x:=fun cu=>by rw[mx h,cF h]at*;cases af;rfl
  rw[af];simp[h,Ec];refine cW.at (ad ky l i) Ψ (a7 _ _) (Same.refl _) (by simp only[ad];exact aB) (by simp only[ad];exact aB) ?_;simp[du,Jv,a1,be,aV,ad,au,Pv.look,kin,kinL]
 ·rw[List.getElem?_eq_none Ω];simp[h];refine cW.at (ad ky l i) Ψ (a7 _ _) (Same.refl _) (by simp only[ad];exact aB) (by simp only[ad];exact aB) ?_;simp[du,Jv,a1,be,aV,ad,au,Pv.look,kin,kinL]
theorem NM(az:i<=1000000)(s:List al):b7 aQ 177 [av ky,.str s] (ad ky l i) fun r ai=>r= .bool (decide (l[i]? =some s))/\ai=ad ky l (if l[i]? =some s then i+1 else i):=by
 have aq:=a7 (ky:=ky) l i;have mU:=DH (ky:=ky) l i;have b1:aY ((i:Int)+1):=by unfold aY;omega
 by_cases h:i<l.length
 ·obtain⟨x,af⟩:∃x,l[i]? =some x:=⟨_,cF h⟩;rw[af]at mU⊢;simp only[oG]at mU;by_cases eQ:x=s
  ·subst eQ;simp only[if_true,decide_true,ad]at aq⊢;refine b7.mk mixed ls Dw EW Ψ aq.obj fun aN b3=>?_;unfold AG;simp[av];(refine pg.ob (mU) (by first|exact a7 _|exact a7 ‹_› _) (by first|exact a7 _|exact a7 ‹_› _) (Same.keys (by simp[ad]) (by simp[ad])) (by simp only[ad,dm,ef];exact aB) (by simp only[ad,dm,ef];exact aB) (by simp[au,Pv.look,ad]) ?_;simp[bg,ad]);((with_reducible repeat' first|refine aA ?_|simp[h,b1]|((first|apply dG|apply dJ|apply dI)<;>intro h<;>try simp at h))<;>(try exact ev));refine cW.at (ad ky l (i+1)) Ψ (a7 _ _) (bJ _ _ _ _) (by simp only[ad];exact aB) (by simp only[ad];exact aB) ?_;simp[du,Cf,a1,be,aV,ad,au,Pv.look,kin,kinL]
  ·have b4:¬(some x=some s):=by simpa using eQ
   simp only[b4,if_false,decide_false,ad]at aq⊢;refine b7.mk mixed ls Dw EW Ψ aq.obj fun aN b3=>?_;unfold AG;simp[av];(refine pg.ob (mU) (by first|exact a7 _|exact a7 ‹_› _) (by first|exact a7 _|exact a7 ‹_› _) (Same.keys (by simp[ad]) (by simp[ad])) (by simp only[ad,dm,ef];exact aB) (by simp only[ad,dm,ef];exact aB) (by simp[au,Pv.look,ad]) ?_;simp[bg,ad]);((with_reducible repeat' first|refine aA ?_|simp[eQ]|((first|apply dG|apply dJ|apply dI)<;>intro h<;>try simp at h))<;>(try exact ev));refine cW.at (ad ky l i) Ψ (a7 _ _) (bJ _ _ _ _) (by simp only[ad];exact aB) (by simp only[ad];exact aB) ?_;simp[du,Cf,a1,be,aV,ad,au,Pv.look,kin,kinL]
 ·rw[List.getElem?_eq_none Ω]at mU⊢;simp only[oG]at mU;have b4:¬((none:aT (List al))=some s):=by simp
  simp only[b4,if_false,decide_false,ad]at aq⊢;cases s with
  |nil=>refine b7.mk mixed ls Dw EW Ψ aq.obj fun aN b3=>?_;unfold AG;simp[av];(refine pg.ob (mU) (by first|exact a7 _|exact a7 ‹_› _) (by first|exact a7 _|exact a7 ‹_› _) (Same.keys (by simp[ad]) (by simp[ad])) (by simp only[ad,dm,ef];exact aB) (by simp only[ad,dm,ef];exact aB) (by simp[au,Pv.look,ad]) ?_;simp[bg,ad]);((with_reducible repeat' first|refine aA ?_|simp[h]|((first|apply dG|apply dJ|apply dI)<;>intro h<;>try simp at h))<;>(try exact ev));refine cW.at (ad ky l i) Ψ (a7 _ _) (bJ _ _ _ _) (by simp only[ad];exact aB) (by simp only[ad];exact aB) ?_;simp[du,Cf,a1,be,aV,ad,au,Pv.look,kin,kinL]
  |cons c s=>refine b7.mk mixed ls Dw EW Ψ aq.obj fun aN b3=>?_;unfold AG;simp[av];(refine pg.ob (mU) (by first|exact a7 _|exact a7 ‹_› _) (by first|exact a7 _|exact a7 ‹_› _) (Same.keys (by simp[ad]) (by simp[ad])) (by simp only[ad,dm,ef];exact aB) (by simp only[ad,dm,ef];exact aB) (by simp[au,Pv.look,ad]) ?_;simp[bg,ad]);((with_reducible repeat' first|refine aA ?_|simp[h]|((first|apply dG|apply dJ|apply dI)<;>intro h<;>try simp at h))<;>(try exact ev));refine cW.at (ad ky l i) Ψ (a7 _ _) (bJ _ _ _ _) (by simp only[ad];exact aB) (by simp only[ad];exact aB) ?_;simp[du,Cf,a1,be,aV,ad,au,Pv.look,kin,kinL]
end
end
end Go.Proofs.YtlnndmgfngfeiaaGreatDoor
