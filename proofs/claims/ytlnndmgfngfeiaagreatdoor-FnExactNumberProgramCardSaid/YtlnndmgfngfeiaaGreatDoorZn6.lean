/- Contracts: WriteString. -/
import Derived.Shelf.Sort.Plain
import Derived.Ground.NamesProg
import Derived.Test.YtlnndmgfngfeiaaGreatDoorProg
import Derived.Sort.OwnSortedInts
import Derived.Lib.OwnBridge
import Derived.Shelf.Strings.Builder1
import Derived.Shelf.Strconv.Itoa3
import Derived.Shelf.Strconv.AtoiAll
import Derived.ProofKit
import Derived.WalkKit
import Derived.Lib.ItoaLen
import Derived.Test.YtlnndmgfngfeiaaGreatDoorZn5
set_option linter.all false
set_option maxHeartbeats 4000000
set_option maxRecDepth 4000
open Array renaming getD_eq_getD_getElem?->pO,getElem?_eq_getElem->pP,replicate->rs
open Bool renaming and_eq_true->bJ,false_eq_true->kG,not_eq_true'->sG
open ByteArray renaming size->OA
open Go renaming Program->bS
open Go.Extern.AbiNoEscape renaming same->aqg
open Go.Proofs.Tryz renaming prog->aF
open Go.Result renaming andThen_ok->fw
open Go.Sem renaming run_bind->fu,run_pure->gq
open Go.Value renaming cells->nO,int->oV
open List renaming all_eq_true->ji,append_assoc->lr,cons_append->dF,eq_nil_of_length_eq_zero->sI,getElem?_eq_getElem->cL,getElem?_eq_some_iff->fo,length_nil->mJ,length_take->pS,map_cons->fF,mem_append->hl,mem_append_left->ni,mem_append_right->k2,mem_cons->gy,mem_map->nj,mem_of_getElem?->e1,nodup_append->qC,take_add_one->k3,take_append_drop->ry,take_length->hE,take_of_length_le->vB,take_succ_cons->sK
open List.Nodup renaming length_le_of_subset->alA
open List.Pairwise renaming imp_of_mem->aql,map->alB
open List.Perm renaming eq_of_pairwise->aqm
open List.cons renaming injEq->sH
open Nat renaming le_refl->cc,lt_or_ge->mc
open Option renaming isSome_iff_exists->fv,map_eq_some_iff->iN,map_some->lM
open Option.some renaming inj->gB,injEq->ei
open Prod.mk renaming injEq->gY
open _root_ renaming ByteArray->k1,False->dr,Option->aW,UInt8->aj,beq_eq_false_iff_ne->jj,congrArg->er,decide_eq_true->oX,decide_eq_true_eq->fs,if_neg->br
namespace Go.Pv
section
open Go Go.Lib
inductive Gm where
 |mk (kind:Int) (name:List aj) (ts:List Tm) (gs:List Gm)
 deriving Inhabited
def Gm.kind:Gm->Int| .mk k _ _ _=>k
def Gm.name:Gm->List aj| .mk _ s _ _=>s
def Gm.ts:Gm->List Tm| .mk _ _ t _=>t
def Gm.gs:Gm->List Gm| .mk _ _ _ g=>g
mutual
def p1:Gm->ae
 | .mk k s t g=>.agg [.int .i64 k,.str s,.slice 4 .no (t.map enc),.slice 4 .no (nx g)]
def nx:List Gm->List ae
 |[]=>[]
 |x::xs=>p1 x::nx xs
end
def Gm.e(g:Gm):ae:=p1 g
theorem Gd:∀l,nx l=l.map Gm.e
 |[]=>rfl
 |x::xs=>by simp[nx,Gd xs,Gm.e]
theorem Gm.e_eq(g:Gm):g.e= .agg [.int .i64 g.kind,.str g.name,.slice 4 .no (g.ts.map enc),.slice 4 .no (g.gs.map Gm.e)]:=by cases g;simp[Gm.e,p1,Gd,Gm.kind,Gm.name,Gm.ts,Gm.gs]
mutual
theorem Uk(S:aC->Prop):∀g:Gm,kin S (p1 g)
 | .mk k s t g=>by simp[p1,kin,kinL,LL S g]
theorem LL(S:aC->Prop):∀l:List Gm,kinL S (nx l)
 |[]=>by simp[nx,kinL]
 |x::xs=>by simp[nx,kinL,Uk S x,LL S xs]
end
mutual
theorem W5:∀g:Gm,bD (p1 g)=p1 g
 | .mk k s t g=>by simp[p1,bD,bC,NH g]
theorem NH:∀l:List Gm,bC (nx l)=nx l
 |[]=>by simp[nx,bC]
 |x::xs=>by simp[nx,bC,W5 x,NH xs]
end
@[simp]theorem aon(S:aC->Prop)(g:Gm):kin S g.e=True:=eq_true (Uk S g)
@[simp]theorem aog(S:aC->Prop)(l:List Gm):kinL S (l.map Gm.e)=True:=by rw[<-Gd];exact eq_true (LL S l)
@[simp]theorem apT(g:Gm):bD g.e=g.e:=W5 g
@[simp]theorem apO(l:List Gm):bC (l.map Gm.e)=l.map Gm.e:=by rw[<-Gd];exact NH l
@[simp]theorem apw(g:Gm):eV g.e=true:=by rw[Gm.e_eq];rfl
@[simp]theorem amv(g:Gm):cells g.e=[.int .i64 g.kind,.str g.name,.slice 4 .no (g.ts.map enc),.slice 4 .no (g.gs.map Gm.e)]:=by rw[Gm.e_eq];rfl
@[simp]theorem alS(g:Gm):ae.agg [.int .i64 g.kind,.str g.name,.slice 4 .no (g.ts.map enc),.slice 4 .no (g.gs.map Gm.e)]=g.e:=(Gm.e_eq g).symm
@[simp]theorem am2(off:Nat)(fi:Bool)(sz:Nat)(g:Gm):pf off fi sz (.eptr g.e)=if fi then some (off+sz<=4,.eptr (.agg (([.int .i64 g.kind,.str g.name,.slice 4 .no (g.ts.map enc),.slice 4 .no (g.gs.map Gm.e)].drop off).take sz)))else(([.int .i64 g.kind,.str g.name,.slice 4 .no (g.ts.map enc),.slice 4 .no (g.gs.map Gm.e)]:List ae)[off]?).map fun p=>(eV p=true/\cells p=[p],.eptr p):=by rw[Gm.e_eq];rfl
@[simp]theorem an1(g:Gm):Pv.isAgg 4 g.e:=by rw[Gm.e_eq];exact⟨_,rfl,rfl⟩
def ia:List aj:=[116,114,117,101]
def iL:List aj:=[102,97,105,108]
def yH:List aj:=[61]
def yG:List aj:=[47,61]
def sD:List aj:=[115,121,109,98,111,108]
def sB:List aj:=[110,117,109,98,101,114]
def sx:List aj:=[97,98,115,101,110,116]
def sy:List aj:=[97,110,100]
def sC:List aj:=[111,114]
def sA:List aj:=[110,111,116]
def iA:List aj:=[100,101,102,105,110,101]
def kl:List (List aj):=[ia,iL,sD,sB,sx,sy,sC,sA,iA]
def gG(s:List aj):Bool:= !kl.contains s&&gb s
def l2(k:Int):Int:=if k=2 then 2 else if k=3 then 2 else if k=4 then 1 else if k=5 then 1 else if k=6 then 2 else 0
mutual
def Gm.sz:Gm->Nat
 | .mk _ _ _ g=>1+p2 g
def p2:List Gm->Nat
 |[]=>0
 |x::xs=>x.sz+p2 xs
end
theorem Sj{x:Gm}:∀{l:List Gm},x∈l->x.sz<=p2 l
 |[],h=>by simp at h
 |y::l,h=>by
  simp only[p2];rcases gy.1 h with rfl|h
  ·omega
  ·have:=Sj h;omega
theorem Gm.gs_lt{g x:Gm}(h:x∈g.gs):x.sz<g.sz:=by
 cases g with
 |mk k s t gs=>have:=Sj (l:=gs) h;simp only[Gm.sz];omega
theorem Gm.sz_pos(g:Gm):1<=g.sz:=by cases g;simp[Gm.sz]
mutual
def Gm.shape:Gm->Bool
 | .mk k s t g=>t.all Tm.fits&&(
  if 0<=k/\k<=6 then s==[]&&g.isEmpty&&decide ((t.length:Int)=l2 k)&&(k !=6||(match t with|x::_=>decide (x.kind=2)|[]=>false))
  else if k=9 then gG s&&g.isEmpty&&decide (t.length<=4)
  else if k=7\/k=8 then s==[]&&t.isEmpty&&decide (g.length<=8)&&vo g
  else if k=10 then s==[]&&t.isEmpty&&(match g with|[x]=>decide (x.kind=9)|_=>false)&&vo g
  else false)
def vo:List Gm->Bool
 |[]=>true
 |x::xs=>x.shape&&vo xs
end
def Gm.fits(n:Nat)(g:Gm):Bool:=g.shape&&decide (g.sz<=n)
def oG(w:List aj):aW Int:=if w=yH then some 2 else if w=yG then some 3 else if w=sD then some 4 else if w=sB then some 5 else if w=sx then some 6 else if w=sy then some 7 else if w=sC then some 8 else if w=sA then some 10 else none
def lE(k:Int):Bool:=k==7||k==8||k==10
mutual
def fp(tr:List (List aj)->aW (T×List (List aj)))(aI:List aj->aW (Int×List aj)):Nat->List (List aj)->aW (Gm×List (List aj))
 |0,_=>none
 |_+1,[]=>none
 |n+1,w::r=>if w=ia then some (.mk 0 [] [] [],r)else if w=iL then some (.mk 1 [] [] [],r)
  else if w=[40]then(match r with
   |[]=>none
   |h::cZ=>match aI h with
    |some (k,s)=>e2 tr aI n k s [] [] cZ
    |none=>none)
  else none
def e2(tr:List (List aj)->aW (T×List (List aj)))(aI:List aj->aW (Int×List aj)):Nat->Int->List aj->List T->List Gm->List (List aj)->aW (Gm×List (List aj))
 |0,_,_,_,_,_=>none
 |_+1,_,_,_,_,[]=>none
 |n+1,k,s,ts,gs,w::r=>if w=[41]then(if 1<k then some (.mk k s (ts.map T.tm) gs,r)else none)
  else if lE k then(match fp tr aI n (w::r)with
   |some (g,cZ)=>e2 tr aI n k s ts (gs++[g]) cZ
   |none=>none)
  else match tr (w::r)with
   |some (t,cZ)=>e2 tr aI n k s (ts++[t]) gs cZ
   |none=>none
end
def Io(tr:List (List aj)->aW (T×List (List aj))):Prop:= ∀l t r,tr l=some (t,r)->r<:+l/\r.length<l.length
mutual
theorem BV{tr:List (List aj)->aW (T×List (List aj))}(aE:Io tr){aI:List aj->aW (Int×List aj)}:∀(n:Nat) (l:List (List aj)) (g:Gm) (r:List (List aj)),fp tr aI n l=some (g,r)->r<:+l/\r.length<l.length
 |0,_,_,_,h=>by simp[fp]at h
 |_+1,[],_,_,h=>by simp[fp]at h
 |n+1,w::l,g,r,h=>by
  simp only[fp]at h;split at h
  ·cases h;exact⟨List.suffix_cons _ _,Ψ⟩
  ·split at h
   ·cases h;exact⟨List.suffix_cons _ _,Ψ⟩
   ·split at h
    ·split at h
     ·cases h
     ·split at h
      ·obtain⟨I,J⟩:=M0 aE n _ _ _ _ _ g r h;exact⟨(I.trans (List.suffix_cons _ _)).trans (List.suffix_cons _ _),by simp;omega⟩
      ·cases h
    ·cases h
theorem M0{tr:List (List aj)->aW (T×List (List aj))}(aE:Io tr){aI:List aj->aW (Int×List aj)}:∀(n:Nat) (k:Int) (s:List aj) (ts:List T) (gs:List Gm) (l:List (List aj)) (g:Gm) (r:List (List aj)),e2 tr aI n k s ts gs l=some (g,r)->r<:+l/\r.length<l.length
 |0,_,_,_,_,_,_,_,h=>by simp[e2]at h
 |_+1,_,_,_,_,[],_,_,h=>by simp[e2]at h
 |n+1,k,s,ts,gs,w::l,g,r,h=>by
  simp only[e2]at h;split at h
  ·split at h
   ·cases h;exact⟨List.suffix_cons _ _,Ψ⟩
   ·cases h
  ·split at h
   ·split at h
    ·rename_i x cZ hr;obtain⟨I,J⟩:=BV aE n (w::l) x cZ hr;obtain⟨au,aP⟩:=M0 aE n _ _ _ _ _ g r h;exact⟨au.trans I,Ω⟩
    ·cases h
   ·split at h
    ·rename_i x cZ hr;obtain⟨I,J⟩:=aE (w::l) x cZ hr;obtain⟨au,aP⟩:=M0 aE n _ _ _ _ _ g r h;exact⟨au.trans I,Ω⟩
    ·cases h
end
def im(w:List aj):aW T:=match eG w with
 |some t=>if t.ok then some t else none
 |none=>none
theorem Eb:∀(a:List T) (t:T),(fD a t).ok=(a.all T.ok&&t.ok)
 |[],t=>by simp[fD]
 |x::r,t=>by simp[fD,T.ok,Eb r t,Bool.and_assoc]
theorem TL:∀(n:Nat) (l:List (List aj)) (acc:List T) (t:T) (r:List (List aj)),bM eG n l acc=some (t,r)->t.ok=true->acc.all T.ok=true
 |0,_,_,_,_,h,_=>by simp[bM]at h
 |_+1,[],_,_,_,h,_=>by simp[bM]at h
 |n+1,w::l,acc,t,r,h,aq=>by
  simp only[bM]at h;split at h
  ·cases h;rw[Eb]at aq;simp only[bJ]at aq;exact aq.1
  ·split at h
   ·split at h
    ·cases h
    ·split at h
     ·split at h
      ·cases h;rw[Eb]at aq;simp only[bJ]at aq;exact aq.1
      ·cases h
     ·cases h
   ·split at h
    ·have:=TL n _ _ t r h aq;simp only[List.all_append,bJ]at this;exact this.1
    ·cases h
def pF:aW (T×List (List aj))->aW (T×List (List aj))
 |some (t,r)=>if t.ok then some (t,r)else none
 |none=>none
mutual
theorem HO:∀(n:Nat) (l:List (List aj)),rd im n l=pF (rd eG n l)
 |0,_=>by simp[rd,pF]
 |_+1,[]=>by simp[rd,pF]
 |n+1,w::l=>by
  simp only[rd];split
  ·exact TM n l [] rfl
  ·split
   ·rfl
   ·unfold im;cases eG w with
    |none=>rfl
    |some t=>by_cases h:t.ok=true<;>simp[pF,h]
theorem TM:∀(n:Nat) (l:List (List aj)) (acc:List T),acc.all T.ok=true->bM im n l acc=pF (bM eG n l acc)
 |0,_,_,_=>by simp[bM,pF]
 |_+1,[],_,_=>by simp[bM,pF]
 |n+1,w::l,acc,bL=>by
  simp only[bM];split
  ·simp[pF,Eb,bL,T.ok]
  ·split
   ·split
    ·rfl
    ·rw[HO n l];cases hr:rd eG n l with
     |none=>rfl
     |some x=>
      obtain⟨t,r⟩:=x;cases r with
      |nil=>by_cases h:t.ok=true<;>simp[pF,h]
      |cons v cZ=>by_cases h:t.ok=true<;>by_cases aN:v=[41]<;>simp[pF,h,aN,Eb,bL]
   ·rw[HO n (w::l)];cases hr:rd eG n (w::l)with
    |none=>rfl
    |some x=>
     obtain⟨t,r⟩:=x;by_cases h:t.ok=true
     ·simp only[pF,h,if_true];exact TM n r _ (by simp[bL,h])
     ·simp only[pF,h,kG,if_false];cases aw:bM eG n r (acc++[t])with
      |none=>rfl
      |some y=>
       obtain⟨u,ey⟩:=y;by_cases hu:u.ok=true
       ·have:=TL n r _ u ey aw hu;simp at this;exact absurd this.2 h
       ·simp[pF,hu]
end
def eI(l:List (List aj)):aW (T×List (List aj)):=match rd eG (2*l.length+1) l with
 |some (t,r)=>if t.fit then some (t,r)else none
 |none=>none
def j2(l:List (List aj)):aW (T×List (List aj)):=rd im (2*l.length+1) l
theorem uR{t:T}(h:t.fit=true):t.ok=true:=by unfold T.fit at h;simp only[bJ]at h;exact h.1
theorem aki{l:List (List aj)}{t:T}{r:List (List aj)}(h:eI l=some (t,r)):j2 l=some (t,r)/\t.fit=true:=by
 unfold eI at h;unfold j2;rw[HO];cases hr:rd eG (2*l.length+1) l with
 |none=>rw[hr]at h;cases h
 |some x=>
  obtain⟨u,cZ⟩:=x;rw[hr]at h;simp only at h;split at h
  ·rename_i aK;cases h;simp[pF,uR aK,aK]
  ·cases h
theorem akl{l:List (List aj)}{t:T}{r:List (List aj)}(h:j2 l=some (t,r))(aK:t.fit=true):eI l=some (t,r):=by
 unfold j2 at h;unfold eI;rw[HO]at h;cases hr:rd eG (2*l.length+1) l with
 |none=>rw[hr]at h;cases h
 |some x=>
  obtain⟨u,cZ⟩:=x;rw[hr]at h;simp only[pF]at h;split at h
  ·cases h;simp[aK]
  ·cases h
theorem NY:Io eI:=fun l t r h=>by
 unfold eI at h;split at h
 ·rename_i x y hr;split at h
  ·cases h;exact re _ _ _ _ hr
  ·cases h
 ·cases h
theorem E1:Io j2:=fun l t r h=>re _ _ _ _ h
def fI(h:List aj):aW (Int×List aj):=match oG h with
 |some k=>some (k,[])
 |none=>if gG h then some (9,h)else none
def hdS(h:List aj):aW (Int×List aj):=if h=ia then some (0,[])else if h=iL then some (1,[])else match oG h with
 |some k=>some (k,[])
 |none=>some (9,h)
theorem adV{h:List aj}{x:Int×List aj}(e:fI h=some x):hdS h=some x:=by
 unfold fI at e;unfold hdS;have I:h≠ia:=by rintro rfl;revert e;simp[oG,ia,yH,yG,sD,sB,sx,sy,sC,sA,gG,kl]
 have J:h≠iL:=by rintro rfl;revert e;simp[oG,iL,yH,yG,sD,sB,sx,sy,sC,sA,gG,kl,ia]
 rw[br I,br J];cases ab:oG h with
 |some k=>rw[ab]at e;exact e
 |none=>
  rw[ab]at e;simp only at e⊢;split at e
  ·exact e
  ·cases e
mutual
theorem Wk:∀(n:Nat) (l:List (List aj)) (g:Gm) (r:List (List aj)),fp eI fI n l=some (g,r)->fp j2 hdS n l=some (g,r)
 |0,_,_,_,h=>by simp[fp]at h
 |_+1,[],_,_,h=>by simp[fp]at h
 |n+1,w::l,g,r,h=>by
  simp only[fp]at h⊢;split at h
  ·rename_i e;rw[if_pos e];exact h
  ·rename_i ao;rw[br ao];split at h
   ·rename_i e;rw[if_pos e];exact h
   ·rename_i aL;rw[br aL];split at h
    ·rename_i bB;rw[if_pos bB];cases l with
     |nil=>exact h
     |cons v l=>
      simp only at h⊢;cases bR:fI v with
      |none=>rw[bR]at h;cases h
      |some x=>obtain⟨k,s⟩:=x;rw[bR]at h;rw[adV bR];exact MX n k s [] [] l g r h
    ·cases h
theorem MX:∀(n:Nat) (k:Int) (s:List aj) (ts:List T) (gs:List Gm) (l:List (List aj)) (g:Gm) (r:List (List aj)),e2 eI fI n k s ts gs l=some (g,r)->e2 j2 hdS n k s ts gs l=some (g,r)
 |0,_,_,_,_,_,_,_,h=>by simp[e2]at h
 |_+1,_,_,_,_,[],_,_,h=>by simp[e2]at h
 |n+1,k,s,ts,gs,w::l,g,r,h=>by
  simp only[e2]at h⊢;split at h
  ·rename_i e;rw[if_pos e];exact h
  ·rename_i e;rw[br e];split at h
   ·rename_i aM;rw[if_pos aM];cases hr:fp eI fI n (w::l)with
    |none=>rw[hr]at h;cases h
    |some x=>obtain⟨et,cZ⟩:=x;rw[hr]at h;rw[Wk n _ _ _ hr];exact MX n k s ts _ cZ g r h
   ·rename_i aM;rw[br aM];cases hr:eI (w::l)with
    |none=>rw[hr]at h;cases h
    |some x=>obtain⟨t',cZ⟩:=x;rw[hr]at h;rw[(aki hr).1];exact MX n k s _ gs cZ g r h
end
theorem ED{tr:List (List aj)->aW (T×List (List aj))}{aI:List aj->aW (Int×List aj)}:∀(n:Nat) (k:Int) (s:List aj) (ts:List T) (gs:List Gm) (l:List (List aj)) (g:Gm) (r:List (List aj)),e2 tr aI n k s ts gs l=some (g,r)->
  g.kind=k/\1<k/\g.name=s/\(∀t∈ts,t.tm∈g.ts)/\∀x∈gs,x∈g.gs
 |0,_,_,_,_,_,_,_,h=>by simp[e2]at h
 |_+1,_,_,_,_,[],_,_,h=>by simp[e2]at h
 |n+1,k,s,ts,gs,w::l,g,r,h=>by
  simp only[e2]at h;split at h
  ·split at h
   ·rename_i ab;cases h;exact⟨rfl,ab,rfl,fun t aE=>List.mem_map_of_mem aE,fun x af=>af⟩
   ·cases h
  ·split at h
   ·split at h
    ·obtain⟨I,J,au,aP,bA⟩:=ED n k s ts _ _ g r h;exact⟨I,J,au,aP,fun x af=>bA x (by simp[af])⟩
    ·cases h
   ·split at h
    ·obtain⟨I,J,au,aP,bA⟩:=ED n k s _ gs _ g r h;exact⟨I,J,au,fun t aE=>aP t (by simp[aE]),bA⟩
    ·cases h
theorem Nx:∀{l:List Gm},vo l=true->∀x∈l,x.shape=true
 |[],_,x,h=>by simp at h
 |y::l,h,x,af=>by
  simp only[vo,bJ]at h;rcases gy.1 af with rfl|af
  ·exact h.1
  ·exact Nx h.2 x af
theorem sf{g:Gm}(h:g.shape=true):∀t∈g.ts,t.fits=true:=by
 cases g with
 |mk k s ts gs=>simp only[Gm.shape,bJ,ji]at h;exact h.1
theorem shape_gs{g:Gm}(h:g.shape=true)(ab:lE g.kind=true):∀x∈g.gs,x.shape=true:=by
 cases g with
 |mk k s ts gs=>
  have ab:(k=7\/k=8)\/k=10:=by simpa[lE,Gm.kind]using ab
  simp only[Gm.shape,bJ]at h;have J:=h.2;rw[br Ω,br Ω]at J;split at J
  ·simp only[bJ]at J;exact Nx J.2
  ·rw[if_pos Ω]at J;simp only[bJ]at J;exact Nx J.2
theorem Ib{g:Gm}(h:g.shape=true)(ab:g.kind=9):gG g.name=true:=by
 cases g with
 |mk k s ts gs=>simp only[Gm.kind]at ab;subst ab;simp only[Gm.shape,bJ]at h;have J:=h.2;simp at J;exact J.1.1
mutual
theorem Wl:∀(n:Nat) (l:List (List aj)) (g:Gm) (r:List (List aj)),fp j2 hdS n l=some (g,r)->g.shape=true->fp eI fI n l=some (g,r)
 |0,_,_,_,h,_=>by simp[fp]at h
 |_+1,[],_,_,h,_=>by simp[fp]at h
 |n+1,w::l,g,r,h,aS=>by
  simp only[fp]at h⊢;split at h
  ·rename_i e;rw[if_pos e];exact h
  ·rename_i ao;rw[br ao];split at h
   ·rename_i e;rw[if_pos e];exact h
   ·rename_i aL;rw[br aL];split at h
    ·rename_i bB;rw[if_pos bB];cases l with
     |nil=>exact h
     |cons v l=>
      simp only at h⊢;cases bR:hdS v with
      |none=>rw[bR]at h;cases h
      |some x=>
       obtain⟨k,s⟩:=x;rw[bR]at h;simp only at h;obtain⟨m1,m2,m3,_⟩:=ED n k s [] [] l g r h;have aw:fI v=some (k,s):=by
        unfold hdS at bR;unfold fI;split at bR
        ·cases bR;omega
        ·split at bR
         ·cases bR;omega
         ·cases ab:oG v with
          |some bn=>rw[ab]at bR;exact bR
          |none=>rw[ab]at bR;cases bR;have:=Ib aS m1;rw[m3]at this;simp[this]
       rw[aw];exact MY n k s [] [] l g r h aS
    ·cases h
theorem MY:∀(n:Nat) (k:Int) (s:List aj) (ts:List T) (gs:List Gm) (l:List (List aj)) (g:Gm) (r:List (List aj)),e2 j2 hdS n k s ts gs l=some (g,r)->g.shape=true->e2 eI fI n k s ts gs l=some (g,r)
 |0,_,_,_,_,_,_,_,h,_=>by simp[e2]at h
 |_+1,_,_,_,_,[],_,_,h,_=>by simp[e2]at h
 |n+1,k,s,ts,gs,w::l,g,r,h,aS=>by
  simp only[e2]at h⊢;split at h
  ·rename_i e;rw[if_pos e];exact h
  ·rename_i e;rw[br e];split at h
   ·rename_i aM;rw[if_pos aM];cases hr:fp j2 hdS n (w::l)with
    |none=>rw[hr]at h;cases h
    |some x=>obtain⟨et,cZ⟩:=x;rw[hr]at h;simp only at h;obtain⟨m1,_,_,_,m5⟩:=ED n k s ts _ cZ g r h;rw[Wl n _ _ _ hr (shape_gs aS (by rw[m1];exact aM) et (m5 et Ψ))];exact MY n k s ts _ cZ g r h aS
   ·rename_i aM;rw[br aM];cases hr:j2 (w::l)with
    |none=>rw[hr]at h;cases h
    |some x=>obtain⟨t',cZ⟩:=x;rw[hr]at h;simp only at h;obtain⟨_,_,_,m4,_⟩:=ED n k s _ gs cZ g r h;have aK:=sf aS _ (m4 t' Ψ);rw[Tm.fits_T]at aK;rw[akl hr aK];exact MY n k s _ gs cZ g r h aS
end
theorem XD:∀{a b:T},a.tm=b.tm->a=b:=by
 intro a;induction a with
 |nil=>intro b h;cases b<;>simp[T.tm]at h⊢
 |var n=>intro b h;cases b<;>simp[T.tm]at h⊢;exact h
 |sym s=>intro b h;cases b<;>simp[T.tm]at h⊢;exact h
 |num n=>intro b h;cases b<;>simp[T.tm]at h⊢;exact h
 |pair x y Lq Lr=>intro b h;cases b<;>simp[T.tm]at h⊢;exact⟨Lq h.1,Lr h.2⟩
open Classical in
noncomputable def gw(t:Tm):List aj:=if h:∃x:T,x.tm=t then cM (Classical.choose h)else []
theorem Ij(x:T):gw x.tm=cM x:=by have h:∃y:T,y.tm=x.tm:=⟨x,rfl⟩;unfold gw;rw[dif_pos h,XD (Classical.choose_spec h)]
def fl(b:List aj):List (List aj)->List aj
 |[]=>[]
 |[x]=>x
 |x::y::r=>x++b++fl b (y::r)
theorem LC(b:List aj)(x:List aj):∀l:List (List aj),l≠[]->fl b (l++[x])=fl b l++b++x
 |[],h=>absurd rfl h
 |[y],_=>by simp[fl]
 |y::z::r,_=>by have:=LC b x (z::r) Ψ;simp only[dF,fl]at this⊢;rw[this];simp
theorem TZ(b:List aj)(l:List (List aj)){k:Nat}{x:List aj}(h:l[k]? =some x):fl b (l.take (k+1))=if k=0 then x else fl b (l.take k)++b++x:=by
 have ab:=(fo.1 h).1;have aE:l.take (k+1)=l.take k++[x]:=by rw[k3,h];rfl
 rw[aE];by_cases bz:k=0
 ·subst bz;simp[fl]
 ·rw[br bz,LC];intro e;have:=er List.length e;rw[pS]at this;simp only[mJ]at this;omega
def jV(k:Int):List aj:=if k=0 then ia else if k=1 then iL else if k=2 then yH else if k=3 then yG else if k=4 then sD else if k=5 then sB else if k=6 then sx else if k=7 then sy else if k=8 then sC else if k=10 then sA else []
mutual
noncomputable def fH:Gm->List aj
 | .mk k s t g=>if k=0\/k=1 then jV k else 40::(fl [32] ((if k=9 then s else jV k)::(t.map gw++FY g))++[41])
noncomputable def FY:List Gm->List (List aj)
 |[]=>[]
 |x::xs=>fH x::FY xs
end
theorem J1:∀l,FY l=l.map fH
 |[]=>rfl
 |x::xs=>by simp[FY,J1 xs]
theorem vU(g:Gm):fH g=if g.kind=0\/g.kind=1 then jV g.kind else 40::(fl [32] ((if g.kind=9 then g.name else jV g.kind)::(g.ts.map gw++g.gs.map fH))++[41]):=by cases g;rw[fH,J1];rfl
theorem akk{t:T}(h:t.fit=true)(r:List (List aj)):eI (iM t++r)=some (t,r):=by unfold eI;rw[EE t r _ (uR h) (by simp;omega)];simp[h]
theorem Yc{v:Int}(h:0<=v/\v<=100000):(T.var v).fit=true:=by unfold T.fit T.ok T.size;simp[h]
def gi(w:List aj):Int:=if w=[40]then 1 else if w=[41]then-1 else 0
def eS:List (List aj)->Int
 |[]=>0
 |w::r=>gi w+eS r
theorem xu:∀(a b:List (List aj)),eS (a++b)=eS a+eS b
 |[],b=>by simp[eS]
 |w::a,b=>by simp only[dF,eS,xu a b];omega
def s7(p:List (List aj)):Prop:=p≠[]/\eS p=0/\∀k,0<k->k<p.length->0<eS (p.take k)
def np(p:List (List aj)):Prop:=eS p= -1/\∀k,k<p.length->0<=eS (p.take k)
theorem xH{w:List aj}(I:w≠[40])(J:w≠[41]):s7 [w]:=by refine⟨Ψ,by simp[eS,gi,I,J],fun k au aP=>?_⟩;simp at aP;omega
theorem FA{p:List (List aj)}(h:np p):s7 ([40]::p):=by refine⟨Ψ,by simp only[eS,h.1];rfl,fun k I J=>?_⟩;obtain⟨k,rfl⟩:∃j,k=j+1:=⟨k-1,Ω⟩;have:=h.2 k (by simpa using J);simp only[sK,eS];have:gi [40]=1:=rfl;omega
theorem adq{p:List (List aj)}(h:s7 p)(k:Nat):0<=eS (p.take k):=by
 rcases Nat.eq_zero_or_pos k with rfl|ab
 ·simp[eS]
 ·by_cases aD:k<p.length
  ·have:=h.2.2 k ab aD;omega
  ·rw[vB Ω,h.2.1];exact Int.le_refl _
theorem s8{p q:List (List aj)}(h:s7 p)(bp:np q):np (p++q):=by
 refine⟨by rw[xu,h.2.1,bp.1];rfl,fun k ab=>?_⟩;rw[List.take_append,xu];have I:=adq h k;by_cases aD:k<=p.length
 ·rw[show k-p.length=0 by omega];simp[eS];exact I
 ·have e:p.take k=p:=vB Ω;rw[e,h.2.1];have:=bp.2 (k-p.length) (by simp at ab;omega);omega
theorem CP:np [[41]]:=⟨rfl,fun k ab=>by
 have:k=0:=by simp at ab;omega
 subst this;simp[eS]⟩
mutual
theorem M2{at':List aj->aW T}:∀(n:Nat) (l:List (List aj)) (t:T) (r:List (List aj)),rd at' n l=some (t,r)->∃p,l=p++r/\s7 p
 |0,_,_,_,h=>by simp[rd]at h
 |_+1,[],_,_,h=>by simp[rd]at h
 |n+1,w::l,t,r,h=>by
  simp only[rd]at h;split at h
  ·rename_i e;obtain⟨p,I,J⟩:=TN n l [] t r h;exact⟨[40]::p,by rw[e,I];rfl,FA J⟩
  ·rename_i ao;split at h
   ·cases h
   ·rename_i aL;cases bL:at' w with
    |none=>rw[bL]at h;cases h
    |some x=>rw[bL]at h;cases h;exact⟨[w],rfl,xH ao fun e=>aL (.inl e)⟩
theorem TN{at':List aj->aW T}:∀(n:Nat) (l:List (List aj)) (acc:List T) (t:T) (r:List (List aj)),bM at' n l acc=some (t,r)->∃p,l=p++r/\np p
 |0,_,_,_,_,h=>by simp[bM]at h
 |_+1,[],_,_,_,h=>by simp[bM]at h
 |n+1,w::l,acc,t,r,h=>by
  simp only[bM]at h;split at h
  ·rename_i e;cases h;exact⟨[[41]],by rw[e];rfl,CP⟩
  ·split at h
   ·rename_i e;split at h
    ·cases h
    ·split at h
     ·rename_i x v cZ hr;split at h
      ·rename_i aap;cases h;obtain⟨p,I,J⟩:=M2 n l x (v::r) hr;refine⟨[46]::(p++[[41]]),by rw[e,I,aap];simp,?_⟩;have:=s8 (xH (w:=[46]) (by decide) (by decide)) (s8 J CP);simpa using this
      ·cases h
     ·cases h
   ·split at h
    ·rename_i x cZ hr;obtain⟨p,I,J⟩:=M2 n (w::l) x cZ hr;obtain⟨q,au,aP⟩:=TN n cZ _ t r h;exact⟨p++q,by rw[I,au];simp,s8 J aP⟩
    ·cases h
end
def NX(tr:List (List aj)->aW (T×List (List aj))):Prop:= ∀l t r,tr l=some (t,r)->∃p,l=p++r/\s7 p
def Ks(aI:List aj->aW (Int×List aj)):Prop:= ∀h x,aI h=some x->h≠[40]/\h≠[41]
theorem XH:NX eI:=fun l t r h=>by
 unfold eI at h;split at h
 ·rename_i x y hr;split at h
  ·cases h;exact M2 _ _ _ _ hr
  ·cases h
 ·cases h
theorem SC:Ks fI:=fun h x e=>by constructor<;>(rintro rfl;revert e;simp[fI,oG,gG,kl,gb,yH,yG,sD,sB,sx,sy,sC,sA,ia,iL,iA,low])
mutual
theorem M1{tr:List (List aj)->aW (T×List (List aj))}(aE:NX tr){aI:List aj->aW (Int×List aj)}(bR:Ks aI):∀(n:Nat) (l:List (List aj)) (g:Gm) (r:List (List aj)),fp tr aI n l=some (g,r)->∃p,l=p++r/\s7 p
 |0,_,_,_,h=>by simp[fp]at h
 |_+1,[],_,_,h=>by simp[fp]at h
 |n+1,w::l,g,r,h=>by
  simp only[fp]at h;split at h
  ·rename_i e;cases h;exact⟨[w],rfl,by rw[e];exact xH (by decide) (by decide)⟩
  ·split at h
   ·rename_i e;cases h;exact⟨[w],rfl,by rw[e];exact xH (by decide) (by decide)⟩
   ·split at h
    ·rename_i e;split at h
     ·cases h
     ·rename_i v c6;split at h
      ·rename_i k s ab;obtain⟨p,I,J⟩:=MZ aE bR n _ _ _ _ _ g r h;have au:=bR _ _ ab;refine⟨[40]::v::p,by rw[e,I];rfl,FA ?_⟩;have:=s8 (xH au.1 au.2) J;simpa using this
      ·cases h
    ·cases h
theorem MZ{tr:List (List aj)->aW (T×List (List aj))}(aE:NX tr){aI:List aj->aW (Int×List aj)}(bR:Ks aI):∀(n:Nat) (k:Int) (s:List aj) (ts:List T) (gs:List Gm) (l:List (List aj)) (g:Gm) (r:List (List aj)),e2 tr aI n k s ts gs l=some (g,r)->∃p,l=p++r/\np p
 |0,_,_,_,_,_,_,_,h=>by simp[e2]at h
 |_+1,_,_,_,_,[],_,_,h=>by simp[e2]at h
 |n+1,k,s,ts,gs,w::l,g,r,h=>by
  simp only[e2]at h;split at h
  ·rename_i e;split at h
   ·cases h;exact⟨[[41]],by rw[e];rfl,CP⟩
   ·cases h
  ·split at h
   ·split at h
    ·rename_i x cZ hr;obtain⟨p,I,J⟩:=M1 aE bR n (w::l) x cZ hr;obtain⟨q,au,aP⟩:=MZ aE bR n _ _ _ _ _ g r h;exact⟨p++q,by rw[I,au];simp,s8 J aP⟩
    ·cases h
   ·split at h
    ·rename_i x cZ hr;obtain⟨p,I,J⟩:=aE (w::l) x cZ hr;obtain⟨q,au,aP⟩:=MZ aE bR n _ _ _ _ _ g r h;exact⟨p++q,by rw[I,au];simp,s8 J aP⟩
    ·cases h
end
def w8(s:List aj):Bool:=gb s||(match gH s with|some n=>decide (0<=n/\n<=100000)|none=>false)
def num:List (List aj)->List (List aj)->aW (List (List aj)×List (List aj))
 |ns,[]=>some ([],ns)
 |ns,w::r=>match w with
  |63::s=>if w8 s then(num (if w∈ns then ns else ns++[w]) r).map fun x=>((63::itoa (ns.idxOf w))::x.1,x.2)else none
  |_=>(num ns r).map fun x=>(w::x.1,x.2)
theorem ve(ns r:List (List aj))(w:List aj)(h:∀s,w≠63::s):num ns (w::r)=(num ns r).map fun x=>(w::x.1,x.2):=by
 conv=>lhs;unfold num
 split
 ·rename_i s;exact absurd rfl (h s)
 ·rfl
theorem Eh(ns r:List (List aj))(s:List aj):num ns ((63::s)::r)=if w8 s then(num (if(63::s)∈ns then ns else ns++[63::s]) r).map fun x=>((63::itoa (ns.idxOf (63::s)))::x.1,x.2)else none:=by rw[num]
theorem Z9(s:List aj):gi (63::s)=0:=by simp[gi]
theorem GZ(w:List aj):(∃s,w=63::s)\/ ∀s,w≠63::s:=by
 cases w with
 |nil=>exact .inr Ψ
 |cons c s=>
  by_cases h:c=63
  ·exact .inl ⟨s,by rw[h]⟩
  ·exact .inr (by intro t e;cases e;exact h rfl)
theorem zK:∀(l ns c6 ms:List (List aj)),num ns l=some (c6,ms)->c6.length=l.length/\∀k,eS (c6.take k)=eS (l.take k)
 |[],ns,c6,ms,h=>by simp only[num,ei,gY]at h;obtain⟨rfl,rfl⟩:=h;simp
 |w::r,ns,c6,ms,h=>by
  rcases GZ w with⟨s,rfl⟩|hw
  ·rw[Eh]at h;split at h
   ·simp only[iN]at h;obtain⟨⟨w9,xa⟩,af,e⟩:=h;simp only[gY]at e;obtain⟨rfl,rfl⟩:=e;obtain⟨I,J⟩:=zK r _ w9 xa af;refine⟨by simp[I],fun k=>?_⟩;cases k with
    |zero=>rfl
    |succ k=>simp only[sK,eS,J k,Z9]
   ·cases h
  ·rw[ve _ _ _ hw]at h;simp only[iN]at h;obtain⟨⟨w9,xa⟩,af,e⟩:=h;simp only[gY]at e;obtain⟨rfl,rfl⟩:=e;obtain⟨I,J⟩:=zK r _ w9 xa af;refine⟨by simp[I],fun k=>?_⟩;cases k with
   |zero=>rfl
   |succ k=>simp only[sK,eS,J k]
def kp:Int->List (List aj)->Nat
 |_,[]=>0
 |d,w::r=>if d+gi w<0 then 1 else kp (d+gi w) r+1
theorem Jx:∀(d:Int) (l:List (List aj)),kp d l<=l.length
 |_,[]=>by simp[kp]
 |d,w::r=>by simp only[kp];have:=Jx (d+gi w) r;split<;>simp<;>omega
theorem Qt:∀(p r:List (List aj)) (d:Int),0<=d->d+eS p<0->(∀k,k<p.length->0<=d+eS (p.take k))->kp d (p++r)=p.length
 |[],r,d,bz,I,J=>by exfalso;simp[eS]at I;omega
 |w::p,r,d,bz,I,J=>by
  simp only[dF,kp];by_cases h:d+gi w<0
  ·rw[if_pos h];cases p with
   |nil=>rfl
   |cons v q=>exfalso;have:=J 1 Ψ;simp[eS]at this;omega
  ·rw[br h,Qt p r (d+gi w) Ω (by simp only[eS]at I;omega) fun k ab=>by have:=J (k+1) (by simp;omega);simp only[sK,eS]at this;omega]
   rfl
theorem Qs{p:List (List aj)}(h:np p)(r:List (List aj)):kp 0 (p++r)=p.length:=Qt p r 0 (Int.le_refl _) (by rw[h.1];decide) fun k ab=>by have:=h.2 k ab;omega
def iV:Int->List (List aj)->aW (Int×List (List aj))
 |_,[]=>none
 |k,w::r=>if w=[41]then some (k,r)else if w=63::itoa k then iV (k+1) r else none
theorem MI:∀(l:List (List aj)) (k j:Int) (r:List (List aj)),iV k l=some (j,r)->∃p,l=p++r/\np p
 |[],_,_,_,h=>by simp[iV]at h
 |w::l,k,j,r,h=>by
  simp only[iV]at h;split at h
  ·rename_i e;cases h;exact⟨[[41]],by rw[e];rfl,CP⟩
  ·split at h
   ·rename_i e;obtain⟨p,I,J⟩:=MI l _ j r h;refine⟨w::p,by rw[I];rfl,?_⟩;have:=s8 (xH (w:=w) (by rw[e];simp) (by rw[e];simp)) J;simpa using this
   ·cases h
structure Rl where
 name:List aj
 ar:Int
 loc:Int
 body:Gm
 deriving Inhabited
def sT(name:List aj)(c:Nat)(l:List (List aj)):aW (Rl×List (List aj)):=match iV 0 l with
 |some (k,r)=>match fp eI fI (2*r.length+1) r with
  |some (g,[41]::ey)=>some (⟨name,k,c-k,g⟩,ey)
  |_=>none
 |none=>none
def nt(l:List (List aj)):Nat:=kp 0 l+kp 0 (l.drop (kp 0 l))
def pb:List (List aj)->aW (Rl×List (List aj))
 |[40]::d::[40]::name::l=>if d=iA then match num [] (l.take (nt l))with
   |some (c6,ms)=>(sT name ms.length c6).map fun x=>(x.1,l.drop (nt l-x.2.length))
   |none=>none
  else none
 |_=>none
theorem JG{name:List aj}{c:Nat}{l r:List (List aj)}{x:Rl}(h:sT name c l=some (x,r)):∃p q,l=p++q++r/\np p/\np q/\x.name=name:=by
 unfold sT at h;cases aV:iV 0 l with
 |none=>rw[aV]at h;cases h
 |some y=>
  obtain⟨k,eZ⟩:=y;rw[aV]at h;simp only at h;obtain⟨p,I,J⟩:=MI l 0 k eZ aV;split at h
  ·rename_i g ey aS;cases h;obtain⟨q,au,aP⟩:=M1 XH SC _ _ _ _ aS;exact⟨p,q++[[41]],by rw[I,au];simp,J,s8 aP CP,rfl⟩
  ·cases h
theorem QG{l r:List (List aj)}{name:List aj}{x:Rl}(aM:gG name=true):
  (pb ([40]::iA::[40]::name::l)=some (x,r))↔∃p ms c6,l=p++r/\num [] p=some (c6,ms)/\sT name ms.length c6=some (x,[])/\s7 ([40]::iA::[40]::name::p):=by
 have oK:name≠[40]/\name≠[41]:=by constructor<;>(rintro rfl;revert aM;simp[gG,kl,gb,low,sD,sB,sx,sy,sC,sA,ia,iL,iA])
 have ael:∀p q,np p->np q->s7 ([40]::iA::[40]::name::(p++q)):=by intro p q aV bp;have I:=s8 (xH oK.1 oK.2) aV;have J:=FA I;have au:=s8 J bp;have aP:=FA (s8 (xH (w:=iA) (by decide) (by decide)) au);simpa using aP
 have key:∀(p:List (List aj)) (ms c6 ey:List (List aj)),num [] p=some (c6,ms)->sT name ms.length c6=some (x,ey)->∃u v,p.take (u+v)=p.take (u+v)/\u+v+ey.length=p.length/\np (p.take u)/\np ((p.drop u).take v):=by
  intro p ms c6 ey I J;obtain⟨au,aP⟩:=zK p _ _ _ I;obtain⟨a,b,e,bL,ah,_⟩:=JG J;refine⟨a.length,b.length,rfl,by rw[<-au,e];simp;omega,?_,?_⟩
  ·refine⟨by rw[<-aP,e,lr,List.take_left];exact bL.1,fun k ab=>?_⟩;have gS:k<a.length:=by simp at ab;omega
   rw[List.take_take,Nat.min_eq_left Ω,<-aP,e,lr,List.take_append_of_le_length Ω];exact bL.2 k gS
  ·have aI:∀k,eS ((p.drop a.length).take k)=eS ((c6.drop a.length).take k):=by
    intro k;have ao:eS (p.take (a.length+k))=eS (p.take a.length)+eS ((p.drop a.length).take k):=by rw[List.take_add,xu]
    have aL:eS (c6.take (a.length+k))=eS (c6.take a.length)+eS ((c6.drop a.length).take k):=by rw[List.take_add,xu]
    have:=aP (a.length+k);have:=aP a.length;omega
   have aD:c6.drop a.length=b++ey:=by rw[e,lr,List.drop_left]
   refine⟨by rw[aI,aD,List.take_left];exact ah.1,fun k ab=>?_⟩;have gS:k<b.length:=by simp at ab;omega
   rw[List.take_take,Nat.min_eq_left Ω,aI,aD,List.take_append_of_le_length Ω];exact ah.2 k gS
 have y5:∀(m:List (List aj)) (u v:Nat),np (m.take u)->np ((m.drop u).take v)->u+v<=m.length->nt m=u+v:=by
  intro m u v I J au;unfold nt;have ao:kp 0 m=u:=by have:=Qs I (m.drop u);rw[ry]at this;rw[this];simp;omega
  rw[ao];have:=Qs J ((m.drop u).drop v);rw[ry]at this;rw[this];simp;omega
 simp only[pb,if_true];constructor
 ·intro h;cases hz:num [] (l.take (nt l))with
  |none=>rw[hz]at h;cases h
  |some y=>
   obtain⟨c6,ms⟩:=y;rw[hz]at h;simp only[iN]at h;obtain⟨⟨qz,ey⟩,af,e⟩:=h;simp only[gY]at e;obtain⟨rfl,aL⟩:=e;obtain⟨u,v,_,GQ,hu,aN⟩:=key _ _ _ _ hz af;have hle:(l.take (nt l)).length<=nt l:=by simp;omega
   have Dy:(l.take (nt l)).length<=l.length:=by simp;omega
   have Tk:np (l.take u):=by rw[List.take_take,Nat.min_eq_left Ω]at hu;exact hu
   have Tp:np ((l.drop u).take v):=by rw[List.drop_take,List.take_take,Nat.min_eq_left Ω]at aN;exact aN
   have cH:=y5 l u v Tk Tp Ω;have hlen:(l.take (nt l)).length=u+v:=by simp;omega
   have kc:ey=[]:=sI Ω;subst kc;refine⟨l.take (nt l),ms,c6,by rw[<-aL];simp,hz,af,?_⟩;have:l.take (nt l)=l.take u++(l.drop u).take v:=by rw[cH,List.take_add]
   rw[this];exact ael _ _ Tk Tp
 ·rintro⟨p,ms,c6,rfl,I,J,_⟩;obtain⟨u,v,_,GQ,hu,aN⟩:=key _ _ _ _ I J;simp only[mJ,Nat.add_zero]at GQ;have cH:=y5 (p++r) u v (by rw[List.take_append_of_le_length Ω];exact hu) (by rw[List.drop_append_of_le_length Ω,List.take_append_of_le_length (by simp;omega)];exact aN) (by simp;omega)
  have aE:(p++r).take (nt (p++r))=p:=by rw[cH,GQ,List.take_left]
  rw[aE,I];simp only[J,lM];rw[cH,GQ];simp
def nV(p:List (List aj)):aW Rl:=match num [] p with
 |some (_::d::b::name::l,ms)=>if d=iA/\b=[40]then match iV 0 l with
   |some (k,r)=>match fp j2 hdS (2*r.length+1) r with
    |some (g,[_])=>some ⟨name,k,ms.length-k,g⟩
    |_=>none
   |none=>none
  else none
 |_=>none
def qJ:Int->List (List aj)->aW Nat
 |_,[]=>none
 |d,w::r=>if d+gi w<=0 then some 1 else(qJ (d+gi w) r).map (· +1)
theorem Jq:∀(p r:List (List aj)) (d:Int),p≠[]->d+eS p<=0->(∀k,0<k->k<p.length->0<d+eS (p.take k))->qJ d (p++r)=some p.length
 |[],_,_,h,_,_=>absurd rfl h
 |w::p,r,d,_,I,J=>by
  simp only[dF,qJ];cases p with
  |nil=>rw[if_pos (by simp[eS]at I;omega)];rfl
  |cons v q=>
   have:=J 1 Ω Ψ;simp[eS]at this;rw[br Ω,Jq (v::q) r (d+gi w) Ψ (by simp only[eS]at I⊢;omega) fun k ab gj=>by have:=J (k+1) Ω (by simp at gj⊢;omega);simp only[sK,eS]at this;omega]
   rfl
theorem Jr:∀(l:List (List aj)) (d:Int) (n:Nat),qJ d l=some n->0<n/\n<=l.length/\d+eS (l.take n)<=0/\∀k,0<k->k<n->0<d+eS (l.take k)
 |[],_,_,h=>by simp[qJ]at h
 |w::r,d,n,h=>by
  simp only[qJ]at h;split at h
  ·cases h;exact⟨Ω,Ψ,by simp[eS];omega,fun k I J=>Ω⟩
  ·rename_i hw;simp only[iN]at h;obtain⟨m,hm,rfl⟩:=h;obtain⟨I,J,au,aP⟩:=Jr r _ m hm;refine⟨Ω,by simp;omega,by simp only[sK,eS];omega,fun k ab gj=>?_⟩;obtain⟨j,rfl⟩:∃j,k=j+1:=⟨k-1,Ω⟩;simp only[sK,eS];rcases Nat.eq_zero_or_pos j with rfl|ai
   ·simp[eS];omega
   ·have:=aP j ai Ω;omega
theorem Z7(w:List aj): -1<=gi w:=by unfold gi;split<;>(try split)<;>omega
theorem Zj{l:List (List aj)}{n:Nat}(h:qJ 0 l=some n):s7 (l.take n)\/l.take n=[[41]]:=by
 obtain⟨I,J,au,aP⟩:=Jr l 0 n h;have hlen:(l.take n).length=n:=by simp;omega
 obtain⟨m,rfl⟩:∃m,n=m+1:=⟨n-1,Ω⟩;have GB:l.take (m+1)=l.take m++[l[m]]:=by rw[k3,cL Ω];rfl
 have aS:=Z7 l[m];have Ti:eS (l.take (m+1))=eS (l.take m)+gi l[m]:=by rw[GB,xu];simp[eS]
 rcases Nat.eq_zero_or_pos m with rfl|hm
 ·rw[Ti]at au;simp[eS]at au;by_cases cK:gi l[0]=0
  ·left;exact⟨by rw[GB];simp,by rw[Ti,cK];simp[eS],fun k ab gj=>Ω⟩
  ·right;rw[GB];unfold gi at au cK;split at au
   ·omega
   ·split at au
    ·rename_i e;simp[e]
    ·rename_i bA cy;rw[br bA,br cy]at cK;omega
 ·left;have:=aP m hm Ω;refine⟨by rw[GB];exact List.append_ne_nil_of_right_ne_nil _ Ψ,Ω,fun k ab gj=>?_⟩;rw[hlen]at gj;rw[List.take_take,Nat.min_eq_left Ω];have:=aP k ab gj;omega
theorem U1{l ns c6 ms:List (List aj)}(h:num ns l=some (c6,ms)):c6.length=l.length:=(zK l ns c6 ms h).1
theorem Mt{w:List aj}{r ns ms c6:List (List aj)}{v:List aj}(h:num ns (w::r)=some (v::c6,ms))(aN:∀s,v≠63::s):w=v/\num ns r=some (c6,ms):=by
 rcases GZ w with⟨s,rfl⟩|hw
 ·rw[Eh]at h;split at h
  ·simp only[iN]at h;obtain⟨x,_,e⟩:=h;simp only[gY,sH]at e;exact absurd e.1.1.symm (aN _)
  ·cases h
 ·rw[ve _ _ _ hw]at h;simp only[iN]at h;obtain⟨⟨w9,xa⟩,af,e⟩:=h;simp only[gY,sH]at e;obtain⟨⟨rfl,rfl⟩,rfl⟩:=e;exact⟨rfl,af⟩
theorem Wp{s:List aj}(h:gG s=true):∀r,s≠63::r:=by unfold gG at h;simp only[bJ]at h;exact UU h.2
theorem alk:∀s,iA≠63::s:=by simp[iA]
theorem ah6:∀s,([40]:List aj)≠63::s:=by simp
theorem QI{p:List (List aj)}{x:Rl}(aS:s7 p)(aM:gG x.name=true)(ah:x.body.shape=true):
  nV p=some x↔∃l ms c6,p=[40]::iA::[40]::x.name::l/\num [] l=some (c6,ms)/\sT x.name ms.length c6=some (x,[]):=by
 constructor
 ·intro h;unfold nV at h;split at h
  ·rename_i w0 d b name c6 ms uX;split at h
   ·rename_i adY;obtain⟨rfl,rfl⟩:=adY;split at h
    ·rename_i k r aV;split at h
     ·rename_i g z hr;cases h;simp only at aM ah;have hlen:=U1 uX;simp at hlen;obtain⟨l9,iK,h9,yC,l,rfl⟩:∃l9 iK h9 yC l,p=l9::iK::h9::yC::l:=by
       match p,hlen with
       |[],h=>simp at h
       |[_],h=>simp at h
       |[_,_],h=>simp at h
       |[_,_,_],h=>simp at h
       |l9::iK::h9::yC::l,_=>exact⟨l9,iK,h9,yC,l,rfl⟩
      have tF:l9=[40]:=by
       have:=aS.2.2 1 Ω Ψ;simp[eS]at this;unfold gi at this;split at this
       ·assumption
       ·split at this<;>omega
      subst tF;rw[ve _ _ _ Ψ]at uX;simp only[iN]at uX;obtain⟨⟨Iw,Iy⟩,bG,e⟩:=uX;simp only[gY,sH]at e;obtain⟨⟨_,rfl⟩,rfl⟩:=e;obtain⟨ao,Tr⟩:=Mt bG alk;obtain⟨aL,kx⟩:=Mt Tr ah6;obtain⟨bB,afl⟩:=Mt kx (Wp aM);clear bG Tr kx;subst ao;subst aL;subst bB;have bG:=afl;refine⟨l,_,c6,rfl,bG,?_⟩;have vY:=Wl _ _ _ _ hr ah;obtain⟨b0,ao,KU⟩:=MI c6 0 k r aV;obtain⟨cS,aL,aeW⟩:=M1 XH SC _ _ _ _ vY;have cK:z=[41]:=by
       have bz:=aS.2.1;have aD:=(zK l [] c6 _ bG).2 l.length;rw[hE,vB (by rw[U1 bG];exact cc _)]at aD;rw[ao,xu,KU.1,aL,xu,aeW.2.1]at aD;simp only[eS]at bz aD;have aI:gi iA=0:=by decide
       have pk:gi [40]=1:=rfl;have fV:gi yC=0:=by unfold gG at aM;simp only[bJ]at aM;have:=zJ (Ls aM.2);simp[gi,this]
       have Lk:gi z= -1:=Ω
       unfold gi at Lk;split at Lk
       ·omega
       ·split at Lk
        ·assumption
        ·omega
      subst cK;unfold sT;rw[aV];simp only;rw[vY];rfl
     ·cases h
    ·cases h
   ·cases h
  ·cases h
 ·rintro⟨l,ms,c6,rfl,I,J⟩;unfold sT at J;cases aV:iV 0 c6 with
  |none=>rw[aV]at J;cases J
  |some y=>
   obtain⟨k,r⟩:=y;rw[aV]at J;simp only at J;split at J
   ·rename_i g ey vY;simp only[ei,gY]at J;obtain⟨af,rfl⟩:=J;unfold nV;rw[ve _ _ _ Ψ,ve _ _ _ (by simp[iA]),ve _ _ _ Ψ,ve _ _ _ (Wp aM),I];simp only[lM,and_self,if_true,aV,Wk _ _ _ _ vY,af]
   ·cases J
def uc:Nat->List (List aj)->aW (List Rl)
 |_,[]=>some []
 |0,_=>none
 |n+1,l=>match pb l with
  |some (x,r)=>(uc n r).map (x:: ·)
  |none=>none
def pG:Nat->List (List aj)->aW (List Rl)
 |_,[]=>some []
 |0,_=>none
 |n+1,l=>match qJ 0 l with
  |some k=>match nV (l.take k)with
   |some x=>(pG n (l.drop k)).map (x:: ·)
   |none=>none
  |none=>none
def Sh(P:List Rl):Prop:= ∀x∈P,gG x.name=true/\x.body.shape=true
theorem HN:∀(n:Nat) (l:List (List aj)) (P:List Rl),Sh P->(uc n l=some P↔pG n l=some P)
 |n,[],P,_=>by cases n<;>simp[uc,pG]
 |0,w::l,P,_=>by simp[uc,pG]
 |n+1,w::l,P,k5=>by
  simp only[uc,pG];constructor
  ·intro h;cases aI:pb (w::l)with
   |none=>rw[aI]at h;cases h
   |some y=>
    obtain⟨x,r⟩:=y;rw[aI]at h;simp only[iN]at h;obtain⟨Q,jb,rfl⟩:=h;obtain⟨aM,ah⟩:=k5 x Ψ;have iH:=aI;unfold pb at iH;split at iH
    ·rename_i d name LS e;split at iH
     ·rename_i gv;subst gv;have fV:x.name=name:=by
       split at iH
       ·simp only[iN]at iH;obtain⟨⟨qz,ey⟩,I,J⟩:=iH;cases J;exact(JG I).choose_spec.choose_spec.2.2.2
       ·cases iH
      subst fV;rw[e]at aI;obtain⟨p,ms,c6,I,J,au,aP⟩:=(QG aM).1 aI;have jU:qJ 0 (w::l)=some ([40]::iA::[40]::x.name::p).length:=by rw[e,I];exact Jq ([40]::iA::[40]::x.name::p) r 0 aP.1 (by rw[aP.2.1];decide) fun k ab gj=>by have:=aP.2.2 k ab gj;omega
      have u5:w::l=([40]::iA::[40]::x.name::p)++r:=by rw[e,I];rfl
      rw[jU];simp only;rw[u5,List.take_left,List.drop_left];rw[(QI aP aM ah).2 ⟨p,ms,c6,rfl,J,au⟩];simp only;rw[(HN n r Q fun y bG=>k5 y (by simp[bG])).1 jb];rfl
     ·cases iH
    ·cases iH
  ·intro h;cases aH:qJ 0 (w::l)with
   |none=>rw[aH]at h;cases h
   |some k=>
    rw[aH]at h;simp only at h;cases aI:nV ((w::l).take k)with
    |none=>rw[aI]at h;cases h
    |some x=>
     rw[aI]at h;simp only[iN]at h;obtain⟨Q,jb,rfl⟩:=h;obtain⟨aM,ah⟩:=k5 x Ψ;rcases Zj aH with aS|aS
     ·obtain⟨q,ms,c6,I,J,au⟩:=(QI aS aM ah).1 aI;have u5:w::l=[40]::iA::[40]::x.name::(q++(w::l).drop k):=by have:=ry k (w::l);rw[I]at this;exact this.symm
      have vY:=(QG (l:=q++(w::l).drop k) (r:=(w::l).drop k) (x:=x) aM).2 ⟨q,ms,c6,rfl,J,au,by rw[<-I];exact aS⟩;rw[<-u5]at vY;rw[vY];simp only;rw[(HN n _ Q fun y bG=>k5 y (by simp[bG])).2 jb];rfl
     ·rw[aS]at aI;simp[nV,num]at aI
mutual
def Tm.vs:Tm->List Int
 | .mk k n _ a=>if k=1 then [n]else Tm.vsL a
def Tm.vsL:List Tm->List Int
 |[]=>[]
 |x::xs=>x.vs++Tm.vsL xs
end
mutual
def Gm.vs:Gm->List Int
 | .mk _ _ t g=>Tm.vsL t++Gm.vsL g
def Gm.vsL:List Gm->List Int
 |[]=>[]
 |x::xs=>x.vs++Gm.vsL xs
end
mutual
def Gm.cf(P:List Rl):Gm->Bool
 | .mk k s t g=>if k=9 then(match P.find? fun r=>r.name==s with|some r=>r.ar==(t.length:Int)|none=>false)else Gm.cfL P g
def Gm.cfL(P:List Rl):List Gm->Bool
 |[]=>true
 |x::xs=>x.cf P&&Gm.cfL P xs
end
def Rl.ok(P:List Rl)(x:Rl):Bool:=gG x.name&&decide (0<=x.ar/\x.ar<=4)&&decide (0<=x.loc/\x.loc<=8)&&x.body.fits 60&&(x.body.vs.all fun v=>decide (v<x.ar+x.loc))&&x.body.cf P
def iU(P:List Rl):Bool:=decide (P.length<=8)&&decide ((P.map Rl.name).Nodup)&&P.all (Rl.ok P)
theorem U5{P:List Rl}(h:iU P=true):Sh P:=by intro x af;simp only[iU,bJ,ji]at h;have I:=h.2 x af;simp only[Rl.ok,Gm.fits,bJ]at I;exact⟨I.1.1.1.1.1,I.1.1.2.1⟩
def oU(o:aW (List Rl)):aW (List Rl):=o.bind fun P=>if iU P then some P else none
theorem Oi{o:aW (List Rl)}{P:List Rl}:oU o=some P↔o=some P/\iU P=true:=by
 cases o with
 |none=>simp[oU]
 |some Q=>
  simp only[oU,Option.bind_some];by_cases jb:iU Q=true
  ·rw[if_pos jb];simp only[ei];exact⟨fun e=>⟨e,e▸jb⟩,fun e=>e.1⟩
  ·rw[br jb];simp only[ei,reduceCtorEq,false_iff];intro h;exact jb (h.1▸h.2)
theorem aib(n:Nat)(l:List (List aj)):oU (uc n l)=oU (pG n l):=by apply Option.ext;intro P;rw[Oi,Oi];exact⟨fun h=>⟨(HN n l P (U5 h.2)).1 h.1,h.2⟩,fun h=>⟨(HN n l P (U5 h.2)).2 h.1,h.2⟩⟩
structure Ix where
 op:Int
 a:Int
 b:Int
 g:Gm
structure Ey where
 name:List aj
 pos:Int
 ar:Int
 vars:Int
structure Cd where
 is:List Ix
 es:List Ey
def agK(g:Gm):Bool:=g.kind==0&&g.name==[]&&g.ts.isEmpty&&g.gs.isEmpty
def QV(es:List Ey)(s:List aj):Int:=match es.findIdx? fun e=>e.name==s with
 |some i=>i
 |none=> -1
def Cd.fin(c:Cd)(i:Nat):Int:=match c.es[i+1]? with
 |some e=>e.pos
 |none=>c.is.length
def Iu(g:Gm)(n:Int):Prop:= ∀v∈g.vs,v<n
def aai(es:List Ey)(s:List aj):Int:=QV (es.take (es.length-1)) s
def adb(c:Cd)(x:Ix)(vars:Int):Prop:=
 (x.op≠0->x.op≠5->agK x.g=true)/\(x.op=0\/x.op=5->x.g.fits 80=true/\Iu x.g vars/\(x.op=0->2<=x.g.kind/\x.g.kind<=6)/\
  (x.op=5->x.g.kind=9/\∃k f,aai c.es x.g.name=(k:Nat)/\c.es[k]? =some f/\(x.g.ts.length:Int)=f.ar))
def afG(c:Cd)(e:Ey)(AL:Int)(at':Int)(x:Ix):Prop:=
 (0<=x.op/\x.op<=6)/\(x.op=6↔at'=AL-1)/\adb c x e.vars/\(x.op=1\/x.op=3->at'+1<=x.a/\x.a<=AL-1)/\(¬(x.op=1\/x.op=3)->x.a=0)/\
 (x.op=1\/x.op=2->0<=x.b/\x.b<=7)/\(¬(x.op=1\/x.op=2)->x.b=0)/\(x.op=1->∃y,c.is[x.a.toNat]? =some y/\(y.op=1\/y.op=2)/\y.b=x.b+1)
def IC(c:Cd)(e:Ey)(AL:Int):Prop:= ∀(k:Nat) x,e.pos<=k->(k:Int)<AL->c.is[k]? =some x->afG c e AL k x
def adT(e:Ey):List aj:=e.name++([47]++(itoa e.ar++[58,10]))
def GP(es:List Ey)(k:Nat):List aj:=((es.filter fun e=>e.pos==(k:Int)).map adT).flatten
end
end Go.Pv
namespace Go.Proofs.YtlnndmgfngfeiaaGreatDoor
section
open Go Go.Pv
def pB{α:Type}(p:α->Bool)(s:List α)(i:Nat)(_:Unit):Prop:= ∀k b,k<i->s[k]? =some b->p b=true
theorem pB.step{α:Type}{p:α->Bool}{s:List α}{i:Nat}(h:pB p s i ()){b:α}(ah:s[i]? =some b)(aV:p b=true):pB p s (i+1) ():=fun k c ab aH=>by
 rcases mc k i with cu|cu
 ·exact h k c cu aH
 ·obtain rfl:k=i:=Ω
  rw[ah]at aH;cases aH;exact aV
theorem pB.fin{α:Type}{p:α->Bool}{s:List α}(h:pB p s s.length ()):s.all p=true:=by rw[ji];intro b ah;obtain⟨i,aw⟩:=List.mem_iff_getElem?.1 ah;exact h i b (fo.1 aw).1 aw
theorem yQ{α:Type}{p:α->Bool}{s:List α}{i:Nat}{b:α}(ah:s[i]? =some b)(aV:p b=false):s.all p=false:=by rw[List.all_eq_false];exact⟨b,e1 ah,by rw[aV];simp⟩
theorem vy(l:List Tm):bW aF 183 [.slice 4 .no (l.map enc)] (.bool (l.all Tm.fits)):=by
 generalize bt:l.all Tm.fits=R;refine bI rn abJ ahm fun aG=>?_;unfold PC;have e5:l.length<=68719476736:=by simp[gr,gz,gu,aR]at aG;omega
 simp;refine fA (fun i (_:Unit)=>⟨[(5,.slice 4 .no (l.map enc)),(6,.int .i64 l.length),(7,.int .i64 i)],[],[],0,[]⟩) l.length (pB Tm.fits l) () cW (fun k b ab=>Ω) (fun _ ai _=>?_) (fun i _ aw ai _=>?_)
 ·have:R=true:=by rw[<-bt];exact ai.fin
  subst this;clear ai bt;exact bY
 ·obtain⟨t,aE,afa⟩:=fQ aw;have cN:=XW t;cases g:t.fits
  ·rw[g]at cN;have:R=false:=by rw[<-bt];exact yQ aE g
   subst this;clear aE ai bt;exact bY
  ·rw[g]at cN;have aM:=ai.step aE g;clear aE ai bt;exact tZ
theorem N5(s:List aj):bW aF 103 [.str s] (.bool (gG s)):=by
 have c1:=E7 s;by_cases h:kl.contains s=true
 ·have:gG s=false:=by unfold gG;rw[h];rfl
  rw[this];have hm:s∈kl:=by simpa using h
  simp only[kl,gy,List.not_mem_nil,or_false]at hm;rcases hm with rfl|rfl|rfl|rfl|rfl|rfl|rfl|rfl|rfl;all_goals
   refine bI mH Q9 U8 fun aG=>?_;unfold IW
   clear aG c1
   simp[ia,iL,sD,sB,sx,sy,sC,sA,iA]
   exact bY
 ·have:gG s=gb s:=by unfold gG;rw[Bool.not_eq_true]at h;rw[h];rfl
  rw[this];have hm:∀w∈kl,(s==w)=false:=fun w hw=>by rw[jj];rintro rfl;exact h (by simpa using hw)
  simp only[kl,gy,List.not_mem_nil,or_false,forall_eq_or_imp,forall_eq]at hm;obtain⟨I,J,au,aP,bA,cy,eu,gQ,ec⟩:=hm;simp only[ia,iL,sD,sB,sx,sy,sC,sA,iA]at I J au aP bA cy eu gQ ec;refine bI mH Q9 U8 fun aG=>?_;unfold IW;clear aG;exact bY
theorem Ha{α:Type}(l:List α):((l.length:Int)==0)=l.isEmpty:=by
 cases l with
 |nil=>rfl
 |cons a l=>simp;omega
def jM(g:Gm)(room:Int):Int:=if g.shape=true/\(g.sz:Int)<=room then g.sz else-1
theorem zI{g:Gm}{room:Int}(h:g.shape=true)(J:(g.sz:Int)<=room):jM g room=g.sz:=if_pos ⟨h,J⟩
theorem ya{g:Gm}{room:Int}(h:g.shape=false):jM g room= -1:=br fun J=>by rw[h]at J;cases J.1
theorem agC{g:Gm}{room:Int}(h:room<g.sz):jM g room= -1:=br fun J=>Ω
theorem pK(g:Gm):g.shape=(g.ts.all Tm.fits&&(
  if 0<=g.kind/\g.kind<=6 then g.name==[]&&g.gs.isEmpty&&decide ((g.ts.length:Int)=l2 g.kind)&&(g.kind !=6||(match g.ts with|x::_=>decide (x.kind=2)|[]=>false))
  else if g.kind=9 then gG g.name&&g.gs.isEmpty&&decide (g.ts.length<=4)
  else if g.kind=7\/g.kind=8 then g.name==[]&&g.ts.isEmpty&&decide (g.gs.length<=8)&&g.gs.all Gm.shape
  else if g.kind=10 then g.name==[]&&g.ts.isEmpty&&(match g.gs with|[x]=>decide (x.kind=9)|_=>false)&&g.gs.all Gm.shape
  else false)):=by
 have iE:∀l:List Gm,vo l=l.all Gm.shape:=by
  intro l;induction l with
  |nil=>rfl
  |cons x l aX=>simp[vo,aX]
 cases g;simp only[Gm.shape,Gm.kind,Gm.name,Gm.ts,Gm.gs,iE];rfl
theorem vr(g:Gm):g.sz=1+(g.gs.map Gm.sz).sum:=by
 have iE:∀l:List Gm,p2 l=(l.map Gm.sz).sum:=by
  intro l;induction l with
  |nil=>rfl
  |cons x l aX=>simp[p2,aX]
 cases g;simp only[Gm.sz,Gm.gs,iE]
abbrev NR:List (Int×ae):=oA 6 (.int .i64 2) (oA 5 (.int .i64 1) (oA 4 (.int .i64 1) (oA 3 (.int .i64 2) (oA 2 (.int .i64 2) []))))
theorem tQ(f:aC->aW (List ae))(m:aC)(k:Int)(hm:f m=some (mz NR)):pD f .i (.int .i64 0) false (.gmap m) (.int .i64 k)=some (True,.int .i64 (l2 k)):=by
 rw[od _ _ _ _ false k hm];by_cases J:k=2
 ·subst J;rfl
 by_cases au:k=3
 ·subst au;rfl
 by_cases aP:k=4
 ·subst aP;rfl
 by_cases bA:k=5
 ·subst bA;rfl
 by_cases cy:k=6
 ·subst cy;rfl
 have:xl k NR=none:=by have e:NR=[(2,.int .i64 2),(3,.int .i64 2),(4,.int .i64 1),(5,.int .i64 1),(6,.int .i64 2)]:=rfl;rw[e];simp[xl,J,au,aP,bA,cy]
 rw[this];simp[l2,J,au,aP,bA,cy]
theorem afR(k:Int):k=0\/k=1\/k=2\/k=3\/k=4\/k=5\/k=6\/k=7\/k=8\/k=9\/k=10\/(k<0\/10<k):=Ω
theorem XI{α:Type}{l:List α}(h:l.length=2):∃x y,l=[x,y]:=by
 match l,h with
 |[x,y],_=>exact⟨x,y,rfl⟩
theorem adh(g:Gm){room:Int}(h:room<1):bW aF 117 [g.e,.int .i64 room] (.int .i64 (-1)):=by refine bI mH s0 tV fun aG=>?_;unfold rL;clear aG;exact bY
theorem adm(g:Gm){room:Int}(h:¬room<1)(aE:g.ts.all Tm.fits=false):bW aF 117 [g.e,.int .i64 room] (.int .i64 (-1)):=by have cN:=vy g.ts;rw[aE]at cN;refine bI mH s0 tV fun aG=>?_;unfold rL;clear aG;exact bY
theorem adf(g:Gm){room:Int}(h:¬room<1)(aE:g.ts.all Tm.fits=true)(ab:0<=g.kind/\g.kind<=6):bW aF 117 [g.e,.int .i64 room] (.int .i64 (if g.shape then 1 else-1)):=by
 have cN:=vy g.ts;rw[aE]at cN;generalize bt:(if g.shape then(1:Int)else-1)=R;rw[pK,aE,if_pos ab,Bool.true_and]at bt;have p8:g.kind=0\/g.kind=1\/g.kind=2\/g.kind=3\/g.kind=4\/g.kind=5\/g.kind=6:=Ω
 have ah:∀l:List Gm,((l.length:Int) !=0)= !l.isEmpty:=fun l=>by simp only[bne,Ha]
 clear ab aE;rcases p8 with ab|ab|ab|ab|ab|ab|ab;all_goals
  rw[ab]at bt
  simp[l2]at bt
  refine bI mH s0 tV fun aG=>?_;unfold rL
  clear aG
  simp
  simp[ab]
  ((with_reducible repeat' first|refine av ?_|refine aZ cN ?_|refine a1 cN ?_|simp[h,ab,tQ,l2,ah,-od]|((first|apply dt|apply dx|apply dw)<;>intro h<;>try simp at h))<;>(try exact dQ))
  all_goals try(simp[cn,vh,ba,bg,aT];simp_all;done)
  all_goals
   obtain⟨x,y,e⟩:∃x y,g.ts=[x,y]:=XI Ω
   simp only[e]at bt⊢
   simp
   ((with_reducible repeat' first|refine av ?_|simp|((first|apply dt|apply dx|apply dw)<;>intro h<;>try simp at h))<;>(try exact dQ))
   all_goals(simp[cn,vh,ba,bg,aT];simp_all;done)
theorem ade(g:Gm){room:Int}(h:¬room<1)(aE:g.ts.all Tm.fits=true)(ab:g.kind=9):bW aF 117 [g.e,.int .i64 room] (.int .i64 (if g.shape then 1 else-1)):=by
 have cN:=vy g.ts;rw[aE]at cN;have lg:=N5 g.name;generalize bt:(if g.shape then(1:Int)else-1)=R;have he:g.shape=(gG g.name&&g.gs.isEmpty&&decide (g.ts.length<=4)):=by rw[pK,aE,ab];rfl
 rw[he]at bt;clear he;have ah:∀l:List Gm,((l.length:Int) !=0)= !l.isEmpty:=fun l=>by simp only[bne,Ha]
 have aH:decide ((4:Int)<g.ts.length)= !decide (g.ts.length<=4):=by
  by_cases h:g.ts.length<=4
  ·rw[oX h];simp;omega
  ·rw[decide_eq_false h];simp;omega
 cases aw:gG g.name;all_goals
  rw[aw]at lg bt
  refine bI mH s0 tV fun aG=>?_;unfold rL
  clear aG
  simp
  simp[ab]
  ((with_reducible repeat' first|refine av ?_|refine aZ cN ?_|refine a1 cN ?_|refine aZ lg ?_|refine a1 lg ?_|simp[h,ab,tQ,l2,ah,-od]|((first|apply dt|apply dx|apply dw)<;>intro h<;>try simp at h))<;>(try exact dQ))
  all_goals(simp[cn,vh,ba,bg,aT];simp_all)
  all_goals omega
theorem adl(g:Gm){room:Int}(h:¬room<1)(ab:g.kind<0\/10<g.kind):bW aF 117 [g.e,.int .i64 room] (.int .i64 (-1)):=by
 have cN:=vy g.ts;have e:∀n:Int,0<=n->n<=10->(g.kind==n)=false:=fun n I J=>jj.2 Ω;have kq:=e 0 Ω Ω;have ao:=e 1 Ω Ω;have aL:=e 2 Ω Ω;have bB:=e 3 Ω Ω;have b9:=e 4 Ω Ω;have ee:=e 5 Ω Ω;have dC:=e 6 Ω Ω;have nu:=e 7 Ω Ω;have pd:=e 8 Ω Ω;have uN:=e 9 Ω Ω;have aae:=e 10 Ω Ω;clear e ab;cases aE:g.ts.all Tm.fits;all_goals
  rw[aE]at cN
  refine bI mH s0 tV fun aG=>?_;unfold rL
  clear aG
  simp
  (with_reducible repeat' first|refine av ?_|refine aZ cN ?_|refine a1 cN ?_|simp[h,tQ,kq,ao,aL,bB,b9,ee,dC,nu,pd,uN,aae,-od])
  simp[cn,vh,ba,bg,aT]
set_option maxRecDepth 8000 in
theorem adi(g:Gm){room:Int}(h:¬room<1)(aE:g.ts.all Tm.fits=true)(ab:g.kind=7\/g.kind=8\/g.kind=10)(aM:g.name.isEmpty=false):bW aF 117 [g.e,.int .i64 room] (.int .i64 (-1)):=by
 have cN:=vy g.ts;rw[aE]at cN;rcases ab with ab|ab|ab;all_goals
  refine bI mH s0 tV fun aG=>?_;unfold rL
  clear aG
  simp
  (with_reducible repeat' first|refine av ?_|refine aZ cN ?_|refine a1 cN ?_|simp[h,tQ,ab,aM,-od])
  simp[cn,vh,ba,bg,aT]
set_option maxRecDepth 8000 in
theorem adn(g:Gm){room:Int}(h:¬room<1)(aE:g.ts.all Tm.fits=true)(ab:g.kind=7\/g.kind=8\/g.kind=10)(aM:g.name.isEmpty=true)(J:¬g.ts.length=0):bW aF 117 [g.e,.int .i64 room] (.int .i64 (-1)):=by
 have cN:=vy g.ts;rw[aE]at cN;have au:((g.ts.length:Int) !=0)=true:=by simpa using J
 rcases ab with ab|ab|ab;all_goals
  refine bI mH s0 tV fun aG=>?_;unfold rL
  clear aG
  simp
  (with_reducible repeat' first|refine av ?_|refine aZ cN ?_|refine a1 cN ?_|simp[h,tQ,ab,aM,au,-od])
  simp[cn,vh,ba,bg,aT]
set_option maxRecDepth 8000 in
theorem adg(g:Gm){room:Int}(h:¬room<1)(aE:g.ts.all Tm.fits=true)(ab:g.kind=7\/g.kind=8)(aM:g.name.isEmpty=true)(J:g.ts.length=0)(aP:¬g.gs.length<=8):bW aF 117 [g.e,.int .i64 room] (.int .i64 (-1)):=by
 have cN:=vy g.ts;rw[aE]at cN;have bA:(8:Int)<g.gs.length:=Ω
 rcases ab with ab|ab;all_goals
  refine bI mH s0 tV fun aG=>?_;unfold rL
  clear aG
  simp
  (with_reducible repeat' first|refine av ?_|refine aZ cN ?_|refine a1 cN ?_|simp[h,tQ,ab,aM,J,bA,-od])
  simp[cn,vh,ba,bg,aT]
set_option maxRecDepth 8000 in
theorem adj(g:Gm){room:Int}(h:¬room<1)(aE:g.ts.all Tm.fits=true)(ab:g.kind=10)(aM:g.name.isEmpty=true)(J:g.ts.length=0)(aP:¬g.gs.length=1):bW aF 117 [g.e,.int .i64 room] (.int .i64 (-1)):=by
 have cN:=vy g.ts;rw[aE]at cN;have bA:((g.gs.length:Int) !=1)=true:=by simp;omega
 refine bI mH s0 tV fun aG=>?_;unfold rL;clear aG;simp;(with_reducible repeat' first|refine av ?_|refine aZ cN ?_|refine a1 cN ?_|simp[h,tQ,ab,aM,J,bA,-od]);simp[cn,vh,ba,bg,aT]
set_option maxRecDepth 8000 in
theorem adk(g:Gm){room:Int}(h:¬room<1)(aE:g.ts.all Tm.fits=true)(ab:g.kind=10)(aM:g.name.isEmpty=true)(J:g.ts.length=0){x:Gm}(aP:g.gs=[x])(bA:¬x.kind=9):bW aF 117 [g.e,.int .i64 room] (.int .i64 (-1)):=by
 have cN:=vy g.ts;rw[aE]at cN;have cy:(x.kind !=9)=true:=by simpa using bA
 refine bI mH s0 tV fun aG=>?_;unfold rL;clear aG;simp;(with_reducible repeat' first|refine av ?_|refine aZ cN ?_|refine a1 cN ?_|simp[h,tQ,ab,aM,J,aP,cy,-od]);simp[cn,vh,ba,bg,aT]
theorem NQ{l:List Gm}{i:Nat}{x:Gm}(h:l[i]? =some x):((l.take (i+1)).map Gm.sz).sum=((l.take i).map Gm.sz).sum+x.sz:=by rw[k3,h];simp
theorem NL{l:List Gm}(i:Nat):((l.take i).map Gm.sz).sum<=(l.map Gm.sz).sum:=by
 conv=>rhs;rw[<-ry i l]
 rw[List.map_append,List.sum_append];omega
def nl(g:Gm)(room:Int)(i:Nat)(n:Int):aU:=⟨[(1,.int .i64 room),(6,.int .i64 n),(124,.slice 4 .no (g.gs.map Gm.e)),(125,.int .i64 g.gs.length),(126,.int .i64 i)],[],[],0,[]⟩
def Ak(g:Gm)(room:Int)(i:Nat)(n:Int):Prop:=n=1+(((g.gs.take i).map Gm.sz).sum:Nat)/\pB Gm.shape g.gs i ()/\n<=room
set_option maxRecDepth 8000 in
theorem Sf(g:Gm){room:Int}(h:¬room<1)(hr:room<=1000)(aE:g.ts.all Tm.fits=true)(ab:g.kind=7\/g.kind=8\/g.kind=10)(aM:g.name.isEmpty=true)(J:g.ts.length=0)(aP:g.kind≠10->g.gs.length<=8)(bA:g.kind=10->∃x,g.gs=[x]/\x.kind=9)
  (gE:g.shape=g.gs.all Gm.shape) (aX:∀x∈g.gs,∀r:Int,-1000<=r/\r<=1000->bW aF 117 [x.e,.int .i64 r] (.int .i64 (jM x r))):bW aF 117 [g.e,.int .i64 room] (.int .i64 (jM g room)):=by
 have cN:=vy g.ts;rw[aE]at cN;have aej:g.gs.length<=1000:=by
  rcases ab with ab|ab|ab
  ·have:=aP Ω;omega
  ·have:=aP Ω;omega
  ·obtain⟨x,af,_⟩:=bA ab;rw[af];simp
 have eu:g.kind≠10->¬(8:Int)<g.gs.length:=fun e=>by have:=aP e;omega
 rcases ab with ab|ab|ab;all_goals
  refine bI mH s0 tV fun aG=>?_;unfold rL
  clear aG
  simp
 ·have gQ:=eu Ω;clear aP bA eu;(with_reducible repeat' first|refine av ?_|refine aZ cN ?_|refine a1 cN ?_|simp[h,tQ,ab,aM,J,gQ,-od]);refine fA (nl g room) g.gs.length (Ak g room) 1 (by simp[nl];exact cW) ⟨Ψ,fun k b ab=>Ω,Ω⟩ (fun n ai _=>?_) (fun i n aw ai _=>?_)
  ·obtain⟨nF,l0,zA⟩:=ai;rw[hE]at nF;have:jM g room=n:=by rw[zI (by rw[gE];exact l0.fin) (by rw[vr];omega),vr];omega
   rw[this];clear nF l0 aX gE this;simp[nl];exact bY
  ·obtain⟨y,bG,h4⟩:=fQ aw;obtain⟨nF,l0,zA⟩:=ai;have tD:=NQ bG;have x1:=NL (l:=g.gs) (i+1);have bZ:aY ((i:Int)+1):=by unfold aY;omega
   have DK:aY (room-n):=by unfold aY;omega
   have ky:=aX y (e1 bG) (room-n) Ω;by_cases kx:y.shape=true/\(y.sz:Int)<=room-n
   ·rw[zI kx.1 kx.2]at ky;have DB:aY (n+y.sz):=by unfold aY;omega
    have b5:¬(y.sz:Int)<0:=Ω
    have jk:Ak g room (i+1) (n+y.sz):=⟨by rw[tD];omega,l0.step bG kx.1,Ω⟩;clear nF l0 aX gE tD x1 bG;simp[nl,aw,h4];(with_reducible repeat' first|refine av ?_|refine aZ ky ?_|refine a1 ky ?_|simp[aw,h4,bZ,DK,DB,b5]);refine b1.rng (n+y.sz) aw jk (by simp[nl];exact cW)
   ·have cK:jM y (room-n)= -1:=br kx;rw[cK]at ky;have:jM g room= -1:=by
     unfold jM;rw[br];rintro⟨g1,g2⟩;refine kx ⟨?_,?_⟩
     ·rw[gE,ji]at g1;exact g1 y (e1 bG)
     ·rw[vr]at g2;omega
    rw[this];clear nF l0 aX gE tD x1 bG kx cK this;simp[nl,aw,h4];exact bY
 ·have gQ:=eu Ω;clear aP bA eu;(with_reducible repeat' first|refine av ?_|refine aZ cN ?_|refine a1 cN ?_|simp[h,tQ,ab,aM,J,gQ,-od]);refine fA (nl g room) g.gs.length (Ak g room) 1 (by simp[nl];exact cW) ⟨Ψ,fun k b ab=>Ω,Ω⟩ (fun n ai _=>?_) (fun i n aw ai _=>?_)
  ·obtain⟨nF,l0,zA⟩:=ai;rw[hE]at nF;have:jM g room=n:=by rw[zI (by rw[gE];exact l0.fin) (by rw[vr];omega),vr];omega
   rw[this];clear nF l0 aX gE this;simp[nl];exact bY
  ·obtain⟨y,bG,h4⟩:=fQ aw;obtain⟨nF,l0,zA⟩:=ai;have tD:=NQ bG;have x1:=NL (l:=g.gs) (i+1);have bZ:aY ((i:Int)+1):=by unfold aY;omega
   have DK:aY (room-n):=by unfold aY;omega
   have ky:=aX y (e1 bG) (room-n) Ω;by_cases kx:y.shape=true/\(y.sz:Int)<=room-n
   ·rw[zI kx.1 kx.2]at ky;have DB:aY (n+y.sz):=by unfold aY;omega
    have b5:¬(y.sz:Int)<0:=Ω
    have jk:Ak g room (i+1) (n+y.sz):=⟨by rw[tD];omega,l0.step bG kx.1,Ω⟩;clear nF l0 aX gE tD x1 bG;simp[nl,aw,h4];(with_reducible repeat' first|refine av ?_|refine aZ ky ?_|refine a1 ky ?_|simp[aw,h4,bZ,DK,DB,b5]);refine b1.rng (n+y.sz) aw jk (by simp[nl];exact cW)
   ·have cK:jM y (room-n)= -1:=br kx;rw[cK]at ky;have:jM g room= -1:=by
     unfold jM;rw[br];rintro⟨g1,g2⟩;refine kx ⟨?_,?_⟩
     ·rw[gE,ji]at g1;exact g1 y (e1 bG)
     ·rw[vr]at g2;omega
    rw[this];clear nF l0 aX gE tD x1 bG kx cK this;simp[nl,aw,h4];exact bY
 ·obtain⟨x,af,afj⟩:=bA ab;clear aP bA eu;(with_reducible repeat' first|refine av ?_|refine aZ cN ?_|refine a1 cN ?_|simp[h,tQ,ab,aM,J,af,afj,-od]);refine fA (nl g room) g.gs.length (Ak g room) 1 (by simp[nl];exact⟨by simp[fresh,kinL,kin,bu,ak,Pv.look,af],cG (by simp[fresh,kinL,kin,bu,ak,Pv.look,af]),cI (by simp[fresh,kinL,kin,cw,ak,Pv.look,af]),Ψ⟩) ⟨Ψ,fun k b ab=>Ω,Ω⟩ (fun n ai _=>?_) (fun i n aw ai _=>?_)
  ·obtain⟨nF,l0,zA⟩:=ai;rw[hE]at nF;have:jM g room=n:=by rw[zI (by rw[gE];exact l0.fin) (by rw[vr];omega),vr];omega
   rw[this];clear nF l0 aX gE this;simp[nl];exact bY
  ·obtain⟨y,bG,h4⟩:=fQ aw;obtain⟨nF,l0,zA⟩:=ai;have tD:=NQ bG;have x1:=NL (l:=g.gs) (i+1);have bZ:aY ((i:Int)+1):=by unfold aY;omega
   have DK:aY (room-n):=by unfold aY;omega
   have ky:=aX y (e1 bG) (room-n) Ω;by_cases kx:y.shape=true/\(y.sz:Int)<=room-n
   ·rw[zI kx.1 kx.2]at ky;have DB:aY (n+y.sz):=by unfold aY;omega
    have b5:¬(y.sz:Int)<0:=Ω
    have jk:Ak g room (i+1) (n+y.sz):=⟨by rw[tD];omega,l0.step bG kx.1,Ω⟩;clear nF l0 aX gE tD x1 bG;simp[nl,aw,h4];(with_reducible repeat' first|refine av ?_|refine aZ ky ?_|refine a1 ky ?_|simp[aw,h4,bZ,DK,DB,b5]);refine b1.rng (n+y.sz) aw jk (by simp[nl];exact cW)
   ·have cK:jM y (room-n)= -1:=br kx;rw[cK]at ky;have:jM g room= -1:=by
     unfold jM;rw[br];rintro⟨g1,g2⟩;refine kx ⟨?_,?_⟩
     ·rw[gE,ji]at g1;exact g1 y (e1 bG)
     ·rw[vr]at g2;omega
    rw[this];clear nF l0 aX gE tD x1 bG kx cK this;simp[nl,aw,h4];exact bY
theorem akC:∀(n:Nat) (g:Gm),g.sz<=n->∀room:Int,-1000<=room/\room<=1000->bW aF 117 [g.e,.int .i64 room] (.int .i64 (jM g room)):=by
 intro n;induction n with
 |zero=>intro g aS;have:=g.sz_pos;omega
 |succ n aX=>
 intro g aS room hr;by_cases h:room<1
 ·rw[agC (by have:=g.sz_pos;omega)];exact adh g h
 cases aE:g.ts.all Tm.fits
 ·rw[ya (by rw[pK,aE];rfl)];exact adm g h aE
 have leaf:∀az:g.gs=[]\/g.shape=false,jM g room=if g.shape then 1 else-1:=by
  intro az;cases gE:g.shape
  ·rw[ya gE];rfl
  ·rw[gE]at az;have az:g.gs=[]:=by simpa using az
   have I:g.sz=1:=by rw[vr,az];rfl
   rw[zI gE Ω,I];rfl
 rcases afR g.kind with ab|ab|ab|ab|ab|ab|ab|ab|ab|ab|ab|ab;case inr.inr.inr.inr.inr.inr.inr.inr.inr.inr.inr=>rw[ya (by rw[pK,br Ω,br Ω,br Ω,br Ω,Bool.and_false])];exact adl g h ab
 case inr.inr.inr.inr.inr.inr.inr.inr.inr.inl=>
  rw[leaf ?_]
  ·exact ade g h aE ab
  ·by_cases az:g.gs=[]
   ·exact .inl az
   ·right;rw[pK,aE,ab];have:g.gs.isEmpty=false:=by simpa using az
    simp[this]
 case inr.inr.inr.inr.inr.inr.inr.inl|inr.inr.inr.inr.inr.inr.inr.inr.inl|inr.inr.inr.inr.inr.inr.inr.inr.inr.inr.inl=>
  have gS:g.kind=7\/g.kind=8\/g.kind=10:=Ω
  have hs:=pK g;rw[aE,Bool.true_and,br Ω,br Ω]at hs;cases aM:g.name.isEmpty
  ·have hz:(g.name==[])=false:=by simpa using aM
   rw[ya (by rw[hs,hz];simp)];exact adi g h aE gS aM
  have hz:(g.name==[])=true:=by simpa using aM
  by_cases J:g.ts.length=0;rotate_left
  ·have vW:g.ts.isEmpty=false:=by simpa using J
   rw[ya (by rw[hs,vW];simp)];exact adn g h aE gS aM J
  have vW:g.ts.isEmpty=true:=by simpa using J
  rw[hz,vW,Bool.true_and]at hs;have Bk:∀x∈g.gs,∀r:Int,-1000<=r/\r<=1000->bW aF 117 [x.e,.int .i64 r] (.int .i64 (jM x r)):=fun x af r hr=>aX x (by have:=g.gs_lt af;omega) r hr;by_cases fN:g.kind=10
  ·rw[br Ω,if_pos fN,Bool.true_and]at hs;by_cases aP:g.gs.length=1
   ·obtain⟨x,af⟩:=List.length_eq_one_iff.1 aP;by_cases ec:x.kind=9
    ·exact Sf g h hr.2 aE gS aM J (fun e=>absurd fN e) (fun _=>⟨x,af,ec⟩) (by rw[hs,af];simp[ec]) Bk
    ·rw[ya (by rw[hs,af];simp[ec])];exact adk g h aE fN aM J af ec
   ·rw[ya (by
     rw[hs];match aS:g.gs with
     |[]=>rfl
     |[x]=>rw[aS]at aP;simp at aP
     |x::y::l=>rfl)]
    exact adj g h aE fN aM J aP
  ·have zf:g.kind=7\/g.kind=8:=Ω
   rw[if_pos zf,Bool.true_and]at hs;by_cases aP:g.gs.length<=8
   ·exact Sf g h hr.2 aE gS aM J (fun _=>aP) (fun e=>absurd e fN) (by rw[hs,oX aP];rfl) Bk
   ·rw[ya (by rw[hs,decide_eq_false aP];rfl)];exact adg g h aE zf aM J aP
 all_goals
  rw[leaf ?_]
  ·exact adf g h aE Ω
  ·by_cases az:g.gs=[]
   ·exact .inl az
   ·right;rw[pK,aE,ab]
    have:g.gs.isEmpty=false:=by simpa using az
    simp[this]
theorem N7(t:T):bW aF 77 [t.e] (.bool t.fit):=by have:=XW t.tm;rwa[sX,Tm.fits_T]at this
theorem X5(a b:T):bW aF 206 [a.e,b.e] (T.pair a b).e:=by refine bI rn F2 Hy fun aG=>?_;unfold CM;simp;(with_reducible repeat' first|((first|refine dt (fun h=>?_) fun h=>?_|refine dx (fun h=>?_) fun h=>?_|refine dw (fun h=>?_) fun h=>?_)<;>try simp at h)|refine av ?_|simp);all_goals try simp[cn,VV,ba,bg,aT]
theorem akK(a b:T):bW aF 141 [a.e,b.e] (T.pair a b).e:=by refine bI rn acf ahR fun aG=>?_;unfold P8;simp;(with_reducible repeat' first|((first|refine dt (fun h=>?_) fun h=>?_|refine dx (fun h=>?_) fun h=>?_|refine dw (fun h=>?_) fun h=>?_)<;>try simp at h)|refine av ?_|simp);all_goals try simp[cn,Wg,ba,bg,aT]
def UC(l:List (Int×T)):List ae:=mz (l.map fun x=>(x.1,x.2.e))
@[simp]theorem aoL:UC []=mz []:=rfl
@[simp]theorem ao9(l:List (Int×T)):gO (UC l)=false:=rfl
end
end Go.Proofs.YtlnndmgfngfeiaaGreatDoor
namespace Go.Proofs
section
open Go.Shelf
def Tryz.lays191_ren:Go.Shelf.Ren:=⟨fun|191=>213|189=>254|125=>202|257=>272|128=>240|129=>241|294=>284|295=>285|296=>286|297=>287|298=>288|299=>289|216=>290|300=>291|301=>292|328=>298|329=>299|330=>300|331=>301|332=>302|215=>303|343=>306|n=>n,fun|28=>136|0=>0|3=>3|46=>209|51=>265|53=>267|4=>4|183=>309|182=>308|131=>214|5=>5|9=>9|218=>319|222=>292|228=>328|229=>305|n=>n,fun|n=>n⟩
theorem Tryz.lays191:Go.Proofs.Lays.n191 aF Tryz.lays191_ren:={
 mixed:=by kernel_rfl
 f125:=Tryz.func202.trans (er some (by kernel_rfl))
 f128:=Tryz.func240.trans (er some (by kernel_rfl))
 f129:=Tryz.func241.trans (er some (by kernel_rfl))
 f189:=Tryz.func254.trans (er some (by kernel_rfl))
 f191:=Tryz.func213.trans (er some (by kernel_rfl))
 f215:=Tryz.func303.trans (er some (by kernel_rfl))
 f216:=Tryz.func290.trans (er some (by kernel_rfl))
 f257:=Tryz.func272.trans (er some (by kernel_rfl))
 f294:=Tryz.func284.trans (er some (by kernel_rfl))
 f295:=Tryz.func285.trans (er some (by kernel_rfl))
 f296:=Tryz.func286.trans (er some (by kernel_rfl))
 f297:=Tryz.func287.trans (er some (by kernel_rfl))
 f298:=Tryz.func288.trans (er some (by kernel_rfl))
 f299:=Tryz.func289.trans (er some (by kernel_rfl))
 f300:=Tryz.func291.trans (er some (by kernel_rfl))
 f301:=Tryz.func292.trans (er some (by kernel_rfl))
 f328:=Tryz.func298.trans (er some (by kernel_rfl))
 f329:=Tryz.func299.trans (er some (by kernel_rfl))
 f330:=Tryz.func300.trans (er some (by kernel_rfl))
 f331:=Tryz.func301.trans (er some (by kernel_rfl))
 f332:=Tryz.func302.trans (er some (by kernel_rfl))
 f343:=Tryz.func306.trans (er some (by kernel_rfl))
 t0:=Tryz.underlying0
 a0:=Tryz.isAgg0
 z0:=Tryz.sizeOf0
 v0:=Tryz.zeroValue0
 t3:=Tryz.underlying3
 a3:=Tryz.isAgg3
 z3:=Tryz.sizeOf3
 v3:=Tryz.zeroValue3
 t4:=Tryz.underlying4
 a4:=Tryz.isAgg4
 z4:=Tryz.sizeOf4
 v4:=Tryz.zeroValue4
 t5:=Tryz.underlying5
 a5:=Tryz.isAgg5
 z5:=Tryz.sizeOf5
 v5:=Tryz.zeroValue5
 t9:=Tryz.underlying9
 a9:=Tryz.isAgg9
 z9:=Tryz.sizeOf9
 v9:=Tryz.zeroValue9
 t28:=Tryz.underlying136
 a28:=Tryz.isAgg136
 z28:=Tryz.sizeOf136
 v28:=Tryz.zeroValue136
 t46:=Tryz.underlying209
 a46:=Tryz.isAgg209
 z46:=Tryz.sizeOf209
 v46:=Tryz.zeroValue209
 t51:=Tryz.underlying265
 a51:=Tryz.isAgg265
 z51:=Tryz.sizeOf265
 v51:=Tryz.zeroValue265
 t53:=Tryz.underlying267
 a53:=Tryz.isAgg267
 z53:=Tryz.sizeOf267
 v53:=Tryz.zeroValue267
 t131:=Tryz.underlying214
 a131:=Tryz.isAgg214
 z131:=Tryz.sizeOf214
 v131:=Tryz.zeroValue214
 t182:=Tryz.underlying308
 a182:=Tryz.isAgg308
 z182:=Tryz.sizeOf308
 v182:=Tryz.zeroValue308
 t183:=Tryz.underlying309
 a183:=Tryz.isAgg309
 z183:=Tryz.sizeOf309
 v183:=Tryz.zeroValue309
 t218:=Tryz.underlying319
 a218:=Tryz.isAgg319
 z218:=Tryz.sizeOf319
 v218:=Tryz.zeroValue319
 t222:=Tryz.underlying292
 a222:=Tryz.isAgg292
 z222:=Tryz.sizeOf292
 v222:=Tryz.zeroValue292
 t228:=Tryz.underlying328
 a228:=Tryz.isAgg328
 z228:=Tryz.sizeOf328
 v228:=Tryz.zeroValue328
 t229:=Tryz.underlying305
 a229:=Tryz.isAgg305
 z229:=Tryz.sizeOf305
 v229:=Tryz.zeroValue305}
end
end Go.Proofs

namespace Go.Proofs.YtlnndmgfngfeiaaGreatDoor
section
open Go Go.Pv
def eP(xs:List Int):List ae:=xs.map (ae.int .i64)
theorem Wv{w:World}{ν:aQ}:∀{xs:List Int} {us:List Value},cV w ν 1 (eP xs) us->us=xs.map (oV .i64)
 |[],us,h=>by simpa[eP,cV]using h
 |x::xs,us,h=>by simp only[eP,fF,cV]at h;obtain⟨u,bE,rfl,⟨I,_,_⟩,J⟩:=h;simp only[aJ]at I;subst I;rw[Wv J];rfl
theorem TC(w:World)(ν:aQ):∀xs:List Int,cV w ν 1 (eP xs) (xs.map (oV .i64))
 |[]=>by simp[eP,cV]
 |x::xs=>by simp only[eP,fF,cV];exact⟨.int .i64 x,_,rfl,⟨by simp[aJ],rfl,by intro c aH;simp[nO]at aH;subst aH;rfl⟩,TC w ν xs⟩
def nS(K:Nat)(xs:List Int):dJ:=⟨[],[(.obj K,⟨xs.length,3,1,some (eP xs)⟩)]⟩
theorem u7(S:aC->Prop)(xs:List Int):kinL S (eP xs):=by
 induction xs with
 |nil=>simp[eP,kinL]
 |cons x r aX=>simp only[eP,fF,kinL,kin];exact⟨trivial,aX⟩
theorem IF(K:Nat)(xs:List Int):hn (nS K xs):=by unfold nS;refine hn.of ⟨by intro m;simp[Pv.look],by intro m;simp[Pv.look]⟩ Ψ ?_;intro x af ys bG;simp at af;subst af;simp at bG;subst bG;exact u7 _ xs
def ri(xs:List Int):List Int:=xs.mergeSort fun x y=>decide (x<=y)
theorem NA(xs:List Int):(ri xs).length=xs.length:=List.length_mergeSort xs
theorem ac2(K:Nat)(xs:List Int)(aD:xs.length<=1000000):b3 aF 213 [.row 1 (.obj K) xs.length] (nS K xs) fun r al=>r= .tuple []/\al=nS K (ri xs):=by
 refine b3.sem (IF K xs).obj fun w ν vs _ gF hr=>?_;refine .inl ⟨⟨Tryz.f213,Tryz.func213,by kernel_rfl,by kernel_rfl⟩,?_⟩;have mV:=hr.slot 0;simp only[iy,Pv.get,if_true]at mV;have lC:Pv.look (.obj K) (nS K xs).e=some ⟨xs.length,3,1,some (eP xs)⟩:=by simp[nS,Pv.look]
 obtain⟨v,us,b0,cS,dT,dY⟩:=hr.good.own (.obj K) _ lC;obtain⟨di,mC,tY⟩:=dY _ rfl;have kR:=Wv mC;subst kR;simp only[aJ]at mV;obtain⟨⟨O6,Qj,vZ⟩,_,n',u,ao,aL,bB⟩:=mV;rw[b0]at ao;simp only[ei,gY]at ao;obtain⟨rfl,rfl⟩:=ao;have aN:=bB rfl;have wB:vs= #[v]:=by
  have I:vs.size=1:=by simpa using gF
  apply Array.ext (by simpa using I);intro i J au;simp at au;subst au;rw[<-aN];simp[Array.getD,I]
 have b7:v≠ .slice none 0 0:=by rw[<-aN,vZ];simp
 obtain⟨g,cap,rfl,_,nB,Bb,anz,anA,adu⟩:=Lib.holds_of_ownsRow cS b7;have aH:=Any.sort_Ints Tryz.lays191 g 0 cap xs w adu nB Ω;subst wB;refine aH.mono ?_;rintro e w' ⟨rfl,n,os,rfl⟩;have jY:=NA xs;have ld:=Lib.ownsRow_putRow (q:=n) (k:=xs.length) (ys:=ri xs) cS jY (cc _);rw[vB Ω]at ld;obtain⟨ij,gA,_⟩:=hr.setRowM (w':=Sort.putRow (oV .i64) (Sort.ahead w n) g 0 (ri xs).toArray) lC rfl b0 (bl:=g) rfl (v':= .slice (some ⟨g,0,none⟩) xs.length cap) rfl (xs':=eP (ri xs)) (us:=(ri xs).map (oV .i64)) (.inl ⟨by simp[eP,jY],rfl⟩) rfl rfl rfl
  (fun j ai=>by simp[Sort.putRow,Sort.mapBlock,Sort.ahead,Array.getElem?_modify,Ne.symm ai]) (by simp[Sort.putRow,Sort.mapBlock,Sort.ahead]) (by simpa[eP,jY]using ld) (TC _ _ _)
 have ql:=ij.grown (w':=Sort.grow (Sort.putRow (oV .i64) (Sort.ahead w n) g 0 (ri xs).toArray) os) ⟨rfl,rfl,rfl,Ψ,fun k ab _=>Sort.heap_grow_old _ _ ab⟩;refine⟨_,_,_,_,.tuple [],nS K (ri xs),rfl,ql,by simp[aJ,cz],by simp[nS,hd],?_,?_,?_,(IF K _).obj,by simp[kin,kinL],rfl,rfl⟩
 ·simp[nS,hd,ak,Pv.look]
 ·intro k cs ab;simp[nS,Pv.look]at ab
 ·intro k o ab;have hm:=x7 ab;simp[nS]at hm;obtain⟨rfl,rfl⟩:=hm;refine⟨by simp[nS,Pv.look,dj,eP,jY],.inr (by simp[ab]),fun ys bG=>?_⟩;simp at bG;subst bG;exact u7 _ _
def o7(l:List Int):List ae:=mz (l.map fun x=>(x,.bool true))
theorem my(S:aC->Prop)(l:List Int):kinL S (o7 l):=by
 have:∀l:List Int,kinL S (flat (l.map fun x=>(x,.bool true))):=by
  intro l;induction l with
  |nil=>simp[flat,kinL]
  |cons x r aX=>simp[flat,kinL,aX,kin]
 simp[o7,mz,kinL,this,kin]
def rI(v:Int)(l:List Int):List Int:=if v∈l then l else l++[v]
theorem O3(k:Int):∀l:List Int,rK k (.bool true) (l.map fun x=>(x,ae.bool true))=if k∈l then some (l.map fun x=>(x,ae.bool true))else none
 |[]=>rfl
 |i::r=>by
  by_cases h:k=i
  ·simp[rK,h]
  ·by_cases J:k∈r<;>simp[rK,h,J,O3 k r]
@[simp]theorem aoQ(k:Int)(l:List Int):r3 .i (.int .i64 k) (.bool true) (o7 l)=some (o7 (rI k l)):=by
 simp only[o7,agw,oA,O3,rI];split<;>rename_i h
 ·split at h
  ·simp at h;subst h;simp[*]
  ·cases h
 ·split at h
  ·cases h
  ·simp[*]
@[simp]theorem al7:o7 []=mz []:=rfl
@[simp]theorem ao8(l:List Int):gO (o7 l)=false:=rfl
@[simp]theorem apc(m:aC)(l:List Int):EC m (o7 l)=some (bu l.length [] m):=by simp[o7]
theorem agm(f:aC->aW (List ae))(hU mk:aC)(n:Nat)(seen:List Nat)(b:Nat)(l:List Int)(x:Int)(aw:f hU=some (bu n (seen++[b]) mk))(hm:f mk=some (o7 l))(aM:n=l.length)(af:l[b]? =some x):vc f (.ptr hU 0)=some (True,.tuple [.int .i64 x,.bool true]):=by rw[ago f hU mk n seen b _ aw hm (by simpa using aM)];simp[af]
theorem aaq{st:aU}{d:Nat}{K:aU->Prop}{hU mk:aC}{n:Nat}{seen:List Nat}{l:List Int}(aw:Pv.look hU st.b=some (bu n seen mk))(hm:Pv.look mk st.b=some (o7 l))(aM:n=l.length)
  (I:(∀b,b<l.length->b∈seen)->K {st with t:=Pv.put d (.tuple [.bool false]) st.t}) (J:∀b x,l[b]? =some x->b∉seen->K {st with t:=Pv.put d (.tuple [.bool true,.int .i64 x,.bool true]) st.t,b:=dj hU (bu n (seen++[b]) mk) st.b}):
  y6 st d (.ptr hU 0) K:=by
 refine aar aw hm (by simpa using aM) (fun h=>I fun b ah=>h b Ω) (fun b k v ah az=>?_);simp only[List.getElem?_map,iN]at ah;obtain⟨x,ao,aL⟩:=ah;simp only[gY]at aL;obtain⟨rfl,rfl⟩:=aL;exact J b x ao az
def _root_.Go.Pv.T.fold{α:Type}(f:Int->α->α):T->α->α
 | .var n,a=>f n a
 | .pair x y,a=>y.fold f (x.fold f a)
 |_,a=>a
theorem acP{α:Type}(S:α->dJ)(ho:∀a,hn (S a))(hc:∀a b,Same (S a) (S b))(g:Nat)(dP:List ae)(aH:∀a,kinL (ak (S a)) dP)(e7:bC dP=dP)(f:Int->α->α)(aK:∀v a,b3 aF g (.int .i64 v::dP) (S a) fun r al=>r= .tuple []/\al=S (f v a))(t:T):
  ∀a,b3 aF 79 [t.e,.func g dP] (S a) fun r al=>r= .tuple []/\al=S (t.fold f a):=by
 have aM:∀a m,Pv.look (.loc m) (S a).b=none:=fun a=>(ho a).obj.1;have hu:∀a m cs,dj (.loc m) cs (S a).b=(S a).b++[(.loc m,cs)]:=fun a m cs=>XP (aM a m);have aq:∀a m,aC.loc m∉ev (S a):=fun a=>agd (ho a).obj;induction t with
 |pair x y Lq Lr=>intro a;have az:=ho a;refine b3.mk mixed rn J3 MA Ψ az.obj fun aG b2=>?_;unfold Fu;simp[hu,aq,tO,aM,e7];(with_reducible repeat' first|refine av ?_|simp[hu,aq,tO,aM]);refine CallDo.ob (Lq a) az aA aA (by simp[aH]) ?_;rintro r al ⟨rfl,rfl⟩;refine⟨hc _ _,?_⟩;simp[yI,Fc,bc,aM];(with_reducible repeat' first|refine av ?_|simp[hu,aq,tO,aM]);rw[e7];refine CallDo.ob (Lr (x.fold f a)) (ho (x.fold f a)) aA aA (by simp[aH]) ?_;rintro r al ⟨rfl,rfl⟩;refine⟨hc _ _,?_⟩;simp[yI,Fc,bc,aM];refine cO.at (S (y.fold f (x.fold f a))) (.inr rfl) (ho _) (hc _ _) aA aA ?_;simp[c8,HI,ba,bg,aT];simp[T.fold]
 |var n=>intro a;have az:=ho a;refine b3.mk mixed rn J3 MA Ψ az.obj fun aG b2=>?_;unfold Fu;simp[hu,aq,tO,aM,e7];(with_reducible repeat' first|refine av ?_|simp[hu,aq,tO,aM]);refine CallDo.ob (aK n a) az aA aA (by simp[aH]) ?_;rintro r al ⟨rfl,rfl⟩;refine⟨hc _ _,?_⟩;simp[yI,Fc,bc,aM,tO];refine cO.at (S (f n a)) (.inr rfl) (ho _) (hc _ _) aA aA ?_;simp[c8,HI,ba,bg,aT];simp[T.fold]
 |_=>intro a;have az:=ho a;refine b3.mk mixed rn J3 MA Ψ az.obj fun aG b2=>?_;unfold Fu;simp[hu,aq,tO,aM,e7];(with_reducible repeat' first|refine av ?_|simp[hu,aq,tO,aM]);refine cO.at (S a) (.inr rfl) az (Same.refl _) aA aA ?_;simp[c8,HI,ba,bg,aT];simp[T.fold]
def gh(l:List Int):dJ:=⟨[(.obj 304,o7 l),(.obj 305,[.gmap (.obj 304)])],[]⟩
theorem sO(l:List Int):hn (gh l):=by unfold gh;exact hn.of ⟨by intro m;simp[Pv.look],by intro m;simp[Pv.look]⟩ (by simp[my,kinL,kin,ak,Pv.look]) Ψ
theorem xh(l c6:List Int):Same (gh l) (gh c6):=by refine⟨fun k=>?_,fun k=>rfl⟩;simp only[gh,Pv.look];split<;>rfl
def vE(l:List Int):dJ:=⟨[(.obj 304,o7 l)],[]⟩
theorem OO(l:List Int):hn (vE l):=by unfold vE;exact hn.of ⟨by intro m;simp[Pv.look],by intro m;simp[Pv.look]⟩ (by simp[my,kinL,kin,ak,Pv.look]) Ψ
theorem ajI{a b:List Int}(h:a.Perm b):ri a=ri b:=by
 have aE:∀a b c:Int,(decide (a<=b))=true->(decide (b<=c))=true->(decide (a<=c))=true:=by intro a b c;simp;omega
 have DS:∀a b:Int,(decide (a<=b)||decide (b<=a))=true:=by intro a b;simp;omega
 have I:=List.pairwise_mergeSort aE DS a;have J:=List.pairwise_mergeSort aE DS b;refine aqm (le:=fun x y:Int=>(decide (x<=y))=true) (fun x y _ _ I J=>by simp at I J;omega) I J ?_;exact(List.mergeSort_perm a _).trans (h.trans (List.mergeSort_perm b _).symm)
def afz(l:List Int)(k:Nat)(st:aU):Prop:=∃(seen:List Nat) (xs:List Int),seen.Nodup/\(∀b∈seen,b<l.length)/\k=l.length-seen.length/\xs=seen.filterMap (fun b=>l[b]?)/\xs.length=seen.length/\st=⟨[(3,.row 1 (.obj 306) xs.length),(7,.ptr (.loc 0) 0)],[(.obj 304,o7 l),(.loc 0,bu l.length seen (.obj 304))],[(.obj 306,⟨xs.length,3,1,some (eP xs)⟩)],1,[.obj 306,.obj 304]⟩
@[simp]theorem anW(xs:List Int):(eP xs).length=xs.length:=by simp[eP]
@[simp]theorem apX(xs:List Int):bC (eP xs)=eP xs:=by
 induction xs with
 |nil=>rfl
 |cons x r aX=>simp only[eP,fF,bC,bD]at aX⊢;rw[aX]
@[simp]theorem anX:eP []=[]:=rfl
theorem afw(xs:List Int)(x:Int):eP xs++[ae.int .i64 x]=eP (xs++[x]):=by simp[eP]
theorem ac3(l:List Int)(aD:l.length<=1000000):b3 aF 160 [.gmap (.obj 304)] (vE l) fun r al=>r= .slice 1 .no (eP (ri l))/\al=vE l:=by
 have az:=OO l;unfold vE at az⊢;refine b3.mk mixed rn abH ahk Ψ az.obj fun aG b2=>?_;unfold PA;simp;refine FU (afz l) l.length _ ⟨by simp[fresh,kinL,kin,bu,ak,Pv.look,my,u7],cG (by simp[fresh,kinL,kin,bu,ak,Pv.look,my,u7]),cI (by simp[fresh,kinL,kin,cw,ak,Pv.look,my,u7]),Ψ⟩ ⟨[],[],Ψ,Ψ,Ψ,Ψ,Ψ,rfl⟩ ?_;rintro k st ⟨seen,xs,aI,b5,ab,fh,lf,rfl⟩ A7 b2;clear A7 b2;have hle:=WY aI b5;simp;refine aaq (mk:= .obj 304) (seen:=seen) (l:=l) Ψ Ψ rfl (fun mm=>?_) (fun b x af ah=>?_)
 ·simp;have Ta:=ajv aI b5 mm;rw[<-fh]at Ta;refine CallDo.ob (ac2 306 xs Ω) (IF 306 xs) (by unfold nS;exact aA) (by unfold nS;exact aA) (by simp[nS,ak,Pv.look]) ?_;rintro r al ⟨rfl,rfl⟩;refine⟨⟨fun _=>rfl,fun k=>by simp only[nS,Pv.look];split<;>rfl⟩,?_⟩;unfold nS;simp[bc,NA];refine cO.at _ (.inl rfl) az (Same.refl _) aA aA ?_;simp[c8,VW,ba,bg,aT];rw[ajI Ta];simp[kin,u7]
 ·have aeJ:∀f:aC->aW (List ae),f (.loc 0)=some (bu l.length (seen++[b]) (.obj 304))->f (.obj 304)=some (o7 l)->vc f (.ptr (.loc 0) 0)=some (True,.tuple [.int .i64 x,.bool true]):=fun f I J=>agm f (.loc 0) (.obj 304) l.length seen b l x I J rfl af;have fc:b<l.length:=(fo.1 af).1;have jY:=ajw aI b5 fc ah;simp[aeJ,afw];refine⟨by unfold aR;omega,?_⟩;refine b1.next (l.length-(seen.length+1)) Ω ⟨seen++[b],xs++[x],agM aI ah,(by simp;intro c aH;rcases aH with aH|rfl;exact b5 c aH;exact fc),Ψ,by rw[List.filterMap_append,<-fh];simp[af],by simp[lf],rfl⟩ ⟨by simp[fresh,kinL,kin,bu,ak,Pv.look,my,u7],cG (by simp[fresh,kinL,kin,bu,ak,Pv.look,my,u7]),cI (by simp[fresh,kinL,kin,cw,ak,Pv.look,my,u7]),Ψ⟩
@[simp]theorem aod(S:aC->Prop)(xs:List Int):kinL S (eP xs)=True:=eq_true (u7 S xs)
@[simp]theorem amB:cells .junk=[.junk]:=rfl
def ic(vs:List Int)(l:List Int):List Int:=vs.foldl (fun l v=>rI v l) l
theorem Fl(a b l:List Int):ic (a++b) l=ic b (ic a l):=List.foldl_append
theorem IL(vs:List Int):∀(l:List Int) (v:Int),v∈ic vs l↔v∈l\/v∈vs:=by
 induction vs with
 |nil=>intro l v;simp[ic]
 |cons x vs aX=>
  intro l v;show v∈ic vs (rI x l)↔_;rw[aX,rI];split
  ·rename_i h;constructor
   ·rintro(cu|cu)
    ·exact .inl cu
    ·exact .inr (by simp[cu])
   ·rintro(cu|cu)
    ·exact .inl cu
    ·rcases gy.1 cu with rfl|cu
     ·exact .inl h
     ·exact .inr cu
  ·simp[or_assoc]
theorem OY(vs:List Int):∀l:List Int,l.Nodup->(ic vs l).Nodup:=by
 induction vs with
 |nil=>intro l h;exact h
 |cons x vs aX=>
  intro l h;refine aX _ ?_;show(rI x l).Nodup;unfold rI;split
  ·exact h
  ·rename_i af;rw[qC];exact⟨h,Ψ,fun a bL b ah=>by simp at ah;subst ah;rintro rfl;exact af bL⟩
theorem acA(t:T):∀l:List Int,t.fold rI l=ic t.tm.vs l:=by
 induction t with
 |pair a b tH tI=>
  intro l;have:(T.pair a b).tm.vs=a.tm.vs++b.tm.vs:=by simp[T.tm,Tm.vs,Tm.vsL]
  rw[this,Fl,<-tH,<-tI];rfl
 |var n=>intro l;simp[T.tm,Tm.vs,T.fold,ic]
 |_=>intro l;simp[T.tm,Tm.vs,Tm.vsL,T.fold,ic]
theorem Yg(x:T)(h:x.ok=true):∀v∈x.tm.vs,0<=v/\v<=100000:=by
 induction x with
 |pair a b tH tI=>
  intro v aN;simp only[T.ok,bJ]at h;have:(T.pair a b).tm.vs=a.tm.vs++b.tm.vs:=by simp[T.tm,Tm.vs,Tm.vsL]
  rw[this,hl]at aN;rcases aN with aN|aN
  ·exact tH h.1 v aN
  ·exact tI h.2 v aN
 |var n=>intro v aN;simp[T.tm,Tm.vs]at aN;subst aN;simpa[T.ok]using h
 |_=>intro v aN;simp[T.tm,Tm.vs,Tm.vsL]at aN
theorem Ad:∀l:List Tm,Tm.vsL l=l.flatMap Tm.vs
 |[]=>rfl
 |x::l=>by simp[Tm.vsL,Ad l]
theorem ze:∀l:List Gm,Gm.vsL l=l.flatMap Gm.vs
 |[]=>rfl
 |x::l=>by simp[Gm.vsL,ze l]
theorem Ki(g:Gm):g.vs=Tm.vsL g.ts++Gm.vsL g.gs:=by cases g;rfl
theorem sf{g:Gm}(h:g.shape=true):∀t∈g.ts,t.fits=true:=by rw[pK,bJ]at h;exact fun t aE=>ji.1 h.1 t aE
theorem shape_gs{g:Gm}(h:g.shape=true):∀x∈g.gs,x.shape=true:=by
 rw[pK,bJ]at h;obtain⟨_,h⟩:=h;intro x af;have no:g.gs.isEmpty=false:=by
  cases aS:g.gs with
  |nil=>rw[aS]at af;cases af
  |cons=>rfl
 rw[no]at h;repeat' split at h
 all_goals simp at h
 ·exact h.2 x af
 ·exact h.2 x af
theorem Gf:∀(n:Nat) (g:Gm),g.sz<=n->g.shape=true->∀v∈g.vs,0<=v/\v<=100000:=by
 intro n;induction n with
 |zero=>intro g aS;have:=g.sz_pos;omega
 |succ n aX=>
  intro g aS az v aN;rw[Ki,Ad,ze,hl,List.mem_flatMap,List.mem_flatMap]at aN;rcases aN with⟨t,aE,aN⟩|⟨x,af,aN⟩
  ·obtain⟨x,rfl,J⟩:=Tm.fits_ex (sf az t aE);exact Yg x (uR J) v aN
  ·exact aX x (by have:=g.gs_lt af;omega) (shape_gs az x af) v aN
theorem Ms{l:List Int}(aM:l.Nodup)(h:∀v∈l,0<=v/\v<=100000):l.length<=100001:=by
 have I:(l.map Int.toNat).Nodup:=by refine alB _ (fun a b pn=>?_) (aql (S:=fun a b=>a≠b/\(0<=a/\0<=b)) (fun bL ah pn=>⟨pn,(h _ bL).1,(h _ ah).1⟩) aM);intro e;apply pn.1;omega
 have J:=alA I (l₂:=List.range 100001) fun x af=>by obtain⟨v,aN,rfl⟩:=nj.1 af;have:=h v aN;simp;omega
 simpa using J
theorem acS(v:Int)(l:List Int):b3 aF 159 [.int .i64 v,.ptr (.obj 305) 0] (gh l) fun r al=>r= .tuple []/\al=gh (rI v l):=by have az:=sO l;have hL:=sO (rI v l);have hc:=xh l (rI v l);unfold gh at az hL hc⊢;refine b3.mk mixed mH abB ahe Ψ az.obj fun aG b2=>?_;unfold Pt;simp;refine cO.at _ (.inr rfl) hL hc aA aA ?_;simp[c8,VT,ba,bg,aT]
theorem acQ{t:Tm}(h:t.fits=true)(l:List Int):b3 aF 79 [enc t,.func 159 [.ptr (.obj 305) 0]] (gh l) fun r al=>r= .tuple []/\al=gh (ic t.vs l):=by obtain⟨x,rfl,_⟩:=Tm.fits_ex h;rw[sX,<-acA];exact acP gh sO xh 159 [.ptr (.obj 305) 0] (by intro a;simp[ak,gh,Pv.look,kinL,kin]) Ψ rI acS x l
theorem alh{ts:List Tm}{i:Nat}{t:Tm}(h:ts[i]? =some t)(l:List Int):ic (Tm.vsL (ts.take (i+1))) l=ic t.vs (ic (Tm.vsL (ts.take i)) l):=by rw[k3,h,Ad,Ad,<-Fl];simp
theorem adr{gs:List Gm}{i:Nat}{g:Gm}(h:gs[i]? =some g)(l:List Int):ic (Gm.vsL (gs.take (i+1))) l=ic g.vs (ic (Gm.vsL (gs.take i)) l):=by rw[k3,h,ze,ze,<-Fl];simp
theorem acR(g:Gm)(aK:∀t∈g.ts,t.fits=true)(l:List Int):b3 aF 158 [g.e,.ptr (.obj 305) 0] (gh l) fun r al=>r= .tuple []/\al=gh (ic (Tm.vsL g.ts) l):=by
 have az:=sO l;have hL:=sO (ic (Tm.vsL g.ts) l);have hc:=xh l (ic (Tm.vsL g.ts) l);unfold gh at az;refine b3.mk mixed mH abA ahd Ψ az.obj fun aG b2=>?_;unfold Ps;have e5:g.ts.length<=68719476736:=by rw[Gm.e_eq]at aG;simp[gr,gz,gu,aR]at aG;omega
 clear aG b2;unfold gh;simp;(with_reducible repeat' first|refine av ?_|simp);refine fA (fun i (_:Unit)=>⟨[(1,.ptr (.obj 305) 0),(6,.slice 4 .no (g.ts.map enc)),(7,.int .i64 g.ts.length),(8,.int .i64 i)],(gh (ic (Tm.vsL (g.ts.take i)) l)).b,[],0,[.obj 304,.obj 305]⟩) g.ts.length (fun _ _=>True) () (by simp[gh,ic,Tm.vsL];exact⟨by simp[fresh,kinL,kin,bu,ak,Pv.look,my],cG (by simp[fresh,kinL,kin,bu,ak,Pv.look,my]),cI (by simp[fresh,kinL,kin,cw,ak,Pv.look,my]),Ψ⟩) trivial (fun _ _ _=>?_) (fun i _ aw _ _=>?_)
 ·simp only[hE,gh]at hL hc⊢;simp;(with_reducible repeat' first|refine av ?_|simp);all_goals refine cO.at _ (.inr rfl) hL hc aA aA ?_
  all_goals simp[c8,VS,ba,bg,aT]
 ·obtain⟨b,ah,p4⟩:=fQ aw;have q3:=acQ (aK b (e1 ah)) (ic (Tm.vsL (g.ts.take i)) l);rw[<-alh ah]at q3;have bZ:aY ((i:Int)+1):=by unfold aY;omega
  clear hL hc;simp only[gh];simp[aw,p4];(with_reducible repeat' first|refine av ?_|simp[aw,p4]);refine CallDo.ob q3 (sO _) (by unfold gh;exact aA) (by unfold gh;exact aA) (by simp[ak,gh,Pv.look]) ?_;rintro r al ⟨rfl,rfl⟩;refine⟨xh _ _,?_⟩;unfold gh;simp[bc];(with_reducible repeat' first|refine av ?_|simp[bZ]);all_goals refine b1.rng () aw trivial (by simp[gh];exact⟨by simp[fresh,kinL,kin,bu,ak,Pv.look,my],cG (by simp[fresh,kinL,kin,bu,ak,Pv.look,my]),cI (by simp[fresh,kinL,kin,cw,ak,Pv.look,my]),Ψ⟩)
theorem ET{g:Gm}(h:g.shape=true):g.gs.length<=8/\g.ts.length<=4:=by
 rw[pK,bJ]at h;obtain⟨_,h⟩:=h;have aM:l2 g.kind<=2:=by unfold l2;(repeat' split)<;>omega
 split at h
 ·simp at h;obtain⟨⟨⟨_,I⟩,J⟩,_⟩:=h;rw[I];simp;omega
 ·split at h
  ·simp at h;rw[h.1.2];simp;omega
  ·split at h
   ·simp at h;rw[h.1.1.2];simp;omega
   ·split at h
    ·simp at h;rw[h.1.1.2];have:=h.1.2;split at this
     ·rename_i x af;rw[af];simp
     ·cases this
    ·cases h
theorem acO:∀(n:Nat) (g:Gm),g.sz<=n->g.shape=true->∀l:List Int,b3 aF 157 [g.e,.func 158 [.ptr (.obj 305) 0]] (gh l) fun r al=>r= .tuple []/\al=gh (ic g.vs l):=by
 intro n;induction n with
 |zero=>intro g aS;have:=g.sz_pos;omega
 |succ n aX=>
 intro g aS gE l;have az:=sO l;have hL:=sO (ic g.vs l);have hc:=xh l (ic g.vs l);have q3:=acR g (sf gE) l;have Bk:∀x∈g.gs,∀l:List Int,b3 aF 157 [x.e,.func 158 [.ptr (.obj 305) 0]] (gh l) fun r al=>r= .tuple []/\al=gh (ic x.vs l):=fun x af l=>aX x (by have:=g.gs_lt af;omega) (shape_gs gE x af) l;rw[Ki,Fl]at hL hc⊢;generalize fJ:ic (Tm.vsL g.ts) l=fK at q3 hL hc⊢;have aef:g.gs.length<=1000000:=by have:=(ET gE).1;omega
 unfold gh at az;refine b3.mk mixed mH Rf Vd Ψ az.obj fun aG b2=>?_;unfold I1;clear aG b2;unfold gh;simp;refine CallDo.ob (q3) (sO _) (by unfold gh;exact aA) (by unfold gh;exact aA) (by simp[ak,gh,Pv.look]) ?_;rintro r al ⟨rfl,rfl⟩;refine⟨xh _ _,?_⟩;unfold gh;simp[bc];(with_reducible repeat' first|refine av ?_|simp);refine fA (fun i (_:Unit)=>⟨[(1,.func 158 [.ptr (.obj 305) 0]),(10,.slice 4 .no (g.gs.map Gm.e)),(11,.int .i64 g.gs.length),(12,.int .i64 i)],(gh (ic (Gm.vsL (g.gs.take i)) fK)).b,[],0,[.obj 304,.obj 305]⟩) g.gs.length (fun _ _=>True) () (by simp[gh,ic,Gm.vsL];exact⟨by simp[fresh,kinL,kin,bu,ak,Pv.look,my],cG (by simp[fresh,kinL,kin,bu,ak,Pv.look,my]),cI (by simp[fresh,kinL,kin,cw,ak,Pv.look,my]),Ψ⟩) trivial (fun _ _ _=>?_) (fun i _ aw _ _=>?_)
 ·simp only[hE,gh]at hL hc⊢;simp;(with_reducible repeat' first|refine av ?_|simp);all_goals refine cO.at _ (.inr rfl) hL hc aA aA ?_
  all_goals simp[c8,MM,ba,bg,aT]
 ·obtain⟨b,ah,p4⟩:=fQ aw;have kb:=Bk b (e1 ah) (ic (Gm.vsL (g.gs.take i)) fK);rw[<-adr ah]at kb;have bZ:aY ((i:Int)+1):=by unfold aY;omega
  clear hL hc;simp only[gh];simp[aw,p4];(with_reducible repeat' first|refine av ?_|simp[aw,p4]);refine CallDo.ob (kb) (sO _) (by unfold gh;exact aA) (by unfold gh;exact aA) (by simp[ak,gh,Pv.look]) ?_;rintro r al ⟨rfl,rfl⟩;refine⟨xh _ _,?_⟩;unfold gh;simp[bc];(with_reducible repeat' first|refine av ?_|simp[bZ]);all_goals refine b1.rng () aw trivial (by simp[gh];exact⟨by simp[fresh,kinL,kin,bu,ak,Pv.look,my],cG (by simp[fresh,kinL,kin,bu,ak,Pv.look,my]),cI (by simp[fresh,kinL,kin,cw,ak,Pv.look,my]),Ψ⟩)
def xD(g:Gm):List Int:=ri (ic g.vs [])
theorem akE(g:Gm)(h:g.shape=true):bW aF 90 [g.e] (.slice 1 .no (eP (xD g))):=by
 have aD:(ic g.vs []).length<=1000000:=by have:=Ms (OY g.vs [] .nil) fun v aN=>Gf g.sz g (cc _) h v (by simpa[IL]using aN);omega
 have q3:=acO g.sz g (cc _) h [];have cg:=ac3 (ic g.vs []) aD;refine bI mH abz ahc fun aG=>?_;unfold Pr;clear aG;simp;(with_reducible repeat' first|refine av ?_|simp);refine CallDo.ob (q3) (sO _) (by unfold gh;exact aA) (by unfold gh;exact aA) (by simp[ak,gh,Pv.look]) ?_;rintro r al ⟨rfl,rfl⟩;refine⟨xh _ _,?_⟩;unfold gh;simp[bc];refine CallDo.ob cg (OO _) (by unfold vE;exact aA) (by unfold vE;exact aA) (by simp[ak,vE,Pv.look]) ?_;rintro r al ⟨rfl,rfl⟩;refine⟨Same.refl _,?_⟩;unfold vE;simp[bc];simp[cn,VR,ba,bg,aT];simp[xD]
theorem RR(g:Gm)(v:Int):v∈xD g↔v∈g.vs:=by unfold xD ri;rw[List.mem_mergeSort,IL];simp
theorem acG(g:Gm)(h:g.shape=true):(xD g).length<=100001:=by unfold xD;rw[NA];exact Ms (OY g.vs [] .nil) fun v aN=>Gf g.sz g (cc _) h v (by simpa[IL]using aN)
def su(g:Gm)(n:Int):Bool:=(xD g).all fun v=>decide (v<n)
theorem Ye(g:Gm)(n:Int):su g n=true↔Iu g n:=by unfold su Iu;rw[ji];exact⟨fun h v aN=>by simpa using h v ((RR g v).2 aN),fun h v aN=>by simpa using h v ((RR g v).1 aN)⟩
theorem afx{l:List Int}{i:Nat}(h:i<(eP l).length):(eP l)[i]= .int .i64 (l[i]'(by simpa using h)):=by simp[eP]
theorem Yb(g:Gm)(h:g.shape=true)(n:Int):bW aF 120 [g.e,.int .i64 n] (.bool (su g n)):=by
 have jJ:=akE g h;have hlen:=acG g h;unfold su;generalize xD g=l at jJ hlen⊢;generalize bt:(l.all fun v=>decide (v<n))=R;refine bI mH abN ahq fun aG=>?_;unfold PG;clear aG;simp;(with_reducible repeat' first|refine av ?_|refine aZ jJ ?_|refine a1 jJ ?_|simp);refine fA (fun i (_:Unit)=>⟨[(1,.int .i64 n),(8,.slice 1 .no (eP l)),(9,.int .i64 l.length),(10,.int .i64 i)],[],[],0,[]⟩) l.length (pB (fun v=>decide (v<n)) l) () (by simp;exact cW) (fun k b ab=>Ω) (fun _ ai _=>?_) (fun i _ aw ai _=>?_)
 ·have:R=true:=by rw[<-bt];exact ai.fin
  subst this;clear ai bt;exact bY
 ·obtain⟨v,aN⟩:∃v,l[i]? =some v:=⟨_,cL aw⟩;have anL:∀h,((eP l)[i]'h)= .int .i64 v:=fun h=>by rw[afx h];rw[cL aw]at aN;rw[gB aN]
  have bZ:aY ((i:Int)+1):=by unfold aY;omega
  by_cases Tq:v<n
  ·have aM:=ai.step aN (by simpa using Tq);have J:¬n<=v:=Ω
   clear ai bt;exact tZ
  ·have:R=false:=by rw[<-bt];exact yQ aN (by simpa using Tq)
   subst this;have J:n<=v:=Ω
   clear ai bt;exact bY
end
end Go.Proofs.YtlnndmgfngfeiaaGreatDoor
namespace Go.Pv
section
open Go Go.RowKit
mutual
theorem LQ{S:aC->Prop}:∀p:ae,kin S p->∃l:List aC,(∀k∈l,S k)/\kin (fun k=>k∈l) p
 | .junk,_=>⟨[],Ψ,by simp[kin]⟩
 | .int _ _,_=>⟨[],Ψ,by simp[kin]⟩
 | .bool _,_=>⟨[],Ψ,by simp[kin]⟩
 | .str _,_=>⟨[],Ψ,by simp[kin]⟩
 | .slice sz tag xs,h=>by
  simp only[kin]at h;obtain⟨l,I,J⟩:=Bq xs h.2;have hm:kinL (fun k=>k∈l) xs->∀k,kinL (fun j=>j∈k::l) xs:=fun bR k=>oP (fun _ h=>List.mem_cons_of_mem _ h) xs bR;cases tag with
  |no=>exact⟨l,I,by simp only[kin];exact⟨trivial,J⟩⟩
  |nil=>exact⟨l,I,by simp only[kin];exact⟨trivial,J⟩⟩
  |own k=>exact⟨k::l,by rintro j ai;rcases gy.1 ai with rfl|ai;exact h.1;exact I _ ai,by simp only[kin];exact⟨Ψ,hm J k⟩⟩
  |tr k j=>exact⟨k::l,by rintro j ai;rcases gy.1 ai with rfl|ai;exact h.1;exact I _ ai,by simp only[kin];exact⟨Ψ,hm J k⟩⟩
  |lo k=>exact⟨k::l,by rintro j ai;rcases gy.1 ai with rfl|ai;exact h.1;exact I _ ai,by simp only[kin];exact⟨Ψ,hm J k⟩⟩
 | .agg cs,h=>by simp only[kin]at h⊢;exact Bq cs h
 | .ptr k _,h=>⟨[k],by simpa[kin]using h,by simp[kin]⟩
 | .eptr x,h=>by simp only[kin]at h⊢;exact LQ x h
 | .iface _ x,h=>by simp only[kin]at h⊢;exact LQ x h
 | .nilp,_=>⟨[],Ψ,by simp[kin]⟩
 | .tuple vs,h=>by simp only[kin]at h⊢;exact Bq vs h
 | .func _ dP,h=>by simp only[kin]at h⊢;exact Bq dP h
 | .gmap k,h=>⟨[k],by simpa[kin]using h,by simp[kin]⟩
 | .row _ k _,h=>⟨[k],by simpa[kin]using h,by simp[kin]⟩
 | .rptr _ k _ _ _,h=>⟨[k],by simpa[kin]using h,by simp[kin]⟩
 | .hdm _ _,_=>⟨[],Ψ,by simp[kin]⟩
 | .hdi _ _ _,_=>⟨[],Ψ,by simp[kin]⟩
 | .cst _,_=>⟨[],Ψ,by simp[kin]⟩
theorem Bq{S:aC->Prop}:∀bj:List ae,kinL S bj->∃l:List aC,(∀k∈l,S k)/\kinL (fun k=>k∈l) bj
 |[],_=>⟨[],Ψ,by simp[kinL]⟩
 |p::bj,h=>by simp only[kinL]at h;obtain⟨fK,I,J⟩:=LQ p h.1;obtain⟨cR,au,aP⟩:=Bq bj h.2;exact⟨fK++cR,by intro k ab;rcases hl.1 ab with ab|ab;exact I k ab;exact au k ab,by simp only[kinL];exact⟨oQ (fun _ h=>ni _ h) p J,oP (fun _ h=>k2 _ h) bj aP⟩⟩
end
def yK(dv:List ca)(t:List (Nat×ae))(d:aW Nat)(K:aU->Prop)(e:Exit)(s:aU):Prop:=
 (e= .ret\/e= .normal)/\match ba s dv with
  |some (c,bj)=>c/\K ⟨fE d (aT bj) t,s.b,s.e,s.n,s.o⟩
  |none=>dr
theorem ai7{w:World}{ν:aQ}:∀{bj:List ae} {iW:List Value},cz w ν bj iW->aJ w ν (aT bj) (if h:iW.toArray.size=1 then iW.toArray[0]else .tuple iW.toArray)
 |[p],iW,h=>by simp only[cz]at h;obtain⟨u,bE,rfl,aL,rfl⟩:=h;simpa[aT]using aL
 |[],iW,h=>by simp only[cz]at h;subst h;simp[aT,aJ,cz]
 |p::gA::bj,iW,h=>by
  have aD:=wV h;match iW,h,aD with
  |v::v2::iW,h,_=>rw[dif_neg Ψ];simp only[aT,aJ];exact⟨_,rfl,by simpa using h⟩
  |[],_,h=>simp at h
  |[_],_,h=>simp at h
theorem k4.of{P:bS}(hm:P.follows .mixedOrders=true){bk:List (Nat×dh)}(aE:eW P bk=true){f:FuncId}{fn:Func}(aK:P.funcs[f]? =some fn){c:C}{dv:List ca}{n:Nat}(dM:cJ bk c dv n fn=true)
  {args:List ae} (aD:args.length<=n) {ob:List aC} {st:aU} {d:aW Nat} {K:aU->Prop} (t':List (Nat×ae)) (S:aC->Prop) (ho:∀k,S k->¬fresh st.n st.o k) (ab:∀x∈t',get x.1 st.t=x.2/\kin S x.2)
  (he:∀tT,(∀k∈tT,S k\/k∈st.o\/k∈ob)->(∀k∈tT,¬fresh st.n st.o k)->(∀k∈st.o,k∈tT)->cQ P tT c (yK dv t' d K) ⟨iy 0 args,st.b,st.e,st.n,tT⟩):k4 P ob f args st d K:=by
 intro C a w ν vs Gj hr iQ aI;subst Gj;unfold cJ at dM;split at dM;rotate_left
 ·cases dM
 rename_i code ah;simp only[bJ,sG,fs]at dM;obtain⟨⟨⟨aH,kf⟩,fV⟩,aM⟩:=dM;have nD:=wV iQ;have gF:vs.size=args.length:=by simpa using nD
 obtain⟨nm,S1,aeR⟩:∃nm:List aC,(∀k∈nm,S k)/\∀x∈t',kin (fun k=>k∈nm) x.2:=by
  have ga:∀l:List (Nat×ae),(∀x∈l,kin S x.2)->kinL S (l.map (·.2)):=by
   intro l aD;induction l with
   |nil=>simp[kinL]
   |cons x r aX=>simp only[fF,kinL];exact⟨aD x Ψ,aX fun y bG=>aD y (by simp[bG])⟩
  obtain⟨nm,I,J⟩:=Bq _ (ga t' fun x af=>(ab x af).2);refine⟨nm,I,fun x af=>?_⟩;have:∀l:List ae,kinL (fun k=>k∈nm) l->∀p∈l,kin (fun k=>k∈nm) p:=by
   intro l aD;induction l with
   |nil=>simp
   |cons y r aX=>simp only[kinL]at aD;intro p aV;rcases gy.1 aV with rfl|aV;exact aD.1;exact aX aD.2 p aV
  exact this _ J _ (nj.2 ⟨x,af,rfl⟩)
 let ob:List aC:=nm++(st.o++C.ob)
 have la:∀k∈ob,¬fresh st.n st.o k:=by
  intro k ab;rcases hl.1 ab with ab|ab
  ·exact ho k (S1 k ab)
  rcases hl.1 ab with ab|ab
  ·exact fun h=>h.2 ab
  ·exact hr.obk k ab
 have hex:∀x∈(t'.map fun x=>(x.2,a.tmps.getD x.1 undef))++C.ex,aJ w ν x.1 x.2/\kin (fun k=>k∈ob) x.1:=by
  intro x af;rcases hl.1 af with af|af
  ·obtain⟨y,bG,rfl⟩:=nj.1 af;exact⟨by have:=hr.slot y.1;rw[(ab y bG).1]at this;exact this,oQ (fun _ h=>ni _ h) _ (aeR y bG)⟩
  ·obtain⟨I,J⟩:=hr.ext x af;exact⟨I,oQ (fun _ h=>k2 _ (k2 _ h)) _ J⟩
 let X:eK:=⟨C.w0,C.ν0,C.mt,fn.ntmps,ob,C.gl,(t'.map fun x=>(x.2,a.tmps.getD x.1 undef))++C.ex⟩
 have Bg:∀m,.obj m∉st.o->fresh st.n st.o (.obj m):=fun m h=>⟨trivial,h⟩;have ka:ox X w ν:=⟨hr.fr.os,hr.fr.tape,hr.fr.output,hr.fr.size,hr.fr.block,hr.fr.keep,hr.fr.fresh,hr.fr.obj,fun m b h=>k2 _ (k2 _ (hr.fr.obn m b h)),hr.fr.row,fun m k u h=>k2 _ (k2 _ (hr.fr.obr m k u h)),hr.fr.trd,hr.fr.trb,hr.fr.trn,hr.fr.sh,hr.fr.nrow⟩;have n7:cm X ⟨iy 0 args,st.b,st.e,st.n,ob⟩ {tmps:=vs++rs (fn.ntmps-vs.size) undef,defers:=[]} w ν:=by
  refine⟨hr.good,ka,rfl,?_,fun i=>?_,fun k ab=>hr.new k (rR (cc _) (fun _ h=>k2 _ (ni _ h)) ab),hex,fun m hm aK=>aK.2 hm⟩
  ·show(vs++rs (fn.ntmps-vs.size) undef).size=fn.ntmps;simp;omega
  ·rw[AY];by_cases aw:i<args.length
   ·rw[if_pos Ω];have pq:args[i]? =some args[i]:=cL aw;obtain⟨v,ao,aL⟩:=B0 i iQ pq;have aN:(vs++rs (fn.ntmps-vs.size) undef).getD i undef=v:=by
     have nW:vs[i]? =some v:=by simpa using ao
     rw[pO,Array.getElem?_append_left Ω,nW];rfl
    show aJ w ν _ ((vs++rs (fn.ntmps-vs.size) undef).getD i undef);rw[aN];simpa[List.getD,pq]using aL
   ·rw[br Ω];simp[aJ]
 have D1:=oD hm aE (X:=X) c code (yK dv t' d K) ⟨iy 0 args,st.b,st.e,st.n,ob⟩ aH (he ob (fun k ab=>(hl.1 ab).imp (S1 k) fun h=>hl.1 h) la fun k ab=>k2 _ (ni _ ab)) _ w ν n7;refine .inl ⟨⟨fn,aK,by simp[ah],fV⟩,?_⟩;refine calls_of_wp aK ah (wp_mono D1 fun e ch w' bR=>?_);obtain⟨st',ν',⟨iR,bp⟩,cp⟩:=bR;cases h2:ba st' dv with
 |none=>simp[h2]at bp
 |some x=>
  obtain⟨hY,bj⟩:=x;simp only[h2]at bp;obtain⟨lR,da⟩:=bp;obtain⟨iW,g1,g2⟩:=EL aE cp dv fn.results.toList hY bj kf h2 lR;have mn:ch.defers=[]/\∃v,(results fn ch.tmps).run P w'= .ok v w'/\(fun(e:Ending) w'=> ∃v st' ν',e= .returned v/\K st'/\cm C st' (a.put d v) w' ν') (.returned v) w':=by
   refine⟨cp.defers,?_⟩;have hq:(results fn ch.tmps).run P w'= .ok (if h:iW.toArray.size=1 then iW.toArray[0]else .tuple iW.toArray) w':=by rw[Ni];simp only[fu,Array.mapM_eq_mapM_toList,Sem.run_map,g1,fw,gq]
   refine⟨_,hq,_,_,ν',rfl,da,?_⟩;have p7:=cp.fr;have bz:cm C ⟨t',st'.b,st'.e,st'.n,st'.o⟩ a w' ν':=by
    refine⟨cp.good,⟨p7.os,p7.tape,p7.output,p7.size,p7.block,p7.keep,p7.fresh,p7.obj,hr.fr.obn,p7.row,hr.fr.obr,p7.trd,p7.trb,p7.trn,p7.sh,p7.nrow⟩,hr.defers,hr.size,fun i=>?_,cp.new,fun x af=>⟨(cp.ext x (k2 _ af)).1,(hr.ext x af).2⟩,fun m hm=>cp.obk m (k2 _ (k2 _ hm))⟩;rcases Ka i t' with ai|ai
    ·simp only;rw[ai];simp[aJ]
    ·exact(cp.ext _ (ni _ (nj.2 ⟨_,ai,rfl⟩))).1
   exact bz.put aI (ai7 g2)
  rcases iR with rfl|rfl<;>exact mn
end
end Go.Pv
namespace Go.Pv
open Go Go.RowKit
theorem acB(w:World)(a:Addr)(n:Nat):(w.freeze a n).os=w.os/\(w.freeze a n).tape=w.tape/\(w.freeze a n).output=w.output/\(w.freeze a n).heap.size=w.heap.size/\∀j,j≠a.block->(w.freeze a n).heap[j]? =w.heap[j]?:=by
 unfold World.freeze;split
 ·exact⟨rfl,rfl,rfl,rfl,fun _ _=>rfl⟩
 ·exact⟨rfl,rfl,rfl,Ψ,fun j ai=>by simp only[Array.getElem?_modify];rw[br (Ne.symm ai)]⟩
theorem cm.dropRow{C:eK}{st:aU}{a:Act}{w w':World}{ν:aQ}(h:cm C st a w ν){g:aC}{o:dn}(aS:look g st.e=some o){xs:List ae}(af:o.xs=some xs){n:Nat}{v:Value}(aN:ν.ow g=some (n,v)){bl:Nat}(fc:v.ownBlock=some bl)
  (xX:w'.os=w.os) (DR:w'.tape=w.tape) (DG:w'.output=w.output) (lb:∀j,j≠bl->w'.heap[j]? =w.heap[j]?) (dz:w'.heap.size=w.heap.size):cm C {st with e:=bc [(g,o)] st.e} a w' ν:=by
 obtain⟨v0,us,b0,cS,dT,dY⟩:=h.good.own g o aS;rw[aN]at b0;simp only[ei,gY]at b0;obtain⟨MK,rfl⟩:=b0;obtain⟨_,_,GK⟩:=dY xs af;have bf:∀b o,ν.A b o->b≠bl:=fun b o bf e=>GK bl fc o (e▸bf);have aq:mK w ν w' ν:=⟨fun b o vX=>⟨vX,World.cell?_of_block (lb b (bf b o vX))⟩,fun _ _ _ h=>h,fun g n u _ aS=>⟨n,u,aS,.inl ⟨rfl,rfl⟩⟩,fun b o vX=>zY (lb b (bf b o vX)),fun _ _ _ _ h=>h⟩;have aD:∀k p,look k (bc [(g,o)] st.e)=some p->k≠g/\look k st.e=some p:=by
  intro k p ab;rw[r2]at ab;by_cases e:g=k
  ·subst e;simp[look]at ab
  ·simp[look,e]at ab;exact⟨Ne.symm e,ab⟩
 have GC:∀k,(look k (bc [(g,o)] st.e)).isSome->k≠g/\(look k st.e).isSome:=by intro k ab;obtain⟨p,aV⟩:=fv.1 ab;exact⟨(aD k p aV).1,by simp[(aD k p aV).2]⟩
 refine h.over aq rfl ⟨fun b o ah=>by rw[dz];exact h.good.alt b o ah,fun k cs ab=>?_,h.good.inj,fun k p ab=>?_,fun k bn n n' u eJ b I J=>h.good.oinj k bn n n' u eJ b (GC k I).2 (GC bn J).2,fun k j n u b I J=>h.good.obx k j n u b (GC k I).2 J,h.good.one,fun b ah=>h.good.otr b (ah.imp id fun⟨k,n,u,I,J⟩=>⟨k,n,u,(GC k I).2,J⟩)⟩
  ⟨xX.trans h.fr.os,DR.trans h.fr.tape,DG.trans h.fr.output,by rw[dz];exact h.fr.size,fun k ab hm=>?_,fun b o vX=>?_,h.fr.fresh,h.fr.obj,h.fr.obn,h.fr.row,h.fr.obr,h.fr.trd,fun k j b ah=>⟨(h.fr.trb k j b ah).1,by rw[dz];exact(h.fr.trb k j b ah).2⟩,h.fr.trn,fun b o vX=>(aq.sh b o (h.fr.keep b o vX).1).trans (h.fr.sh b o vX),h.fr.nrow⟩ h.new
 ·obtain⟨b,bE,el,g1,g2,g3,g4,g5⟩:=h.good.box k cs ab;refine⟨b,bE,el,g1,g2,g3,?_,qn aq g5⟩;rw[lb b fun e=>h.good.obx g k n v b (by simp[aS]) (by simp[ab]) aN (by rw[e];exact fc) g1];exact g4
 ·obtain⟨b7,gS⟩:=aD k p ab;obtain⟨u,bE,ao,aL,bB,b9⟩:=h.good.own k p gS;refine⟨u,bE,ao,⟨aL.1,?_⟩,bB,sc aq (fun _ _ _ h=>h) b9⟩;rcases aL.2 with aL|⟨iq,cap,cur,f1,f2,f3,f4⟩
  ·exact .inl aL
  ·refine .inr ⟨iq,cap,cur,f1,f2,?_,f4⟩;rw[lb iq fun e=>b7 (h.good.oinj k g _ _ _ _ bl (by simp[gS]) (by simp[aS]) ao aN (by rw[f1,<-e];rfl) fc)];exact f3
 ·have aV:=(dT bl fc).1;rw[lb k fun e=>by subst e;exact aV.elim hm (fun J=>Ω)];exact h.fr.block k ab hm
 ·obtain⟨cD,dI⟩:=h.fr.keep b o vX;exact⟨cD,(aq.A b o cD).2.trans dI⟩
theorem Wt{w:World}{ν:aQ}:∀{l:List aj} {us:List Value},cV w ν 1 (gL l) us->us=Lib.byteCells l
 |[],us,h=>by simpa[gL,cV,Lib.byteCells]using h
 |x::xs,us,h=>by simp only[gL,fF,cV]at h;obtain⟨u,bE,rfl,⟨I,_,_⟩,J⟩:=h;simp only[aJ]at I;subst I;have:=Wt (l:=xs) J;rw[this];simp[Lib.byteCells,nO]
end Go.Pv
namespace Go.Proofs
open Go.Shelf Go.RowKit
variable {P:bS} {ik:Ren}
set_option maxRecDepth 100000 in
theorem Any.Builder_String_ex(L:Lays.n169 P ik)(X:Builder.Extra P ik)(b:Nat)(l:List aj)(w:World)(bz:l≠[])(p:Value)(g cap:Nat)(cur:Array Value)(Km:w.heap[b]? =some (.cells #[p,.slice (some ⟨g,0,none⟩) l.length cap] (ik.t 72) (0,0)))
  (ld:w.ownsRow 0 (ik.t 5) 1 (.slice (some ⟨g,0,none⟩) l.length cap) l.length (Lib.byteCells l)) (aS:w.heap[g]? =some (.cells cur (ik.t 5) (0,0))) (tg:l.length<=cap) (A8:cap<=maxLen) (SB:cur.size=cap*1):
  Calls P (ik.f 169) #[.pointer (some ⟨b,0,none⟩)] w fun e w'=>e= .returned (.string ⟨l.toArray⟩)/\w'=w.drew.freeze ⟨g,0,none⟩ l.length:=by
 have oI:l.length≠0:=by simpa using bz
 have cF:w.drew.cell? ⟨b,1,none⟩=some (.slice (some ⟨g,0,none⟩) l.length cap):=by have:w.drew.heap[b]? =some (.cells #[p,.slice (some ⟨g,0,none⟩) l.length cap] (ik.t 72) (0,0)):=Km;rw[Lib.cell_of_heap this];rfl
 have anl:(Builtin.unsafeSliceData_ #[(ik.t 37)] (ik.t 127) #[.slice (some ⟨g,0,none⟩) l.length cap]).run P w.drew= .ok (.pointer (some ⟨g,0,none⟩)) w.drew:=Lib.run_unsafeSliceData_row _ _ _ _ _ _ Ω
 have ann:(Builtin.unsafeString_ #[(ik.t 127),(ik.t 3)] (ik.t 9) #[.pointer (some ⟨g,0,none⟩),.int .i64 l.length]).run P w.drew= .ok (.string ⟨l.toArray⟩) (w.drew.freeze ⟨g,0,none⟩ l.length):=by refine Lib.run_unsafeString_row w.drew (ik.t 127) (ik.t 3) (ik.t 9) (ik.t 5) L.t127 X.cellsByte g cur.size (by have Ba:w.drew.heap[g]? =some (.cells cur (ik.t 5) (0,0)):=aS;simp[World.shape?,Ba]) l bz Ω (by unfold maxLen at A8;omega) ?_;intro j x af;have:=ld.cells (g:=g) rfl j (.int .u8 x.toNat) (by simp[Lib.byteCells,af]);exact this
 have mixed:=L.mixed;have t72:=L.t72;have a72:=L.a72;have z72:=L.z72;have v72:=L.v72;have ap9:=run_underlying L.t72;have t70:=L.t70;have a70:=L.a70;have z70:=L.z70;have v70:=L.v70;have ap8:=run_underlying L.t70;have t37:=L.t37;have a37:=L.a37;have z37:=L.z37;have v37:=L.v37;have ap7:=run_underlying L.t37;have t127:=L.t127;have a127:=L.a127;have z127:=L.z127;have v127:=L.v127;have ap6:=run_underlying L.t127;have t3:=L.t3;have a3:=L.a3;have z3:=L.z3;have v3:=L.v3;have yC:=run_underlying L.t3;have t9:=L.t9;have a9:=L.a9;have z9:=L.z9;have v9:=L.v9;have XO:=run_underlying L.t9;have t5:=X.t5;have a5:=X.a5;have z5:=X.z5;have v5:=X.v5;have XN:=run_underlying X.t5;go_enter L.f169,Body.n169_ntmps ik;go_wp2;go_region_o;all_goals(go_wp2;go_ret;exact⟨rfl,rfl⟩)
end Go.Proofs
namespace Go.Proofs
section
open Go.Shelf
def Tryz.lays169_ren:Go.Shelf.Ren:=⟨fun|169=>66|n=>n,fun|70=>104|9=>9|0=>0|72=>106|37=>35|127=>181|3=>3|5=>5|n=>n,fun|n=>n⟩
theorem Tryz.lays169:Go.Proofs.Lays.n169 aF Tryz.lays169_ren:={
 mixed:=by kernel_rfl
 f169:=Tryz.func66.trans (er some (by kernel_rfl))
 t0:=Tryz.underlying0
 a0:=Tryz.isAgg0
 z0:=Tryz.sizeOf0
 v0:=Tryz.zeroValue0
 t3:=Tryz.underlying3
 a3:=Tryz.isAgg3
 z3:=Tryz.sizeOf3
 v3:=Tryz.zeroValue3
 t9:=Tryz.underlying9
 a9:=Tryz.isAgg9
 z9:=Tryz.sizeOf9
 v9:=Tryz.zeroValue9
 t37:=Tryz.underlying35
 a37:=Tryz.isAgg35
 z37:=Tryz.sizeOf35
 v37:=Tryz.zeroValue35
 t70:=Tryz.underlying104
 a70:=Tryz.isAgg104
 z70:=Tryz.sizeOf104
 v70:=Tryz.zeroValue104
 t72:=Tryz.underlying106
 a72:=Tryz.isAgg106
 z72:=Tryz.sizeOf106
 v72:=Tryz.zeroValue106
 t127:=Tryz.underlying181
 a127:=Tryz.isAgg181
 z127:=Tryz.sizeOf181
 v127:=Tryz.zeroValue181}
theorem Tryz.builderE:Builder.Extra aF Tryz.lays169_ren:={
 sizeBuilder:=by kernel_rfl
 liesBuilder:=by kernel_rfl
 t5:=Tryz.underlying5
 a5:=Tryz.isAgg5
 z5:=Tryz.sizeOf5
 v5:=Tryz.zeroValue5
 infoByte:=by kernel_rfl
 cellsByte:=by kernel_rfl
 sizeByte:=by kernel_rfl
 neB5:=by decide}
def Tryz.laysM171_ren:Go.Shelf.Ren:=⟨fun|171=>136|243=>192|246=>229|283=>261|284=>262|285=>263|286=>264|129=>241|317=>278|318=>279|319=>280|320=>281|337=>296|338=>297|n=>n,fun|3=>3|9=>9|2=>2|4=>4|171=>284|0=>0|53=>267|37=>35|5=>5|173=>286|212=>302|51=>265|20=>20|213=>303|46=>209|232=>326|233=>327|n=>n,fun|17=>0|18=>3|19=>4|n=>n⟩
theorem Tryz.laysM171:Go.Proofs.LaysM.n171 aF Tryz.laysM171_ren:={
 mixed:=by kernel_rfl
 f129:=Tryz.func241.trans (er some (by kernel_rfl))
 f171:=Tryz.func136.trans (er some (by kernel_rfl))
 f243:=Tryz.func192.trans (er some (by kernel_rfl))
 f246:=Tryz.func229.trans (er some (by kernel_rfl))
 f283:=Tryz.func261.trans (er some (by kernel_rfl))
 f284:=Tryz.func262.trans (er some (by kernel_rfl))
 f285:=Tryz.func263.trans (er some (by kernel_rfl))
 f286:=Tryz.func264.trans (er some (by kernel_rfl))
 f317:=Tryz.func278.trans (er some (by kernel_rfl))
 f318:=Tryz.func279.trans (er some (by kernel_rfl))
 f319:=Tryz.func280.trans (er some (by kernel_rfl))
 f320:=Tryz.func281.trans (er some (by kernel_rfl))
 f337:=Tryz.func296.trans (er some (by kernel_rfl))
 f338:=Tryz.func297.trans (er some (by kernel_rfl))
 t0:=Tryz.underlying0
 a0:=Tryz.isAgg0
 z0:=Tryz.sizeOf0
 v0:=Tryz.zeroValue0
 t2:=Tryz.underlying2
 a2:=Tryz.isAgg2
 z2:=Tryz.sizeOf2
 v2:=Tryz.zeroValue2
 t3:=Tryz.underlying3
 a3:=Tryz.isAgg3
 z3:=Tryz.sizeOf3
 v3:=Tryz.zeroValue3
 t4:=Tryz.underlying4
 a4:=Tryz.isAgg4
 z4:=Tryz.sizeOf4
 v4:=Tryz.zeroValue4
 t5:=Tryz.underlying5
 a5:=Tryz.isAgg5
 z5:=Tryz.sizeOf5
 v5:=Tryz.zeroValue5
 t9:=Tryz.underlying9
 a9:=Tryz.isAgg9
 z9:=Tryz.sizeOf9
 v9:=Tryz.zeroValue9
 t20:=Tryz.underlying20
 a20:=Tryz.isAgg20
 z20:=Tryz.sizeOf20
 v20:=Tryz.zeroValue20
 t37:=Tryz.underlying35
 a37:=Tryz.isAgg35
 z37:=Tryz.sizeOf35
 v37:=Tryz.zeroValue35
 t46:=Tryz.underlying209
 a46:=Tryz.isAgg209
 z46:=Tryz.sizeOf209
 v46:=Tryz.zeroValue209
 t51:=Tryz.underlying265
 a51:=Tryz.isAgg265
 z51:=Tryz.sizeOf265
 v51:=Tryz.zeroValue265
 t53:=Tryz.underlying267
 a53:=Tryz.isAgg267
 z53:=Tryz.sizeOf267
 v53:=Tryz.zeroValue267
 t171:=Tryz.underlying284
 a171:=Tryz.isAgg284
 z171:=Tryz.sizeOf284
 v171:=Tryz.zeroValue284
 t173:=Tryz.underlying286
 a173:=Tryz.isAgg286
 z173:=Tryz.sizeOf286
 v173:=Tryz.zeroValue286
 t212:=Tryz.underlying302
 a212:=Tryz.isAgg302
 z212:=Tryz.sizeOf302
 v212:=Tryz.zeroValue302
 t213:=Tryz.underlying303
 a213:=Tryz.isAgg303
 z213:=Tryz.sizeOf303
 t232:=Tryz.underlying326
 a232:=Tryz.isAgg326
 z232:=Tryz.sizeOf326
 v232:=Tryz.zeroValue326
 t233:=Tryz.underlying327
 a233:=Tryz.isAgg327
 z233:=Tryz.sizeOf327
 v233:=Tryz.zeroValue327
 g17:=by kernel_rfl
 g18:=by kernel_rfl
 g19:=by kernel_rfl
 i0:=by kernel_rfl
 i2:=by kernel_rfl
 i3:=by kernel_rfl
 i4:=by kernel_rfl
 i5:=by kernel_rfl
 i9:=by kernel_rfl
 i20:=by kernel_rfl
 i37:=by kernel_rfl
 i46:=by kernel_rfl
 i51:=by kernel_rfl
 i53:=by kernel_rfl
 i171:=by kernel_rfl
 i173:=by kernel_rfl
 i212:=by kernel_rfl
 i232:=by kernel_rfl
 i233:=by kernel_rfl
 m17:=by kernel_rfl
 m18:=by kernel_rfl
 m19:=by kernel_rfl}
def Tryz.laysC172_ren:Go.Shelf.Ren:=⟨fun|172=>223|244=>257|245=>258|247=>273|279=>274|280=>275|281=>276|282=>277|287=>293|316=>294|171=>136|205=>295|321=>304|322=>305|243=>192|246=>229|283=>261|284=>262|285=>263|286=>264|129=>241|317=>278|318=>279|319=>280|320=>281|337=>296|338=>297|n=>n,fun|9=>9|3=>3|75=>108|76=>109|4=>4|5=>5|167=>295|37=>35|0=>0|85=>296|2=>2|168=>298|53=>267|175=>314|46=>209|210=>317|127=>181|145=>325|143=>323|21=>21|171=>284|173=>286|212=>302|51=>265|20=>20|213=>303|232=>326|233=>327|80=>112|n=>n,fun|15=>1|16=>2|17=>0|18=>3|19=>4|n=>n⟩
theorem Tryz.laysC172:Go.Proofs.LaysC.n172 aF Tryz.laysC172_ren:={
 mixed:=by kernel_rfl
 f129:=Tryz.func241.trans (er some (by kernel_rfl))
 f171:=Tryz.func136.trans (er some (by kernel_rfl))
 f172:=Tryz.func223.trans (er some (by kernel_rfl))
 f205:=Tryz.func295.trans (er some (by kernel_rfl))
 f243:=Tryz.func192.trans (er some (by kernel_rfl))
 f244:=Tryz.func257.trans (er some (by kernel_rfl))
 f245:=Tryz.func258.trans (er some (by kernel_rfl))
 f246:=Tryz.func229.trans (er some (by kernel_rfl))
 f247:=Tryz.func273.trans (er some (by kernel_rfl))
 f279:=Tryz.func274.trans (er some (by kernel_rfl))
 f280:=Tryz.func275.trans (er some (by kernel_rfl))
 f281:=Tryz.func276.trans (er some (by kernel_rfl))
 f282:=Tryz.func277.trans (er some (by kernel_rfl))
 f283:=Tryz.func261.trans (er some (by kernel_rfl))
 f284:=Tryz.func262.trans (er some (by kernel_rfl))
 f285:=Tryz.func263.trans (er some (by kernel_rfl))
 f286:=Tryz.func264.trans (er some (by kernel_rfl))
 f287:=Tryz.func293.trans (er some (by kernel_rfl))
 f316:=Tryz.func294.trans (er some (by kernel_rfl))
 f317:=Tryz.func278.trans (er some (by kernel_rfl))
 f318:=Tryz.func279.trans (er some (by kernel_rfl))
 f319:=Tryz.func280.trans (er some (by kernel_rfl))
 f320:=Tryz.func281.trans (er some (by kernel_rfl))
 f321:=Tryz.func304.trans (er some (by kernel_rfl))
 f322:=Tryz.func305.trans (er some (by kernel_rfl))
 f337:=Tryz.func296.trans (er some (by kernel_rfl))
 f338:=Tryz.func297.trans (er some (by kernel_rfl))
 t0:=Tryz.underlying0
 a0:=Tryz.isAgg0
 z0:=Tryz.sizeOf0
 v0:=Tryz.zeroValue0
 t2:=Tryz.underlying2
 a2:=Tryz.isAgg2
 z2:=Tryz.sizeOf2
 v2:=Tryz.zeroValue2
 t3:=Tryz.underlying3
 a3:=Tryz.isAgg3
 z3:=Tryz.sizeOf3
 v3:=Tryz.zeroValue3
 t4:=Tryz.underlying4
 a4:=Tryz.isAgg4
 z4:=Tryz.sizeOf4
 v4:=Tryz.zeroValue4
 t5:=Tryz.underlying5
 a5:=Tryz.isAgg5
 z5:=Tryz.sizeOf5
 v5:=Tryz.zeroValue5
 t9:=Tryz.underlying9
 a9:=Tryz.isAgg9
 z9:=Tryz.sizeOf9
 v9:=Tryz.zeroValue9
 t20:=Tryz.underlying20
 a20:=Tryz.isAgg20
 z20:=Tryz.sizeOf20
 v20:=Tryz.zeroValue20
 t21:=Tryz.underlying21
 a21:=Tryz.isAgg21
 z21:=Tryz.sizeOf21
 v21:=Tryz.zeroValue21
 t37:=Tryz.underlying35
 a37:=Tryz.isAgg35
 z37:=Tryz.sizeOf35
 v37:=Tryz.zeroValue35
 t46:=Tryz.underlying209
 a46:=Tryz.isAgg209
 z46:=Tryz.sizeOf209
 v46:=Tryz.zeroValue209
 t51:=Tryz.underlying265
 a51:=Tryz.isAgg265
 z51:=Tryz.sizeOf265
 v51:=Tryz.zeroValue265
 t53:=Tryz.underlying267
 a53:=Tryz.isAgg267
 z53:=Tryz.sizeOf267
 v53:=Tryz.zeroValue267
 t75:=Tryz.underlying108
 a75:=Tryz.isAgg108
 z75:=Tryz.sizeOf108
 v75:=Tryz.zeroValue108
 t76:=Tryz.underlying109
 a76:=Tryz.isAgg109
 z76:=Tryz.sizeOf109
 v76:=Tryz.zeroValue109
 t85:=Tryz.underlying296
 a85:=Tryz.isAgg296
 z85:=Tryz.sizeOf296
 v85:=Tryz.zeroValue296
 t127:=Tryz.underlying181
 a127:=Tryz.isAgg181
 z127:=Tryz.sizeOf181
 v127:=Tryz.zeroValue181
 t143:=Tryz.underlying323
 a143:=Tryz.isAgg323
 z143:=Tryz.sizeOf323
 v143:=Tryz.zeroValue323
 t145:=Tryz.underlying325
 a145:=Tryz.isAgg325
 z145:=Tryz.sizeOf325
 v145:=Tryz.zeroValue325
 t167:=Tryz.underlying295
 a167:=Tryz.isAgg295
 z167:=Tryz.sizeOf295
 v167:=Tryz.zeroValue295
 t168:=Tryz.underlying298
 a168:=Tryz.isAgg298
 z168:=Tryz.sizeOf298
 v168:=Tryz.zeroValue298
 t171:=Tryz.underlying284
 a171:=Tryz.isAgg284
 z171:=Tryz.sizeOf284
 v171:=Tryz.zeroValue284
 t173:=Tryz.underlying286
 a173:=Tryz.isAgg286
 z173:=Tryz.sizeOf286
 v173:=Tryz.zeroValue286
 t175:=Tryz.underlying314
 a175:=Tryz.isAgg314
 z175:=Tryz.sizeOf314
 v175:=Tryz.zeroValue314
 t210:=Tryz.underlying317
 a210:=Tryz.isAgg317
 z210:=Tryz.sizeOf317
 v210:=Tryz.zeroValue317
 t212:=Tryz.underlying302
 a212:=Tryz.isAgg302
 z212:=Tryz.sizeOf302
 v212:=Tryz.zeroValue302
 t213:=Tryz.underlying303
 a213:=Tryz.isAgg303
 z213:=Tryz.sizeOf303
 t232:=Tryz.underlying326
 a232:=Tryz.isAgg326
 z232:=Tryz.sizeOf326
 v232:=Tryz.zeroValue326
 t233:=Tryz.underlying327
 a233:=Tryz.isAgg327
 z233:=Tryz.sizeOf327
 v233:=Tryz.zeroValue327
 g15:=by kernel_rfl
 g16:=by kernel_rfl
 g17:=by kernel_rfl
 g18:=by kernel_rfl
 g19:=by kernel_rfl
 t80:=Tryz.underlying112
 a80:=Tryz.isAgg112
 z80:=Tryz.sizeOf112
 v80:=Tryz.zeroValue112
 i0:=by kernel_rfl
 i2:=by kernel_rfl
 i3:=by kernel_rfl
 i4:=by kernel_rfl
 i5:=by kernel_rfl
 i9:=by kernel_rfl
 i20:=by kernel_rfl
 i21:=by kernel_rfl
 i37:=by kernel_rfl
 i46:=by kernel_rfl
 i51:=by kernel_rfl
 i53:=by kernel_rfl
 i75:=by kernel_rfl
 i76:=by kernel_rfl
 i80:=by kernel_rfl
 i85:=by kernel_rfl
 i127:=by kernel_rfl
 i143:=by kernel_rfl
 i145:=by kernel_rfl
 i167:=by kernel_rfl
 i168:=by kernel_rfl
 i171:=by kernel_rfl
 i173:=by kernel_rfl
 i175:=by kernel_rfl
 i210:=by kernel_rfl
 i212:=by kernel_rfl
 i232:=by kernel_rfl
 i233:=by kernel_rfl
 m15:=by kernel_rfl
 m16:=by kernel_rfl
 m17:=by kernel_rfl
 m18:=by kernel_rfl
 m19:=by kernel_rfl
 c0:=by kernel_rfl
 c2:=by kernel_rfl
 c3:=by kernel_rfl
 c4:=by kernel_rfl
 c5:=by kernel_rfl
 c9:=by kernel_rfl
 c20:=by kernel_rfl
 c21:=by kernel_rfl
 c37:=by kernel_rfl
 c46:=by kernel_rfl
 c51:=by kernel_rfl
 c53:=by kernel_rfl
 c75:=by kernel_rfl
 c76:=by kernel_rfl
 c80:=by kernel_rfl
 c85:=by kernel_rfl
 c127:=by kernel_rfl
 c143:=by kernel_rfl
 c145:=by kernel_rfl
 c167:=by kernel_rfl
 c168:=by kernel_rfl
 c171:=by kernel_rfl
 c173:=by kernel_rfl
 c175:=by kernel_rfl
 c210:=by kernel_rfl
 c212:=by kernel_rfl
 c213:=by kernel_rfl
 c232:=by kernel_rfl
 c233:=by kernel_rfl}
end
end Go.Proofs
namespace Go.Proofs.YtlnndmgfngfeiaaGreatDoor
section
open Go Go.Pv
def Jn:C:=(ag [bU 4 0,bh 5 (.mov (.c (.junk)))] (ag [aa 6 0,cl 7 135 6] (ag [aa 8 0,aa 9 0,hD 10 9,a6 11 1 1 10,a8 12 1 11,aa 13 1,c7 (.apps 14 5 (.t 12) (.t 13)),hD 15 8,a6 16 1 1 15,bF 1 16 14] (ag [aa 17 1,bh 18 (.slen (.t 17)),aa 4 18,bh 5 (.mov (.c (.junk)))] .ret))))
@[simp] def MW:List ca:=[.tmp 4,.tmp 5]
def Pj:C:=(ag [bh 2 (.mov (.c (.str [])))] (ag [aa 3 0,cl 4 136 3,aa 2 4] .ret))
@[simp] def aik:List ca:=[.tmp 2]
def I0:C:=(ag [ng 2 1,bK 3 false] (.seq (ag [aa 9 0,bh 10 (.slen (.t 9)),a7 11 .gtr 10 100000] (bb 11 (ag [ng 2 1,bK 3 false] .ret) .skip)) (.seq (ag [bU 4 0] (.block 0 (.loop (.seq (ag [aa 12 4,aa 13 0,bh 14 (.slen (.t 13)),cj 15 .lss 12 14] (bb 15 .skip (.exit 0))) (.seq (.block 1 (ag [aa 18 0,aa 19 4,bh 20 (.sidx (.t 18) (.t 19)),bh 21 (.bin .neq false (.t 20) (.c (.int .u8 10))),aa 22 21,b4 22 true 23 0,b4 22 true 24 4,aO 22 true (bh 25 (.sidx (.t 23) (.t 24))),aO 22 true (bh 26 (.bin .lss false (.t 25) (.c (.int .u8 32)))),b4 22 true 27 26,b4 27 false 28 0,b4 27 false 29 4,aO 27 false (bh 30 (.sidx (.t 28) (.t 29))),aO 27 false (bh 31 (.bin .gtr false (.t 30) (.c (.int .u8 126)))),aO 22 true (dA 32 27 31),fx 33 22 32] (bb 33 (ag [ng 2 1,bK 3 false] .ret) .skip))) (.region [aa 16 4,a7 17 .add 16 1,aa 4 17])))))) (ag [gU 34 1 9 [],aa 5 34] (.seq (ag [bU 6 0] (.block 2 (.loop (.seq (ag [aa 35 6,aa 36 0,bh 37 (.slen (.t 36)),cj 38 .lss 35 37] (bb 38 .skip (.exit 2))) (.block 3 (ag [aa 39 0,aa 40 6,bh 41 (.sidx (.t 39) (.t 40)),aa 7 41] (.block 4 (ag [aa 88 7,bh 89 (.bin .eql false (.t 88) (.c (.int .u8 32))),aa 90 89,b4 90 false 91 7,aO 90 false (bh 92 (.bin .eql false (.t 91) (.c (.int .u8 10)))),dA 93 90 92,aa 87 93] (bb 87 (.region [aa 94 6,a7 95 .add 94 1,aa 6 95]) (ag [aa 97 7,bh 98 (.bin .eql false (.t 97) (.c (.int .u8 59))),aa 96 98] (bb 96 (.block 7 (.loop (.seq (ag [aa 99 6,aa 100 0,bh 101 (.slen (.t 100)),cj 102 .lss 99 101,aa 103 102,b4 103 true 104 0,b4 103 true 105 6,aO 103 true (bh 106 (.sidx (.t 104) (.t 105))),aO 103 true (bh 107 (.bin .neq false (.t 106) (.c (.int .u8 10)))),fx 108 103 107] (bb 108 .skip (.exit 7))) (.block 8 (.region [aa 109 6,a7 110 .add 109 1,aa 6 110]))))) (ag [aa 112 7,bh 113 (.bin .eql false (.t 112) (.c (.int .u8 40))),aa 114 113,b4 114 false 115 7,aO 114 false (bh 116 (.bin .eql false (.t 115) (.c (.int .u8 41)))),dA 117 114 116,aa 111 117] (bb 111 (ag [aa 118 5,aa 119 0,aa 120 6,aa 121 6,a7 122 .add 121 1,bh 123 (.ssl (.t 119) (some (.t 120)) (some (.t 122))),gU 124 1 9 [.t 123],kZ 125 1 9 118 124,aa 5 125] (.region [aa 126 6,a7 127 .add 126 1,aa 6 127])) (ag [aa 42 6,aa 8 42] (.seq (.block 5 (.loop (.seq (ag (aa 43 8::aa 44 0::bh 45 (.slen (.t 44))::cj 46 .lss 43 45::aa 47 46::b4 47 true 48 0::b4 47 true 49 8::aO 47 true (bh 50 (.sidx (.t 48) (.t 49)))::aO 47 true (bh 51 (.bin .neq false (.t 50) (.c (.int .u8 32))))::fx 52 47 51::aa 53 52::b4 53 true 54 0::b4 53 true 55 8::aO 53 true (bh 56 (.sidx (.t 54) (.t 55)))::aO 53 true (bh 57 (.bin .neq false (.t 56) (.c (.int .u8 10))))::fx 58 53 57::aa 59 58::b4 59 true 60 0::b4 59 true 61 8::aO 59 true (bh 62 (.sidx (.t 60) (.t 61)))::aO 59 true (bh 63 (.bin .neq false (.t 62) (.c (.int .u8 40))))::fx 64 59 63::aa 65 64::b4 65 true 66 0::b4 65 true 67 8::aO 65 true (bh 68 (.sidx (.t 66) (.t 67)))::aO 65 true (bh 69 (.bin .neq false (.t 68) (.c (.int .u8 41))))::fx 70 65 69::aa 71 70::b4 71 true 72 0::b4 71 true 73 8::aO 71 true (bh 74 (.sidx (.t 72) (.t 73)))::aO 71 true (bh 75 (.bin .neq false (.t 74) (.c (.int .u8 59))))::fx 76 71 75::[]) (bb 76 .skip (.exit 5))) (.block 6 (.region [aa 77 8,a7 78 .add 77 1,aa 8 78]))))) (ag [aa 79 5,aa 80 0,aa 81 6,aa 82 8,bh 83 (.ssl (.t 80) (some (.t 81)) (some (.t 82))),gU 84 1 9 [.t 83],kZ 85 1 9 79 84,aa 5 85] (.region [aa 86 8,aa 6 86]))))))))))))))))) (.seq (ag [aa 128 5,cT 129 128,a7 130 .gtr 129 20000] (bb 130 (ag [ng 2 1,bK 3 false] .ret) .skip)) (ag [aa 131 5,aa 2 131,bK 3 true] .ret)))))))
@[simp] def BR:List ca:=[.tmp 2,.tmp 3]
def Pl:C:=(ag [fm 1 0,bh 2 (.mov (.c (.str [])))] (.seq (ag [bO 4 4 1,cl 5 77 4,dK 6 5] (bb 6 (ag [bh 2 (.mov (.c (.str [])))] .ret) .skip)) (ag [bh 7 (.build [.nilp,.slice 1 .nil []] []),c7 (.box 8 (some 861) (.t 7)),aa 3 8] (ag [aa 9 3,bO 10 4 1,eb 11 153 9 10] (ag [aa 12 3,⟨none,.opn (some 13) (.c (.func 66 [])) [.t 12]⟩,aa 2 13] .ret)))))
@[simp] def VN:List ca:=[.tmp 2]
def PF:C:=(ag [hv 2 dd] (ag [aa 3 0,lJ 4 dd [(0,1,(de 1)),(1,1,(.t 3))],bF 4 2 4] .ret))
@[simp] def aiy:List ca:=[.cell 2 true 4]
def Pn:C:=(ag [bh 4 (.mov (.c (.str [])))] (ag [c7 (.bslm 8 none 1 5 []),aa 5 8] (.seq (ag [aa 9 0,cT 10 9,bU 11 0] (k0 12 11 10 (.seq (.block 1 (ag [aa 13 11,cP 14 1 9 11,a8 15 1 14,aa 6 13,aa 7 15] (.seq (ag [aa 16 6,a7 17 .gtr 16 0] (bb 17 (.region [aa 18 5,aa 19 1,c7 (.apps 20 5 (.t 18) (.t 19)),aa 5 20]) .skip)) (.region [aa 21 5,aa 22 7,c7 (.apps 23 5 (.t 21) (.t 22)),aa 5 23])))) (.region [a7 24 .add 11 1,aa 11 24])))) (.seq (.pub 5 (.region [aa 25 5,bh 26 (.b2s (.t 25)),aa 4 26])) .ret))))
@[simp] def VO:List ca:=[.tmp 4]
def sQ:C:=(ag [fm 3 1] (ag [a6 4 0 1 3,a8 5 1 4] (.block 0 (ag [a7 7 .eql 5 0,aa 6 7] (bb 6 (.region [aa 8 0,⟨none,.call (some 9) (.c (.func 62 [])) [.t 8,(.c (.str [40,41]))]⟩]) (ag [a7 11 .eql 5 1,aa 10 11] (bb 10 (.region [aa 12 0,a6 13 1 1 3,a8 14 1 13,cl 15 63 14,bh 16 (.bin .add false (.c (.str [63])) (.t 15)),eb 17 62 12 16]) (ag [a7 19 .eql 5 2,aa 18 19] (bb 18 (.region [aa 20 0,a6 21 2 1 3,a8 22 1 21,eb 23 62 20 22]) (ag [a7 25 .eql 5 3,aa 24 25] (bb 24 (.region [aa 26 0,a6 27 1 1 3,a8 28 1 27,cl 29 63 28,eb 30 62 26 29]) (ag [a7 32 .eql 5 4,aa 31 32] (bb 31 (ag [aa 33 0,⟨none,.call (some 34) (.c (.func 62 [])) [.t 33,(.c (.str [40]))]⟩] (ag [aa 35 0,a6 36 3 1 3,a8 37 1 36,ma 38 4 37 0,bO 39 4 38,eb 40 153 35 39] (ag [a6 41 3 1 3,a8 42 1 41,ma 43 4 42 1,bO 44 4 43,bF 4 3 44] (.seq (.block 1 (.loop (.seq (ag [a6 45 0 1 3,a8 46 1 45,a7 47 .eql 46 4] (bb 47 .skip (.exit 1))) (.block 2 (ag [aa 48 0,⟨none,.call (some 49) (.c (.func 62 [])) [.t 48,(.c (.str [32]))]⟩] (ag [aa 50 0,a6 51 3 1 3,a8 52 1 51,ma 53 4 52 0,bO 54 4 53,eb 55 153 50 54] (.region [a6 56 3 1 3,a8 57 1 56,ma 58 4 57 1,bO 59 4 58,bF 4 3 59]))))))) (.seq (ag [a6 60 0 1 3,a8 61 1 60,a7 62 .neq 61 0] (bb 62 (ag [aa 63 0,⟨none,.call (some 64) (.c (.func 62 [])) [.t 63,(.c (.str [32,46,32]))]⟩] (.region [aa 65 0,bO 66 4 3,eb 67 153 65 66])) .skip)) (.region [aa 68 0,⟨none,.call (some 69) (.c (.func 62 [])) [.t 68,(.c (.str [41]))]⟩])))))) .skip)))))))))))))
@[simp] def om:List ca:=[]
def CK:C:=(ag [bU 2 0,bK 3 false] (ag [aa 7 0,cl 8 223 7,aa 6 8,dZ 9 0 6,dZ 10 1 6,aa 4 9,aa 5 10] (.seq (ag [aa 11 5,bh 12 (.isn true (.t 11)),aa 13 12,b4 13 false 14 4,aO 13 false (cl 15 136 14),b4 13 false 16 0,aO 13 false (cj 17 .neq 15 16),dA 18 13 17] (bb 18 (ag [bU 2 0,bK 3 false] .ret) .skip)) (ag [aa 19 4,aa 2 19,bK 3 true] .ret))))
@[simp] def VP:List ca:=[.tmp 2,.tmp 3]
def Pu:C:=(ag [hv 2 dd] (ag [lJ 5 dd [],hv 3 dd,bF 4 3 5] (.seq (ag [aa 6 0,cT 7 6,a7 8 .sub 7 1,aa 4 8] (.block 0 (.loop (.seq (ag [aa 9 4,a7 10 .geq 9 0] (bb 10 .skip (.exit 0))) (.seq (.block 1 (.drawn true 20 [aa 13 0,aa 14 4,cP 15 4 13 14,bO 16 4 15,bO 17 4 3,eb 18 206 16 17,bF 4 3 18])) (.region [aa 11 4,a7 12 .sub 11 1,aa 4 12])))))) (ag [bO 19 4 3,bF 4 2 19] .ret))))
@[simp] def VU:List ca:=[.cell 2 true 4]
def PB:C:=(ag [hv 2 dd] (ag [aa 3 0,lJ 4 dd [(0,1,(de 2)),(2,1,(.t 3))],bF 4 2 4] .ret))
@[simp] def air:List ca:=[.cell 2 true 4]
def Py:C:=(ag [hv 2 dd] (ag [aa 3 0,lJ 4 dd [(0,1,(de 3)),(1,1,(.t 3))],bF 4 2 4] .ret))
@[simp] def aip:List ca:=[.cell 2 true 4]
def sr:List (Nat×dh):=[
 (3,⟨1,8,.int .i64,.int .i64 0⟩),
 (5,⟨1,1,.int .u8,.int .u8 0⟩),
 (9,⟨1,16,.str,.str []⟩),
 (35,⟨1,24,.slice 5,.slice 1 .nil []⟩),
 (38,⟨1,24,.slice 40,.slice 4 .nil []⟩),
 (40,⟨4,56,.struct [(0,3),(1,3),(2,9),(3,38)],.agg [.int .i64 0,.int .i64 0,.str [],.slice 4 .nil []]⟩),
 (70,⟨1,24,.slice 9,.slice 1 .nil []⟩),
 (104,⟨1,8,.other,.nilp⟩),
 (106,⟨2,32,.struct [(0,104),(1,35)],.agg [.nilp,.slice 1 .nil []]⟩),
 (108,⟨1,16,.iface,.junk⟩)]
theorem kF:eW aF sr=true:=by kernel_rfl
theorem Vw:cJ sr Jn MW 2 Tryz.f62=true:=by kernel_rfl
theorem Rz:aF.funcs[(62:Nat)]? =some Tryz.f62:=Tryz.func62
theorem ag4:cJ sr Pj aik 1 Tryz.f63=true:=by kernel_rfl
theorem abq:aF.funcs[(63:Nat)]? =some Tryz.f63:=Tryz.func63
theorem Vc:cJ sr I0 BR 1 Tryz.f82=true:=by kernel_rfl
theorem Re:aF.funcs[(82:Nat)]? =some Tryz.f82:=Tryz.func82
theorem ag6:cJ sr Pl VN 1 Tryz.f85=true:=by kernel_rfl
theorem abt:aF.funcs[(85:Nat)]? =some Tryz.f85:=Tryz.func85
theorem ahp:cJ sr PF aiy 1 Tryz.f86=true:=by kernel_rfl
theorem abM:aF.funcs[(86:Nat)]? =some Tryz.f86:=Tryz.func86
theorem ag8:cJ sr Pn VO 2 Tryz.f87=true:=by kernel_rfl
theorem abv:aF.funcs[(87:Nat)]? =some Tryz.f87:=Tryz.func87
theorem vf:cJ sr sQ om 2 Tryz.f153=true:=by kernel_rfl
theorem uP:aF.funcs[(153:Nat)]? =some Tryz.f153:=Tryz.func153
theorem Hw:cJ sr CK VP 1 Tryz.f179=true:=by kernel_rfl
theorem F0:aF.funcs[(179:Nat)]? =some Tryz.f179:=Tryz.func179
theorem ahf:cJ sr Pu VU 1 Tryz.f205=true:=by kernel_rfl
theorem abC:aF.funcs[(205:Nat)]? =some Tryz.f205:=Tryz.func205
theorem ahl:cJ sr PB air 1 Tryz.f207=true:=by kernel_rfl
theorem abI:aF.funcs[(207:Nat)]? =some Tryz.f207:=Tryz.func207
theorem ahi:cJ sr Py aip 1 Tryz.f208=true:=by kernel_rfl
theorem abF:aF.funcs[(208:Nat)]? =some Tryz.f208:=Tryz.func208
def bq:ae:= .ptr (.obj 861) 0
def bN:dJ:=⟨[(.obj 861,[.nilp,.slice 1 .nil []])],[]⟩
def uw:dJ:=⟨[(.obj 861,[bq,.slice 1 .nil []])],[]⟩
def be(l:List aj):dJ:=⟨[(.obj 861,[bq,.row 1 (.obj 862) l.length])],[(.obj 862,⟨l.length,5,1,some (gL l)⟩)]⟩
theorem lF(S:aC->Prop)(l:List aj):kinL S (gL l):=by
 induction l with
 |nil=>simp[gL,kinL]
 |cons x r aX=>simp only[gL,fF,kinL,kin]at aX⊢;exact⟨trivial,aX⟩
theorem Fh:hn bN:=by unfold bN;exact hn.of ⟨by intro m;simp[Pv.look],by intro m;simp[Pv.look]⟩ (by simp[kinL,kin]) Ψ
theorem Ys:hn uw:=by unfold uw;exact hn.of ⟨by intro m;simp[Pv.look],by intro m;simp[Pv.look]⟩ (by simp[kinL,kin,bq,ak,Pv.look]) Ψ
theorem kI(l:List aj):hn (be l):=by unfold be;refine hn.of ⟨by intro m;simp[Pv.look],by intro m;simp[Pv.look]⟩ (by simp[kinL,kin,bq,ak,Pv.look]) ?_;intro x af xs az;simp at af;subst af;simp at az;subst az;exact lF _ l
theorem Yt(l c6:List aj):Same (be l) (be c6):=⟨fun k=>by simp only[be,Pv.look];split<;>rfl,fun k=>by simp only[be,Pv.look];split<;>rfl⟩
theorem w3:(aF.info? 106).map (·.size)=some 2:=by kernel_rfl
theorem af8:liesAt aF aF.depth 106 (2/aF.cellsOf 106) 0 106 1=true:=by kernel_rfl
set_option maxRecDepth 100000 in
theorem Z0(b:Nat)(w:World)(bz:w.cell? ⟨b,0,none⟩=some (.pointer (some ⟨b,0,none⟩))):
  Calls aF 135 #[.pointer (some ⟨b,0,none⟩)] w fun e w'=>e= .returned (.tuple #[])/\w'=w:=by
 obtain⟨j,ai,_⟩:=iN.1 w3;go_enter Tryz.func135,Tryz.ntmps135;go_wp2;rw[Lib.run_neq_ptr_same w _ Tryz.underlying104 ai];go_wp2;go_end0;exact⟨rfl,rfl⟩
set_option maxRecDepth 100000 in
theorem ZZ(b:Nat)(w:World)(bz:w.cell? ⟨b,0,none⟩=some (.pointer none))(gE:w.shape? b=some (106,2))(aed:w.frozen? ⟨b,0,none⟩=false):
  Calls aF 135 #[.pointer (some ⟨b,0,none⟩)] w fun e w'=>e= .returned (.tuple #[])/\w'=w.setCell ⟨b,0,none⟩ (.pointer (some ⟨b,0,none⟩)):=by
 obtain⟨j,ai,aer⟩:=iN.1 w3;go_enter Tryz.func135,Tryz.ntmps135;go_wp2;rw[Lib.run_to_unsafe w ⟨b,0,none⟩ Tryz.underlying104 Tryz.underlying227 ai (by rw[aer];decide) gE (Nat.zero_lt_succ 1)];simp only[Result.andThen];rw[Oper.upon_value];go_wp2;rw[run_callFunc_extern Tryz.func191 (by kernel_rfl) (by kernel_rfl) (by kernel_rfl) (e:=aqg) (by kernel_rfl)];rw[Lib.run_noEscape];simp only[Result.andThen];rw[Oper.upon_value];go_wp2;rw[Lib.run_from_unsafe w ⟨b,0,none⟩ Tryz.underlying227 Tryz.underlying104 ai gE af8];simp only[Result.andThen];rw[Oper.upon_value];go_wp2;go_end0;exact⟨rfl,rfl⟩
theorem Yf{vs:Array Value}(h:vs.size=1):vs= #[vs.getD 0 undef]:=by apply Array.ext (by simpa using h);intro i I J;simp at J;subst J;simp[Array.getD,h]
theorem acL:b3 aF 135 [bq] bN fun r al=>r= .tuple []/\al=uw:=by
 refine b3.sem Fh.obj fun w ν vs gl gF hr=>?_;refine .inl ⟨⟨Tryz.f135,Tryz.func135,by kernel_rfl,by kernel_rfl⟩,?_⟩;obtain⟨bl,us,el,ao,aL,bB,b9,ee⟩:=hr.good.box (.obj 861) _ (show Pv.look (.obj 861) bN.b=some [.nilp,.slice 1 .nil []]from rfl);have A9:=el.2 rfl;rw[mB (by rfl)]at b9;rw[l4 (by rfl)]at ee;simp only[ck,aJ]at ee;obtain⟨iK,Ch,I,⟨rfl,_⟩,h9,pN,rfl,⟨⟨_,aM,_⟩,_⟩,rfl⟩:=ee;obtain rfl:=aM trivial;have kR:us= #[.pointer none,.slice none 0 0]:=by rw[<-Array.toList_inj];simpa using I
 subst kR;have mV:=hr.slot 0;simp only[iy,Pv.get,if_true,bq,aJ]at mV;obtain⟨b,ah,aN⟩:=mV;rw[ao]at ah;cases ah;have wB:=Yf (by simpa using gF);rw[aN]at wB;clear aN;subst wB;have gE:w.shape? bl=some (106,2):=by have:(106:Nat)=E3:=rfl;rw[this];simp[World.shape?,b9,A9]
 refine(ZZ bl w (by simp[World.cell?,b9]) gE (by simp[World.frozen?,b9])).mono ?_;rintro e w' ⟨rfl,rfl⟩;have qc:=(hr.setBox (w':=w.setCell ⟨bl,0,none⟩ (.pointer (some ⟨bl,0,none⟩))) (cs':=[bq,.slice 1 .nil []]) (show Pv.look (.obj 861) bN.b=some [.nilp,.slice 1 .nil []]from rfl) ao (us:= #[.pointer (some ⟨bl,0,none⟩),.slice none 0 0]) (el:=el) rfl rfl rfl (fun j ai=>RowKit.Below.heap_setCell _ _ _ _ (fun e=>ai (by simp[e]))) (by simp[World.setCell])
  (by rw[mB (by rfl)];simp[World.setCell,Array.getElem?_modify,b9]) (by rw[l4 (by rfl)];simp only[ck];exact⟨_,_,rfl,⟨by simp only[bq,aJ];exact⟨bl,ao,rfl⟩,rfl⟩,_,_,rfl,⟨by simp[aJ,maxLen,aR];exact⟨none,0,⟨rfl,rfl⟩,Ω⟩,rfl⟩,rfl⟩)).1
 refine⟨_,_,_,_,.tuple [],uw,rfl,qc,by simp[aJ,cz],by simp[bN,uw,hd,ak,Pv.look],by simp[bN,hd],?_,?_,Ys.obj,by simp[kin,kinL],rfl,rfl⟩
 ·refine cG ?_;simp[bN,uw,dj,Pv.look,ak,kinL,kin,bq]
 ·refine cI ?_;simp[uw]
theorem acM(l:List aj):b3 aF 135 [bq] (be l) fun r al=>r= .tuple []/\al=be l:=by
 refine b3.sem (kI l).obj fun w ν vs gl gF hr=>?_;refine .inl ⟨⟨Tryz.f135,Tryz.func135,by kernel_rfl,by kernel_rfl⟩,?_⟩;obtain⟨bl,us,el,ao,aL,bB,b9,ee⟩:=hr.good.box (.obj 861) _ (show Pv.look (.obj 861) (be l).b=some [bq,.row 1 (.obj 862) l.length]from rfl);rw[mB (by rfl)]at b9;rw[l4 (by rfl)]at ee;simp only[ck,aJ,bq]at ee;obtain⟨iK,Ch,I,⟨⟨cq,ks,rfl⟩,_⟩,h9,pN,rfl,_,rfl⟩:=ee;rw[ao]at ks;cases ks;have mV:=hr.slot 0;simp only[iy,Pv.get,if_true,bq,aJ]at mV;obtain⟨b,ah,aN⟩:=mV;rw[ao]at ah;cases ah;have wB:=Yf (by simpa using gF);rw[aN]at wB;clear aN;subst wB;have bz:us[0]? =some (.pointer (some ⟨bl,0,none⟩)):=by rw[<-Array.getElem?_toList,I];rfl
 refine(Z0 bl w (by simp[World.cell?,b9,bz])).mono ?_;rintro e w' ⟨rfl,rfl⟩;refine⟨_,_,_,_,.tuple [],be l,rfl,hr,by simp[aJ,cz],by simp[be,hd,ak,Pv.look],by simp[be,hd,ak,Pv.look],?_,?_,(kI l).obj,by simp[kin,kinL],rfl,rfl⟩
 ·refine cG ?_;simp[be,Pv.look,ak,kinL,kin,bq]
 ·intro k o ab;exact⟨ab,.inr (by simp[ab]),(kI l).ke k o ab⟩
theorem agS(l:List aj)(aD:l≠[]){ob:List aC}{st:aU}{d:aW Nat}{K:aU->Prop}(ah:Pv.look (.obj 861) st.b=some [bq,.row 1 (.obj 862) l.length])(he:Pv.look (.obj 862) st.e=some ⟨l.length,5,1,some (gL l)⟩)
  (da:K ⟨fE d (.str l) st.t,st.b,bc [(aC.obj 862,(⟨l.length,5,1,some (gL l)⟩:dn))] st.e,st.n,st.o⟩):k4 aF ob 66 [bq] st d K:=by
 intro C a w ν vs Kj hr iQ aI;refine .inl ⟨⟨Tryz.f66,Tryz.func66,by kernel_rfl,by kernel_rfl⟩,?_⟩;obtain⟨bl,us,el,ao,aL,bB,b9,ee⟩:=hr.good.box (.obj 861) _ ah;have A9:=el.2 rfl;rw[mB (by rfl)]at b9;rw[l4 (by rfl)]at ee;simp only[ck,aJ,bq]at ee;obtain⟨iK,Ch,I,⟨⟨cq,ks,rfl⟩,_⟩,h9,pN,rfl,⟨⟨⟨g,cap,rfl⟩,e5,n',u,jZ,kU,oi⟩,_⟩,rfl⟩:=ee;rw[ao]at ks;cases ks;obtain⟨v,cs,b0,cS,dT,dY⟩:=hr.good.own (.obj 862) _ he;rw[b0]at jZ;simp only[ei,gY]at jZ;obtain⟨rfl,rfl⟩:=jZ;obtain rfl:=oi rfl;obtain⟨di,mC,tY⟩:=dY _ rfl;obtain rfl:=Wt mC;simp only at cS;rcases cS.2 with⟨h,_⟩|⟨et,AD,cur,az,_,aS,jd,kt,p5,anr⟩
 ·cases h
 cases az;have kR:us= #[.pointer (some ⟨bl,0,none⟩),.slice (some ⟨g,0,none⟩) l.length cap]:=by rw[<-Array.toList_inj];simpa using I
 subst kR;simp only[bq,cz,aJ]at iQ;obtain⟨Cj,ws,bL,⟨cE,jc,rfl⟩,rfl⟩:=iQ;rw[ao]at jc;cases jc;have wB:vs= #[.pointer (some ⟨bl,0,none⟩)]:=by rw[<-Array.toList_inj];simpa using bL
 rw[wB];have lX:(Tryz.lays169_ren.t 72:Nat)=E3:=by kernel_rfl
 have Tn:(Tryz.lays169_ren.t 5:Nat)=5:=by kernel_rfl
 have zt:l.length≠0:=by simpa using aD
 refine(Go.Proofs.Any.Builder_String_ex Tryz.lays169 Tryz.builderE bl l w aD _ g cap cur (by rw[lX,<-A9];exact b9) (by rw[Tn];exact cS) (by rw[Tn];exact aS) jd kt p5).mono ?_;rintro e w' ⟨rfl,rfl⟩;obtain⟨Ff,z2,z3,z4,z5⟩:=acB w.drew ⟨g,0,none⟩ l.length;have ku:=hr.dropRow (w':=w.drew.freeze ⟨g,0,none⟩ l.length) he rfl b0 rfl Ff z2 z3 z5 z4;exact⟨_,_,ν,rfl,da,ku.put aI (by simp only[aJ];exact⟨trivial,e5⟩)⟩
theorem bW.sem{f:FuncId}{fn:Func}(aK:aF.funcs[f]? =some fn)(ah:fn.body.isSome=true)(aM:(fn.name== "runtime.NumGoroutine")=false){args:List ae}{r:ae}(hr:kin (fun _=>dr) r)
  (h:∀(w:World) (ν:aQ) (vs:Array Value),oZ w ν->(∀b o,ν.A b o->b<w.heap.size)->cz w ν args vs.toList->Calls aF f vs w fun e w'=> ∃v,e= .returned v/\(∀ν',(∀b o,ν.A b o->ν'.A b o)->aJ w' ν' r v)/\w.grownBy w' none):bW aF f args r:=by
 refine b3.sem r6 fun w ν vs gl gF n7=>?_;have iQ:cz w ν args vs.toList:=by
  have cK:args.length=vs.toList.length:=by simpa using gF.symm
  have:∀(l:List ae) (us:List Value),l.length=us.length->(∀i p,l[i]? =some p->aJ w ν p (us.getD i undef))->cz w ν l us:=by
   intro l;induction l with
   |nil=>intro us h _;cases us<;>simp at h⊢;simp[cz]
   |cons p l aX=>
    intro us h aw;cases us with
    |nil=>simp at h
    |cons u us=>simp only[cz];exact⟨u,us,rfl,by simpa using aw 0 p rfl,aX us (by simpa using h) fun i q bp=>by simpa using aw (i+1) q (by simpa using bp)⟩
  refine this _ _ cK fun i p aV=>?_;have az:=n7.slot i;have aw:=(fo.1 aV).1;rw[AY,if_pos Ω]at az;have:args.getD i .junk=p:=by simp[List.getD,aV]
  simp only[Nat.sub_zero,this]at az;simpa[pO]using az
 refine .inl ⟨⟨fn,aK,ah,aM⟩,(h w ν vs gl n7.good.alt iQ).mono ?_⟩;rintro e w' ⟨v,rfl,aN,aS⟩;exact⟨v,_,_,ν,r,⟨[],[]⟩,rfl,n7.grown aS,aN ν fun _ _ h=>h,trivial,trivial,fun k cs ab=>by simp[Pv.look]at ab,fun k cs ab=>by simp[Pv.look]at ab,r6,oQ (fun _ h=>h.elim) _ hr,rfl,rfl⟩
theorem TK{n:Int}(h:aY n):(Lib.itoa n).length<=aR:=by unfold aY at h;have:=Lib.itoa_length_le n Ω Ω;unfold aR;omega
theorem adp(w:World)(k:Nat)(os:Array Obj):w.grownBy (Sort.grow (w.drewN k) os) none:=⟨rfl,rfl,rfl,Ψ,fun j ai _=>Sort.heap_grow_old _ _ ai⟩
theorem Kf{w w':World}(h:RowKit.Below w.heap.size w w'):w.grownBy w' none:=⟨h.os,h.tape,h.output,h.size,fun k ab _=>h.block k ab⟩
theorem Sb(i:Nat)(aw:i<20):(0,i,20,fun v=>v=oV .u64 ((10 ^ i:Nat):Int))∈xF:=by unfold xF;exact ni _ (nj.2 ⟨i,List.mem_range.2 aw,rfl⟩)
theorem aj6{w:World}{ν:aQ}(h:oZ w ν):Lib.TabIs aF w "internal/strconv.uint64pow10" .u64 Lib.pow10Tab:=by
 have aS:aF.globalNamed "internal/strconv.uint64pow10" =some 0:=by kernel_rfl
 obtain⟨_,_,el,gE⟩:=h _ (Sb 0 Ω);unfold Lib.TabIs;simp only[World.var?,aS,Option.bind_some];unfold Pv.shape at gE;simp only at gE;split at gE
 ·rename_i cur fj fz hw;rw[hw];simp only[ei,gY]at gE;simp only[ei];apply Array.ext
  ·simp[gE.1,Lib.pow10Tab]
  ·intro i I J;obtain⟨_,⟨v,aN,aV⟩,_⟩:=h _ (Sb i Ω);simp only at aN aV;subst aV;have aH:cur[i]? =some (oV .u64 ((10 ^ i:Nat):Int)):=by simpa[World.cell?,hw]using aN
   rw[pP I]at aH;rw[gB aH];simp[Lib.pow10Tab]
 ·cases gE
theorem XV(n:Int)(h:aY n):bW aF 136 [.int .i64 n] (.str (Lib.itoa n)):=by
 refine bW.sem Tryz.func136 (by kernel_rfl) (by kernel_rfl) (by simp[kin]) fun w ν vs gl bf iQ=>?_;simp only[cz,aJ]at iQ;obtain⟨v,us,bL,rfl,rfl⟩:=iQ;have gF:vs= #[.int .i64 n]:=by rw[<-Array.toList_inj];simpa using bL
 subst gF;unfold aY at h;refine(Any.strconv_Itoa Tryz.laysM171 n Ω Ω w (aj6 gl)).mono ?_;rintro e w' ⟨rfl,k,os,rfl⟩;exact⟨_,rfl,fun ν' _=>by simp only[aJ];exact⟨trivial,TK (by unfold aY;omega)⟩,adp w k os⟩
def yS(s:List aj):ae:=match Lib.atoiAll s with
 | .ok v=>.tuple [.int .i64 v,.cst .nilIface]
 | .range=>.tuple [.int .i64 (Lib.atoiSat s),.iface (Tryz.laysC172_ren.t 168) .junk]
 |_=>.tuple [.int .i64 0,.iface (Tryz.laysC172_ren.t 168) .junk]
theorem aks(s:List aj)(aD:s.length<=aR):bW aF 223 [.str s] (yS s):=by
 have ab:kin (fun _=>dr) (yS s):=by unfold yS;split<;>simp[kin,kinL]
 refine bW.sem Tryz.func223 (by kernel_rfl) (by kernel_rfl) ab fun w ν vs gl bf iQ=>?_;simp only[cz,aJ]at iQ;obtain⟨v,us,bL,⟨rfl,_⟩,rfl⟩:=iQ;have gF:vs= #[.string ⟨s.toArray⟩]:=by rw[<-Array.toList_inj];simpa using bL
 subst gF;have cK:(⟨s.toArray⟩:k1).size=s.length:=by simp[OA]
 unfold aR at aD;obtain⟨_,⟨ao,Kw,ap4,ao6,rfl⟩,_⟩:=gl (1,0,1,fun v=> ∃t p,v= .iface t p) (by unfold xF;simp);obtain⟨_,⟨aL,Kx,ap5,ao7,rfl⟩,_⟩:=gl (2,0,1,fun v=> ∃t p,v= .iface t p) (by unfold xF;simp);rcases h:Lib.atoiAll s with v|_|_
 ·refine(Any.strconv_Atoi_ok Tryz.laysC172 ⟨s.toArray⟩ Ω v (by simpa using h) w).mono ?_;rintro e w' ⟨rfl,hw⟩;refine⟨_,rfl,fun ν' _=>?_,?_⟩
  ·unfold yS;rw[h];simp only[aJ,cz];exact⟨_,rfl,_,_,rfl,rfl,_,_,rfl,rfl,rfl⟩
  ·rcases hw with rfl|⟨t,rfl⟩
   ·exact⟨rfl,rfl,rfl,cc _,fun _ _ _=>rfl⟩
   ·exact Kf (Lib.bytesWorld_below _ _ _)
 ·refine(Any.strconv_Atoi_syntax Tryz.laysC172 ⟨s.toArray⟩ Ω (by simpa using h) _ w Kw (.inr ⟨_,_,rfl⟩)).mono ?_;rintro e w' ⟨N,rfl,_,_,ah⟩;exact⟨_,rfl,fun ν' _=>by unfold yS;rw[h];simp only[aJ,cz];exact⟨_,rfl,_,_,rfl,rfl,_,_,rfl,⟨_,rfl,trivial⟩,rfl⟩,Kf ah⟩
 ·refine(Any.strconv_Atoi_range Tryz.laysC172 ⟨s.toArray⟩ Ω (by simpa using h) _ w Kx (.inr ⟨_,_,rfl⟩)).mono ?_;rintro e w' ⟨N,rfl,_,_,ah⟩;exact⟨_,rfl,fun ν' _=>by unfold yS;rw[h];simp only[aJ,cz];exact⟨_,rfl,_,_,rfl,rfl,_,_,rfl,⟨_,rfl,trivial⟩,rfl⟩,Kf ah⟩
theorem Yr:Same bN uw:=⟨fun k=>by simp only[bN,uw,Pv.look];split<;>rfl,fun k=>rfl⟩
theorem CallDo.two{P:bS}{n:Nat}{args:List ae}{st:aU}{d:aW Nat}{K:aU->Prop}{s:dJ}{Q:ae->dJ->Prop}(aK:b3 P n args s Q)(az:hn s)(ah:∀k cs,Pv.look k s.b=some cs->Pv.look k st.b=some cs)(he:∀k o,Pv.look k s.e=some o->Pv.look k st.e=some o)
  (ab:kinL (ak s) args) (h:∀r al,Q r al->((∀m,(Pv.look (.obj m) al.b).isSome->(Pv.look (.obj m) s.b).isSome\/ .obj m∉st.o)/\(∀m,(Pv.look (.obj m) al.e).isSome->(Pv.look (.obj m) s.e).isSome\/ .obj m∉st.o))/\K ⟨fE d r st.t,bc s.b st.b++al.b,bc s.e st.e++al.e,st.n,st.o++ev al⟩):CallDo P n args st d K:=
 .inl ⟨s,Q,fun k cs aH=>⟨ah k cs aH,.inl (by simp[aH]),az.kb k cs aH⟩,fun k o aq=>⟨he k o aq,.inr (by simp[aq]),az.ke k o aq⟩,az.obj,ab,aK,fun r al bp=>h r al bp⟩
theorem yW(a b:List aj):gL (a++b)=gL a++gL b:=by simp[gL]
theorem acH(t:List aj)(aE:t≠[])(aD:t.length<=aR):b3 aF 62 [bq,.str t] bN fun r al=>r= .tuple [.int .i64 t.length,.junk]/\al=be t:=by have az:=Fh;simp only[bN]at az⊢;refine b3.mk mixed kF Rz Vw Ψ az.obj fun aG b2=>?_;unfold Jn;simp[bq];refine CallDo.ob acL Fh (by simp only[bN];exact aA) (by simp only[bN];exact aA) (by simp[ak,Pv.look,bN,bq,kinL,kin]) ?_;rintro r al ⟨rfl,rfl⟩;refine⟨Yr,?_⟩;simp[bc,bN,uw,bq,aE,aD];refine cO.new (be t) (.inl rfl) (kI t) (by simp[hd,be,ak,Pv.look]) (by simp only[be,bq];exact aA) (by simp only[be,bq];exact aA) ?_;simp[c8,MW,ba,bg,aT,be,bq,ak,Pv.look,kin,kinL]
theorem acI(l t:List aj)(aD:(l++t).length<=aR):b3 aF 62 [bq,.str t] (be l) fun r al=>r= .tuple [.int .i64 t.length,.junk]/\al=be (l++t):=by
 have az:=kI l;have lB:l.length+t.length<=aR:=by simpa using aD
 have fc:(gL l).length=l.length:=by simp[gL]
 simp only[be]at az⊢;refine b3.mk mixed kF Rz Vw Ψ az.obj fun aG b2=>?_;unfold Jn;simp[bq];refine CallDo.ob (acM l) (kI l) (by simp only[be,bq];exact aA) (by simp only[be,bq];exact aA) (by simp[ak,Pv.look,be,bq,kinL,kin]) ?_;rintro r al ⟨rfl,rfl⟩;refine⟨Same.refl _,?_⟩;simp[bc,be,bq,lB,fc];refine cO.at (be (l++t)) (.inl rfl) (kI _) (Yt l (l++t)) (by simp only[be,bq];exact aA) (by simp only[be,bq,yW];exact aA) ?_;simp[c8,MW,ba,bg,aT,be,bq,ak,Pv.look,kin,kinL]
theorem N4(n:Int)(h:aY n):bW aF 63 [.int .i64 n] (.str (Lib.itoa n)):=by have k:=XV n h;refine bI kF abq ag4 fun aG=>?_;unfold Pj;exact bY
end
end Go.Proofs.YtlnndmgfngfeiaaGreatDoor
