/- From a contract to the row: data that come in. -/
import Derived.Lib.ItoaNum
import Derived.Lib.AtoiAll
import Derived.Lib.ItoaLen
import Derived.Shelf.Strings.Builder1
import Derived.Shelf.Strconv.Itoa3
import Derived.Shelf.Strconv.AtoiAll
import Derived.Ground.NamesProg
import Derived.Test.YtfeencekjcjalaaGreatDoorProg
import Derived.ProofKit
import Derived.WalkKit
import Derived.Carry
import Derived.Deep.Slices
import Derived.Lib.LaidTab
import Derived.Stop.LaidErr
import Derived.Test.YtfeencekjcjalaaGreatDoorQ10
set_option linter.all false
set_option maxHeartbeats 4000000
set_option maxRecDepth 4000
open Array renaming getElem?_toList->tN
open Bool renaming and_eq_true->cD
open Go renaming Program->cz,TypeId->fF
open Go.DataW renaming trod->jX
open Go.Extern.AbiNoEscape renaming same->awg
open Go.IntKind renaming i64->oz
open Go.IntWalk renaming i64_in->lT
open Go.Proofs.Tryz renaming f3->kM,prog->ar
open Go.Value renaming cells->nM,int->pf
open List renaming all_eq_true->jL,cons_append->bX,drop->oB,getElem?_append_left->rB,getElem?_eq_getElem->cl,getElem?_eq_some_iff->fy,length_append->hq,length_cons->jc,length_nil->qM,map_cons->fA,map_nil->pg,mem_append_left->sr,mem_cons->gp,mem_map->iL,mem_of_getElem?->eQ,nil_append->b3,take->mH,take_length->p5,take_of_length_le->gC
open List.cons renaming injEq->rA
open Nat renaming add_mul->p6,le_refl->eR,le_trans->jM,mul_le_mul_right->tR
open Ne renaming symm->k8
open Option renaming bind_eq_some_iff->nP,bind_some->k9,isSome_iff_exists->gd,map_eq_some_iff->gD
open Option.some renaming inj->fK,injEq->dv
open Prod.mk renaming injEq->hN
open UInt8 renaming ofNat->sw
open _root_ renaming False->et,Option->aW,UInt8->bV,congrArg->eu,decide_eq_false->pj,decide_eq_true->oE,decide_eq_true_eq->e8
namespace Go.Proofs.YtfeencekjcjalaaGreatDoor
section
open Go Go.Pv
def tY(d:dz (dz fL)):ah:=d.e 1 lb
def uC(k:dz bN):ah:=k.e 2 bN.e
def uJ(m:dz ic):ah:=m.e 2 ic.e
@[simp]theorem at6(S:aB->Prop)(d:dz (dz fL)):av S (tY d)=True:=by cases d<;>simp[tY,dz.e,av]
@[simp]theorem avP(d:dz (dz fL)):de (tY d)=tY d:=by
 cases d with
 |l l=>
  have:∀l:List (dz fL),cK (l.map lb)=l.map lb:=by
   intro l;induction l with
   |nil=>rfl
   |cons x l a=>simp[cK,a]
  simp[tY,dz.e,de,this]
 |b=>simp[tY,dz.e,de]
@[simp]theorem auf(S:aB->Prop)(d:dz bN):av S (uC d)=True:=by cases d<;>simp[uC,dz.e,av]
@[simp]theorem avW(d:dz bN):de (uC d)=uC d:=by
 cases d with
 |l l=>
  have:∀l:List bN,cK (l.map bN.e)=l.map bN.e:=by
   intro l;induction l with
   |nil=>rfl
   |cons x l a=>simp[cK,a]
  simp[uC,dz.e,de,this]
 |b=>simp[uC,dz.e,de]
@[simp]theorem auh(S:aB->Prop)(d:dz ic):av S (uJ d)=True:=by cases d<;>simp[uJ,dz.e,av]
@[simp]theorem avY(d:dz ic):de (uJ d)=uJ d:=by
 cases d with
 |l l=>
  have:∀l:List ic,cK (l.map ic.e)=l.map ic.e:=by
   intro l;induction l with
   |nil=>rfl
   |cons x l a=>simp[cK,a]
  simp[uJ,dz.e,de,this]
 |b=>simp[uJ,dz.e,de]
structure qc where
 n:Int
 b:dz fL
 d:dz (dz fL)
 k:dz bN
 m:dz ic
def qc.e(r:qc):ah:= .agg [.int .i64 r.n,lb r.b,tY r.d,uC r.k,uJ r.m]
structure qc.wf (r:qc):Prop where
 b:yi r.b
 d:r.d.wf yi
 k:∀p n cap,r.k= .b p n cap->nJ n
 m:r.m.wf fun x=>x.s.wf
def uY(r:qc)(m:Int):Int:=if iI r.b m<0 then-1 else if hg iI r.d (iI r.b m)<0 then-1 else if nI r.k (hg iI r.d (iI r.b m))<0 then-1 else if hg lQ r.m (nI r.k (hg iI r.d (iI r.b m)))<0 then-1 else hg lQ r.m (nI r.k (hg iI r.d (iI r.b m)))
def AF(b:dj):fL:=⟨b.v,Ai b.t⟩
def uK(b:bk):ic:=⟨b.v,.s b.s⟩
theorem acj(b:dj):(AF b).e=b.e:=by have h:=aae b.t;rw[cE.e_eq,AS]at h;simp only[ah.agg.injEq,rA,and_true,true_and]at h;obtain⟨J,U,a,c⟩:=h;show ah.agg [_,_,_,_,_]=ah.agg [_,_,_,_,_];rw[show(AF b).t=Ai b.t from rfl,J,U,a,c];rfl
theorem akV(b:bk):(uK b).e=b.e:=rfl
theorem ack(l:List dj):(l.map AF).map fL.e=l.map dj.e:=by rw[List.map_map];exact List.map_congr_left fun b _=>acj b
theorem akW(l:List bk):(l.map uK).map ic.e=l.map bk.e:=by rw[List.map_map];exact List.map_congr_left fun b _=>akV b
def vp(d:List dj):dz fL:= .l (d.map AF)
theorem TC(d:List dj):lb (vp d)=gy d:=by simp only[lb,vp,dz.e,gy,ack]
theorem adk(l:List (List dj)):(l.map vp).map lb=l.map gy:=by rw[List.map_map];exact List.map_congr_left fun b _=>TC b
def j0.h(r:j0):qc:=⟨r.n,vp r.b,.l (r.d.map vp),.l r.k,.l (r.m.map uK)⟩
theorem apE(r:j0):r.h.e=r.e:=by simp only[qc.e,j0.h,j0.e,TC,tY,uC,uJ,dz.e,adk,akW];rfl
theorem apO(x:fL)(m:Int)(hw:x.t.wf)(J:m<=1048576)(a:0<=m)(h:0<=tH x m):∃y,x=AF y:=by obtain⟨u,hu⟩:=Z6 x.t m hw J a h;exact⟨⟨x.v,u⟩,by cases x;simp only[AF]at hu⊢;rw[hu]⟩
theorem apP(x:ic)(m:Int)(hw:x.s.wf)(J:m<=1048576)(b:0<=m)(h:0<=lQ x m):∃y,x=uK y:=by
 unfold lQ at h;split at h
 ·omega
 ·obtain⟨l,a⟩:=hA.small hw J h;exact⟨⟨x.v,l⟩,by cases x;simp only[uK]at a⊢;rw[a]⟩
theorem Z0(x:dz fL)(m:Int)(hw:yi x)(J:m<=1048576)(a:0<=m)(h:0<=iI x m):∃y,x=vp y:=Py (P:=fun b:fL=>b.t.wf) Px apO x m (show dz.wf (fun b:fL=>b.t.wf) x from hw) J a h
theorem Z7:∀(l:List bk) (m:Int),(∀x∈l,1<=x.s.length)->0<=kq lQ (l.map uK) m->(l.length:Int)<=m
 |[],m,_,h=>by simpa[kq]using h
 |x::l,m,J,h=>by
  simp only[fA,kq]at h;split at h
  ·omega
  ·rename_i U;have a:=Z7 l _ (fun y d=>J y (by simp[d])) h;have e:=J x Ψ;have c:lQ (uK x) m=if m-x.s.length<0 then-1 else m-x.s.length:=rfl
   rw[c]at U a;split at a
   ·rename_i b;rw[if_pos b]at U;omega
   ·simp only[jc];omega
theorem ak3{s:List bV}(h:iW s=true):1<=s.length:=by
 cases s with
 |nil=>simp[iW]at h
 |cons c s=>simp
theorem apS{r:qc}(hw:r.wf)(h:0<=uY r 1048576):∃u:j0,r=u.h/\(iX u.m->wJ u.m):=by
 obtain⟨n,b,d,k,l⟩:=r;obtain⟨e,f,m,a⟩:=hw;simp only at e f m a;unfold uY at h;simp only at h;have t:=x9 b 1048576 Ω;split at h
 ·omega
 have v:=ya x9 d (iI b 1048576) Ω;split at h
 ·omega
 have s:=Pz k (hg iI d (iI b 1048576)) Ω;split at h
 ·omega
 split at h
 ·omega
 obtain⟨cb,rfl⟩:=Z0 b 1048576 e Ω Ω Ω;obtain⟨g,rfl⟩:=Py x9 (P:=yi) Z0 d (iI (vp cb) 1048576) f Ω Ω Ω;generalize hg iI (.l (g.map vp)) (iI (vp cb) 1048576)=o at*;cases k with
 |b=>simp only[nI]at*;omega
 |l i=>
  generalize nI (.l i) o=j at*;have q:=ya Jy l j Ω;obtain⟨c,rfl⟩:=Py Jy (P:=fun x=>x.s.wf) apP l j a Ω Ω Ω;refine⟨⟨n,cb,g,i,c⟩,rfl,fun hm=>wJ.of ?_⟩;simp only at hm⊢;simp only[hg,pY]at h;split at h
  ·omega
  ·have:=Z7 c _ (fun x p=>ak3 (hm.at' x p).2) h;simp only[List.length_map]at this;omega
theorem arb(r:qc)(hw:r.wf)(m:Int)(f:0<=m)(J:m<=1048576):bL ar 6 [r.e,.int .i64 m] (.int .i64 (uY r m)):=by
 generalize bq:uY r m=R;obtain⟨n,b,d,k,l⟩:=r;obtain⟨y,s,v,q⟩:=hw;simp only at y s v q;unfold uY at bq;simp only[qc.e]at bq⊢;have G:=aaV b y m f J;have E:=x9 b m f;generalize iI b m=j at bq G E;have t:_->bL ar 23 [tY d,.int .i64 j] (.int .i64 (hg iI d j)):=fun h=>aq8 d (fun p n c e=>by subst e;exact s) (fun xs e x D m f J=>by subst e;exact aaV x (s x D) m f J) j h Ω;have B:=fun h=>ya x9 d j h;generalize hg iI d j=i at bq t B;have o:_->_->bL ar 24 [uC k,.int .i64 i] (.int .i64 (nI k i)):=fun h A=>ard k v i h A;have z:=fun h=>Pz k i h;generalize nI k i=g at bq o z;have a:_->_->bL ar 25 [uJ l,.int .i64 g] (.int .i64 (hg lQ l g)):=fun h A=>ara l (fun p n c e=>by subst e;exact q) (fun xs e x D m f J=>by subst e;exact aq9 x (q x D) m f J) g h A;have w:=fun h=>ya Jy l g h;generalize hg lQ l g=F at bq a w;clear y s v q;by_cases g1:j<0
 ·rw[if_pos g1]at bq;subst bq;clear t o a;refine bs gb Tryz.func6 E5 fun u=>?_;unfold AJ;exact cn
 rw[if_neg g1]at bq;have t:=t Ω;have B:=B Ω;by_cases g2:i<0
 ·rw[if_pos g2]at bq;subst bq;clear o a;refine bs gb Tryz.func6 E5 fun u=>?_;unfold AJ;exact cn
 rw[if_neg g2]at bq;have o:=o Ω Ω;have z:=z Ω;by_cases g3:g<0
 ·rw[if_pos g3]at bq;subst bq;clear a;refine bs gb Tryz.func6 E5 fun u=>?_;unfold AJ;exact cn
 rw[if_neg g3]at bq;have a:=a Ω Ω;have w:=w Ω;by_cases g4:F<0
 ·rw[if_pos g4]at bq;subst bq;refine bs gb Tryz.func6 E5 fun u=>?_;unfold AJ;exact cn
 rw[if_neg g4]at bq;subst bq;refine bs gb Tryz.func6 E5 fun u=>?_;unfold AJ;exact cn
theorem arn(r:j0):bL ar 8 [r.e] r.e:=by obtain⟨n,b,d,k,l⟩:=r;simp only[j0.e];have e:bL ar 28 [.slice 5 .no (b.map dj.e)] (.slice 5 .no (b.map dj.e)):=aaX b;have f:=arj d fun x _=>aaX x;have c:=ars k fun x _=>arq x;have a:=arl l fun x _=>ark x;refine bs gb Tryz.func8 amm fun g=>?_;unfold R8;exact cn
theorem aqt(r:j0):bL ar 10 [r.e,r.e] (.bool true):=by obtain⟨n,b,d,k,l⟩:=r;simp only[j0.e];have e:bL ar 18 [.slice 5 .no (b.map dj.e),.slice 5 .no (b.map dj.e)] (.bool true):=aaE b;have f:=aqq d fun x _=>aaE x;have c:=aqx k fun x _=>aqw x;have a:=aqs l fun x _=>aqr x;refine bs gb Tryz.func10 amc fun g=>?_;unfold RW;exact cn
end
end Go.Proofs.YtfeencekjcjalaaGreatDoor
namespace Go.Pv
section
open Go Go.Lib
theorem yG{u:Nat}(h:u<10):decDigits u=[sw (48+u)]:=by rw[decDigits,dif_pos h]
theorem Dl{u:Nat}(h:10<=u):decDigits u=decDigits (u/10)++[sw (48+u%10)]:=by rw[decDigits,dif_neg Ω]
theorem Tx(u:Nat):decDigits u≠[]:=by
 by_cases hu:u<10
 ·rw[yG hu];simp
 ·rw[Dl Ω];simp
def ans(s:List bV):aW Int:=match atoiAll s with
 | .ok n=>if itoa n=s then some n else none
 |_=>none
theorem uy(n:Int):itoa n≠[]:=by
 unfold itoa;split
 ·simp
 ·exact Tx _
theorem KW:∀(k u:Nat),u<10 ^ k->(decDigits u).length<=max k 1
 |0,u,h=>by rw[yG (by simpa using Nat.lt_of_lt_of_le h Ψ)];simp
 |k+1,u,h=>by
  by_cases hu:u<10
  ·rw[yG hu];simp
  ·rw[Dl Ω];have:=KW k (u/10) (by rw[Nat.pow_succ]at h;omega);simp;have:k≠0:=fun e=>by subst e;simp at h;omega
   omega
theorem ajQ{n:Int}(h:e3 n):(itoa n).length<=20:=by
 unfold e3 at h;unfold itoa;split
 ·have:=KW 19 n.natAbs Ω;simp;omega
 ·have:=KW 19 n.toNat Ω;omega
def aci(c:bV):Bool:=c==32||c==10||c==40||c==41||c==59
def Nj:List T->T->T
 |[],t=>t
 |x::r,t=>.pair x (Nj r t)
mutual
def Ft(at':List bV->aW T):Nat->List (List bV)->aW (T×List (List bV))
 |0,_=>none
 |_+1,[]=>none
 |n+1,w::r=>if w=[40]then gu at' n r []else if w=[41]\/w=[46]then none else(at' w).map fun t=>(t,r)
def gu(at':List bV->aW T):Nat->List (List bV)->List T->aW (T×List (List bV))
 |0,_,_=>none
 |_+1,[],_=>none
 |n+1,w::r,acc=>if w=[41]then some (Nj acc .nil,r)
  else if w=[46]then(if acc=[]then none else match Ft at' n r with
   |some (t,v::a)=>if v=[41]then some (Nj acc t,a)else none
   |_=>none)
  else match Ft at' n (w::r)with
   |some (t,a)=>gu at' n a (acc++[t])
   |none=>none
end
mutual
def cN:T->List bV
 | .nil=>[40,41]
 | .var n=>63::itoa n
 | .sym s=>s
 | .num n=>itoa n
 | .pair a b=>40::(cN a++fs b)
def fs:T->List bV
 | .nil=>[41]
 | .pair a b=>32::(cN a++fs b)
 | .var n=>32::46::32::63::(itoa n++[41])
 | .sym s=>32::46::32::(s++[41])
 | .num n=>32::46::32::(itoa n++[41])
end
def TF:List bV->Prop
 |[]=>True
 |c::_=>aci c=true
theorem XL{s:List bV}(h:iW s=true):∃c r,s=c::r/\low c=true/\(∀x∈r,mZ x=true)/\r.length<=11:=by
 unfold iW at h;simp only[cD,e8,jL]at h;cases s with
 |nil=>simp at h
 |cons c r=>exact⟨c,r,rfl,by simpa using h.1.2,by simpa using h.2,by have:=h.1.1.2;simp at this;omega⟩
theorem XM{s:List bV}(h:iW s=true):s≠[]:=by obtain⟨c,r,rfl,_⟩:=XL h;simp
def arD:List bV:=[116,114,117,101]
def arA:List bV:=[102,97,105,108]
def arz:List bV:=[61]
def ary:List bV:=[47,61]
def F2:List bV:=[115,121,109,98,111,108]
def F1:List bV:=[110,117,109,98,101,114]
def arw:List bV:=[97,98,115,101,110,116]
def arx:List bV:=[97,110,100]
def arC:List bV:=[111,114]
def arB:List bV:=[110,111,116]
theorem G5{t:T}(h:t.fit=true):t.ok=true:=by unfold T.fit at h;simp only[cD]at h;exact h.1
def gj(b:List bV):List (List bV)->List bV
 |[]=>[]
 |[x]=>x
 |x::y::r=>x++b++gj b (y::r)
theorem Wr(b:List bV)(x:List bV):∀l:List (List bV),l≠[]->gj b (l++[x])=gj b l++b++x
 |[],h=>absurd rfl h
 |[y],_=>by simp[gj]
 |y::z::r,_=>by have:=Wr b x (z::r) Ψ;simp only[bX,gj]at this⊢;rw[this];simp
theorem Ws(b:List bV)(l:List (List bV)){k:Nat}{x:List bV}(h:l[k]? =some x):gj b (l.take (k+1))=if k=0 then x else gj b (l.take k)++b++x:=by
 have c:=(fy.1 h).1;have aM:l.take (k+1)=l.take k++[x]:=by rw[List.take_add_one,h];rfl
 rw[aM];by_cases a:k=0
 ·subst a;simp[gj]
 ·rw[if_neg a,Wr];intro e;have:=eu List.length e;rw[List.length_take]at this;simp only[qM]at this;omega
def oK(l:List au):List (List bV):=l.flatMap fun b=>[cN (.var b.v),cN b.t]
def jg(l:List au):List bV:=gj [32] (oK l)
theorem aaY{v:Int}(h:0<=v/\v<=100000):(T.var v).fit=true:=by unfold T.fit T.ok T.size;simp[h]
def arv(s:List bV):Bool:=iW s||(match ans s with|some n=>decide (0<=n/\n<=100000)|none=>false)
def num:List (List bV)->List (List bV)->aW (List (List bV)×List (List bV))
 |ns,[]=>some ([],ns)
 |ns,w::r=>match w with
  |63::s=>if arv s then(num (if w∈ns then ns else ns++[w]) r).map fun x=>((63::itoa (ns.idxOf w))::x.1,x.2)else none
  |_=>(num ns r).map fun x=>(w::x.1,x.2)
end
section
open Go Go.Lib
theorem NJ{s:List bV}(h:iW s=true):s.length<=12:=by obtain⟨c,r,rfl,_,_,a⟩:=XL h;simp;omega
mutual
theorem AV:∀t:T,t.ok=true->(cN t).length<=26*t.size
 | .nil,_=>by simp[cN,T.size]
 | .var n,h=>by simp only[T.ok,e8]at h;have:=itoa_length_le n Ω Ω;simp only[cN,T.size,jc];omega
 | .sym s,h=>by have:=NJ (s:=s) (by simpa[T.ok]using h);simp only[cN,T.size];omega
 | .num n,h=>by simp only[T.ok,e8]at h;have:=itoa_length_le n Ω Ω;simp only[cN,T.size];omega
 | .pair a b,h=>by simp only[T.ok,cD]at h;have J:=AV a h.1;have U:=TT b h.2;simp only[cN,T.size,jc,hq];omega
theorem TT:∀t:T,t.ok=true->(fs t).length<=26*t.size
 | .nil,_=>by simp[fs,T.size]
 | .var n,h=>by simp only[T.ok,e8]at h;have:=itoa_length_le n Ω Ω;simp only[fs,T.size,jc,hq,qM];omega
 | .sym s,h=>by have:=NJ (s:=s) (by simpa[T.ok]using h);simp only[fs,T.size,jc,hq,qM];omega
 | .num n,h=>by simp only[T.ok,e8]at h;have:=itoa_length_le n Ω Ω;simp only[fs,T.size,jc,hq,qM];omega
 | .pair a b,h=>by simp only[T.ok,cD]at h;have J:=AV a h.1;have U:=TT b h.2;simp only[fs,T.size,jc,hq];omega
end
structure Qf (s t:List au):Prop where
 sa:iM s
 sv:∀b∈s,4<=b.v/\b.v<8
 so:∀b∈s,b.t.ok=true/\b.t.size<=16/\∀w,b.t.occ w=true->0<=w/\w<4
 ta:iM t
 tk:∃k:Int,∀b∈t,0<=b.v/\b.v<4/\k<=b.v/\∀w,b.t.occ w=true->0<=w/\w<k
 to:∀b∈t,b.t.ok=true/\b.t.size<=16
def Kg(t:List au)(b:au):au:=⟨b.v,b.t.ap (cI t)⟩
section
variable {s t:List au} (h:Qf s t)
include h
end
section
variable {s t:List au} (h:Qf s t)
include h
end
theorem aey{l:List au}{m:Nat}(ae:∀b∈l,(0<=b.v/\b.v<=100000)/\b.t.ok=true/\b.t.size<=m):(jg l).length<=l.length*(26*m+28):=by
 have key:∀L:List (List bV),(gj [32] L).length<=(L.map fun x=>x.length+1).sum:=by
  intro L;induction L with
  |nil=>simp[gj]
  |cons x r a=>
   cases r with
   |nil=>simp[gj]
   |cons y r=>simp only[gj,hq,fA,List.sum_cons,List.length_singleton]at a⊢;omega
 refine jM (key _) ?_;clear key;induction l with
 |nil=>simp[oK]
 |cons b l a=>
  have J:=ae b Ψ;have U:=a fun c ax=>ae c (by simp[ax]);have e:=AV b.t J.2.1;have f:(cN (.var b.v)).length<=26:=by have:=AV (.var b.v) (G5 (aaY J.1));simpa[T.size]using this
  have d:26*b.t.size<=26*m:=Nat.mul_le_mul_left _ J.2.2;simp only[oK,List.flatMap_cons,bX,b3,fA,List.sum_cons,jc,p6]at U⊢;omega
end
end Go.Pv
namespace Go.Proofs.YtfeencekjcjalaaGreatDoor
section
open Go Go.Pv
def kt(d:List au):List bV:=40::(jg d++[41])
def iS(l:List (List bV)):List bV:=40::(gj [32] l++[41])
def jE(x:bN):List (List bV):=[Lib.itoa x.v,if x.k=3 then F1 else F2]
def kE(x:bk):List (List bV):=[Lib.itoa x.v,x.s]
def uV(s:dW):List (List bV):=[[115,116,97,116,101],Lib.itoa s.n,kt s.b,iS (s.d.map kt),iS (s.k.flatMap jE),iS (s.m.flatMap kE)]
def wH(s:dW):List bV:=iS (uV s)
theorem Wq(L:List (List bV)):(gj [32] L).length<=(L.map fun x=>x.length+1).sum:=by
 induction L with
 |nil=>simp[gj]
 |cons x r a=>
  cases r with
  |nil=>simp[gj]
  |cons y r=>simp only[gj,hq,fA,List.sum_cons,List.length_singleton]at a⊢;omega
theorem Jw{α:Type}{f:α->Nat}{W:Nat}:∀{l:List α},(∀x∈l,f x<=W)->(l.map f).sum<=W*l.length
 |[],_=>by simp
 |x::l,h=>by have J:=h x Ψ;have U:=Jw (l:=l) fun y a=>h y (by simp[a]);simp only[fA,List.sum_cons,jc,Nat.mul_add];omega
theorem Pt{α:Type}(f:α->List (List bV))(g:List bV->Nat):∀l:List α,((l.flatMap f).map g).sum=(l.map fun x=>((f x).map g).sum).sum
 |[]=>rfl
 |x::l=>by simp[List.flatMap_cons,Pt f g l]
theorem HX{n:Int}(h:0<=n/\n<=100000):(Lib.itoa n).length<=20:=ajQ ol
theorem AU{d:List au}(h:eJ d):(jg d).length<=52011200:=by have J:=aey (m:=5000) (fun b ae=>⟨(h.ok b ae).1,(h.ok b ae).2,h.fits.2 b ae⟩);have U:=h.fits.1;have a:d.length*(26*5000+28)<=400*(26*5000+28):=tR _ U;omega
theorem GO{d:List au}(h:eJ d):(kt d).length<=52011202:=by have:=AU h;simp only[kt,jc,hq,qM];omega
theorem LH(l:List (List bV)):(iS l).length<=(l.map fun x=>x.length+1).sum+2:=by have:=Wq l;simp only[iS,jc,hq,qM];omega
theorem MX{l:List bN}(h:jl l)(b:l.length<=1048576):(iS (l.flatMap jE)).length<=100000000:=by
 have J:=LH (l.flatMap jE);rw[Pt]at J;have U:(l.map fun x=>((jE x).map fun w=>w.length+1).sum).sum<=50*l.length:=Jw fun x a=>by have:=HX (h.at' x a).1;simp only[jE,fA,pg,List.sum_cons,List.sum_nil];split<;>simp[F1,F2]<;>omega
 omega
theorem NF{l:List bk}(h:iX l)(b:l.length<=1048576):(iS (l.flatMap kE)).length<=100000000:=by
 have J:=LH (l.flatMap kE);rw[Pt]at J;have U:(l.map fun x=>((kE x).map fun w=>w.length+1).sum).sum<=50*l.length:=Jw fun x a=>by have c:=HX (h.at' x a).1;have d:=NJ (h.at' x a).2;simp only[kE,fA,pg,List.sum_cons,List.sum_nil];omega
 omega
theorem KX{d:List (List au)}(h:∀x∈d,eJ x)(a:d.length<=30):(iS (d.map kt)).length<=1600000000:=by
 have J:=LH (d.map kt);rw[List.map_map]at J;have U:(d.map ((fun x=>x.length+1)∘kt)).sum<=52011203*d.length:=Jw fun x b=>by have:=GO (h x b);simp only[Function.comp];omega
 have c:52011203*d.length<=52011203*30:=Nat.mul_le_mul_left _ a;omega
structure FN (s:dW):Prop where
 n:0<=s.n/\s.n<=100000
 b:eJ s.b
 d:∀x∈s.d,eJ x
 dl:s.d.length<=30
 k:jl s.k
 kl:s.k.length<=1048576
 m:iX s.m
 ml:s.m.length<=1048576
theorem FN.le{s:dW}(h:FN s):(gj [32] (uV s)).length<=3000000000:=by have J:=Wq (uV s);have a:=HX h.n;have a2:=GO h.b;have a3:=KX h.d h.dl;have a4:=MX h.k h.kl;have a5:=NF h.m h.ml;simp only[uV,fA,pg,List.sum_cons,List.sum_nil,jc,qM]at J⊢;omega
end
end Go.Proofs.YtfeencekjcjalaaGreatDoor
namespace Go.Pv
section
open Go Go.RowKit
end
end Go.Pv
namespace Go.Pv
open Go Go.RowKit
theorem agO(w:World)(a:Addr)(n:Nat):(w.freeze a n).os=w.os/\(w.freeze a n).tape=w.tape/\(w.freeze a n).output=w.output/\(w.freeze a n).heap.size=w.heap.size/\∀j,j≠a.block->(w.freeze a n).heap[j]? =w.heap[j]?:=by
 unfold World.freeze;split
 ·exact⟨rfl,rfl,rfl,rfl,fun _ _=>rfl⟩
 ·exact⟨rfl,rfl,rfl,Ψ,fun j b=>by simp only[Array.getElem?_modify];rw[if_neg (k8 b)]⟩
theorem cS.dropRow{C:e0}{st:bh}{a:Act}{w w':World}{Z:aZ}(h:cS C st a w Z){g:aB}{o:ec}(aY:look g st.e=some o){xs:List ah}(O:o.xs=some xs){n:Nat}{v:Value}(x:Z.ow g=some (n,v)){bl:Nat}(i:v.ownBlock=some bl)
  (E:w'.os=w.os) (Q:w'.tape=w.tape) (R:w'.output=w.output) (f:∀j,j≠bl->w'.heap[j]? =w.heap[j]?) (r:w'.heap.size=w.heap.size):cS C {st with e:=bZ [(g,o)] st.e} a w' Z:=by
 obtain⟨v0,us,y,V,M,G⟩:=h.good.own g o aY;rw[x]at y;simp only[dv,hN]at y;obtain⟨S,rfl⟩:=y;obtain⟨_,_,P⟩:=G xs O;have be:∀b o,Z.A b o->b≠bl:=fun b o be e=>P bl i o (e▸be);have ak:lU w Z w' Z:=⟨fun b o d=>⟨d,World.cell?_of_block (f b (be b o d))⟩,fun _ _ _ h=>h,fun g n u _ aY=>⟨n,u,aY,.inl ⟨rfl,rfl⟩⟩,fun b o d=>wE (f b (be b o d)),fun _ _ _ _ h=>h⟩;have t:∀k p,look k (bZ [(g,o)] st.e)=some p->k≠g/\look k st.e=some p:=by
  intro k p c;rw[uH]at c;by_cases e:g=k
  ·subst e;simp[look]at c
  ·simp[look,e]at c;exact⟨k8 e,c⟩
 have q:∀k,(look k (bZ [(g,o)] st.e)).isSome->k≠g/\(look k st.e).isSome:=by intro k c;obtain⟨p,l⟩:=gd.1 c;exact⟨(t k p l).1,by simp[(t k p l).2]⟩
 refine h.over ak rfl ⟨fun b o ae=>by rw[r];exact h.good.alt b o ae,fun k cs c=>?_,h.good.inj,fun k p c=>?_,fun k A n n' u F b J U=>h.good.oinj k A n n' u F b (q k J).2 (q A U).2,fun k j n u b J U=>h.good.obx k j n u b (q k J).2 U,h.good.one,fun b ae=>h.good.otr b (ae.imp id fun⟨k,n,u,J,U⟩=>⟨k,n,u,(q k J).2,U⟩)⟩
  ⟨E.trans h.fr.os,Q.trans h.fr.tape,R.trans h.fr.output,by rw[r];exact h.fr.size,fun k c hm=>?_,fun b o d=>?_,h.fr.fresh,h.fr.obj,h.fr.obn,h.fr.row,h.fr.obr,h.fr.trd,fun k j b ae=>⟨(h.fr.trb k j b ae).1,by rw[r];exact(h.fr.trb k j b ae).2⟩,h.fr.trn,fun b o d=>(ak.sh b o (h.fr.keep b o d).1).trans (h.fr.sh b o d),h.fr.nrow⟩ h.new
 ·obtain⟨b,s,el,g1,g2,g3,g4,g5⟩:=h.good.box k cs c;refine⟨b,s,el,g1,g2,g3,?_,qE ak g5⟩;rw[f b fun e=>h.good.obx g k n v b (by simp[aY]) (by simp[c]) x (by rw[e];exact i) g1];exact g4
 ·obtain⟨K,z⟩:=t k p c;obtain⟨u,s,D,m,L,H⟩:=h.good.own k p z;refine⟨u,s,D,⟨m.1,?_⟩,L,sb ak (fun _ _ _ h=>h) H⟩;rcases m.2 with m|⟨bb,cap,cur,f1,f2,f3,f4⟩
  ·exact .inl m
  ·refine .inr ⟨bb,cap,cur,f1,f2,?_,f4⟩;rw[f bb fun e=>K (h.good.oinj k g _ _ _ _ bl (by simp[z]) (by simp[aY]) D x (by rw[f1,<-e];rfl) i)];exact f3
 ·have l:=(M bl i).1;rw[f k fun e=>by subst e;exact l.elim hm (fun U=>Ω)];exact h.fr.block k c hm
 ·obtain⟨B,N⟩:=h.fr.keep b o d;exact⟨B,(ak.A b o B).2.trans N⟩
theorem Zo{w:World}{Z:aZ}:∀{l:List bV} {us:List Value},di w Z 1 (gx l) us->us=Lib.byteCells l
 |[],us,h=>by simpa[gx,di,Lib.byteCells]using h
 |x::xs,us,h=>by simp only[gx,fA,di]at h;obtain⟨u,a,rfl,⟨J,_,_⟩,U⟩:=h;simp only[aS]at J;subst J;have:=Zo (l:=xs) U;rw[this];simp[Lib.byteCells,nM]
end Go.Pv
namespace Go.Proofs
open Go.Shelf Go.RowKit
variable {P:cz} {ρ:Ren}
set_option maxRecDepth 100000 in
theorem Any.Builder_String_ex(L:Lays.n169 P ρ)(X:Builder.Extra P ρ)(b:Nat)(l:List bV)(w:World)(c:l≠[])(p:Value)(g cap:Nat)(cur:Array Value)(d:w.heap[b]? =some (.cells #[p,.slice (some ⟨g,0,none⟩) l.length cap] (ρ.t 72) (0,0)))
  (f:w.ownsRow 0 (ρ.t 5) 1 (.slice (some ⟨g,0,none⟩) l.length cap) l.length (Lib.byteCells l)) (aY:w.heap[g]? =some (.cells cur (ρ.t 5) (0,0))) (u:l.length<=cap) (s:cap<=maxLen) (z:cur.size=cap*1):
  Calls P (ρ.f 169) #[.pointer (some ⟨b,0,none⟩)] w fun e w'=>e= .returned (.string ⟨l.toArray⟩)/\w'=w.drew.freeze ⟨g,0,none⟩ l.length:=by
 have t:l.length≠0:=by simpa using c
 have y:w.drew.cell? ⟨b,1,none⟩=some (.slice (some ⟨g,0,none⟩) l.length cap):=by have:w.drew.heap[b]? =some (.cells #[p,.slice (some ⟨g,0,none⟩) l.length cap] (ρ.t 72) (0,0)):=d;rw[Lib.cell_of_heap this];rfl
 have q:(Builtin.unsafeSliceData_ #[(ρ.t 37)] (ρ.t 127) #[.slice (some ⟨g,0,none⟩) l.length cap]).run P w.drew= .ok (.pointer (some ⟨g,0,none⟩)) w.drew:=Lib.run_unsafeSliceData_row _ _ _ _ _ _ Ω
 have o:(Builtin.unsafeString_ #[(ρ.t 127),(ρ.t 3)] (ρ.t 9) #[.pointer (some ⟨g,0,none⟩),.int .i64 l.length]).run P w.drew= .ok (.string ⟨l.toArray⟩) (w.drew.freeze ⟨g,0,none⟩ l.length):=by refine Lib.run_unsafeString_row w.drew (ρ.t 127) (ρ.t 3) (ρ.t 9) (ρ.t 5) L.t127 X.cellsByte g cur.size (by have a:w.drew.heap[g]? =some (.cells cur (ρ.t 5) (0,0)):=aY;simp[World.shape?,a]) l c Ω (by unfold maxLen at s;omega) ?_;intro j x r;have:=f.cells (g:=g) rfl j (.int .u8 x.toNat) (by simp[Lib.byteCells,r]);exact this
 have mixed:=L.mixed;have t72:=L.t72;have a72:=L.a72;have z72:=L.z72;have v72:=L.v72;have i:=run_underlying L.t72;have t70:=L.t70;have a70:=L.a70;have z70:=L.z70;have v70:=L.v70;have k:=run_underlying L.t70;have t37:=L.t37;have a37:=L.a37;have z37:=L.z37;have v37:=L.v37;have m:=run_underlying L.t37;have t127:=L.t127;have a127:=L.a127;have z127:=L.z127;have v127:=L.v127;have n:=run_underlying L.t127;have t3:=L.t3;have a3:=L.a3;have z3:=L.z3;have v3:=L.v3;have v:=run_underlying L.t3;have t9:=L.t9;have a9:=L.a9;have z9:=L.z9;have v9:=L.v9;have h:=run_underlying L.t9;have t5:=X.t5;have a5:=X.a5;have z5:=X.z5;have v5:=X.v5;have A:=run_underlying X.t5;go_enter L.f169,Body.n169_ntmps ρ;go_wp2;go_region_o;all_goals(go_wp2;go_ret;exact⟨rfl,rfl⟩)
end Go.Proofs
namespace Go.Proofs
section
open Go.Shelf
def Tryz.lays169_ren:Go.Shelf.Ren:=⟨fun|169=>103|n=>n,fun|70=>135|9=>9|0=>0|72=>137|37=>131|127=>173|3=>3|5=>5|n=>n,fun|n=>n⟩
theorem Tryz.lays169:Go.Proofs.Lays.n169 ar Tryz.lays169_ren:={
 mixed:=an
 f169:=Tryz.func103.trans (eu some an)
 t0:=Tryz.underlying0
 a0:=Tryz.isAgg0
 z0:=Tryz.sizeOf0
 v0:=Tryz.zeroValue0
 t3:=Tryz.underlying3
 a3:=Tryz.isAgg3
 z3:=Tryz.sizeOf3
 v3:=Tryz.zeroValue3
 t9:=Tryz.underlying9
 a9:=Tryz.isAgg9
 z9:=Tryz.sizeOf9
 v9:=Tryz.zeroValue9
 t37:=Tryz.underlying131
 a37:=Tryz.isAgg131
 z37:=Tryz.sizeOf131
 v37:=Tryz.zeroValue131
 t70:=Tryz.underlying135
 a70:=Tryz.isAgg135
 z70:=Tryz.sizeOf135
 v70:=Tryz.zeroValue135
 t72:=Tryz.underlying137
 a72:=Tryz.isAgg137
 z72:=Tryz.sizeOf137
 v72:=Tryz.zeroValue137
 t127:=Tryz.underlying173
 a127:=Tryz.isAgg173
 z127:=Tryz.sizeOf173
 v127:=Tryz.zeroValue173}
theorem Tryz.builderE:Builder.Extra ar Tryz.lays169_ren:={
 sizeBuilder:=an
 liesBuilder:=an
 t5:=Tryz.underlying5
 a5:=Tryz.isAgg5
 z5:=Tryz.sizeOf5
 v5:=Tryz.zeroValue5
 infoByte:=an
 cellsByte:=an
 sizeByte:=an
 neB5:=by decide}
def Tryz.laysM171_ren:Go.Shelf.Ren:=⟨fun|171=>115|243=>157|246=>181|283=>201|284=>202|285=>203|286=>204|129=>227|317=>226|318=>228|319=>229|320=>230|337=>247|338=>248|n=>n,fun|3=>3|9=>9|2=>2|4=>4|171=>210|0=>0|53=>211|37=>131|5=>5|173=>214|212=>230|51=>231|20=>20|213=>232|46=>178|232=>248|233=>249|n=>n,fun|17=>0|18=>1|19=>2|n=>n⟩
theorem Tryz.laysM171:Go.Proofs.LaysM.n171 ar Tryz.laysM171_ren:={
 mixed:=an
 f129:=Tryz.func227.trans (eu some an)
 f171:=Tryz.func115.trans (eu some an)
 f243:=Tryz.func157.trans (eu some an)
 f246:=Tryz.func181.trans (eu some an)
 f283:=Tryz.func201.trans (eu some an)
 f284:=Tryz.func202.trans (eu some an)
 f285:=Tryz.func203.trans (eu some an)
 f286:=Tryz.func204.trans (eu some an)
 f317:=Tryz.func226.trans (eu some an)
 f318:=Tryz.func228.trans (eu some an)
 f319:=Tryz.func229.trans (eu some an)
 f320:=Tryz.func230.trans (eu some an)
 f337:=Tryz.func247.trans (eu some an)
 f338:=Tryz.func248.trans (eu some an)
 t0:=Tryz.underlying0
 a0:=Tryz.isAgg0
 z0:=Tryz.sizeOf0
 v0:=Tryz.zeroValue0
 t2:=Tryz.underlying2
 a2:=Tryz.isAgg2
 z2:=Tryz.sizeOf2
 v2:=Tryz.zeroValue2
 t3:=Tryz.underlying3
 a3:=Tryz.isAgg3
 z3:=Tryz.sizeOf3
 v3:=Tryz.zeroValue3
 t4:=Tryz.underlying4
 a4:=Tryz.isAgg4
 z4:=Tryz.sizeOf4
 v4:=Tryz.zeroValue4
 t5:=Tryz.underlying5
 a5:=Tryz.isAgg5
 z5:=Tryz.sizeOf5
 v5:=Tryz.zeroValue5
 t9:=Tryz.underlying9
 a9:=Tryz.isAgg9
 z9:=Tryz.sizeOf9
 v9:=Tryz.zeroValue9
 t20:=Tryz.underlying20
 a20:=Tryz.isAgg20
 z20:=Tryz.sizeOf20
 v20:=Tryz.zeroValue20
 t37:=Tryz.underlying131
 a37:=Tryz.isAgg131
 z37:=Tryz.sizeOf131
 v37:=Tryz.zeroValue131
 t46:=Tryz.underlying178
 a46:=Tryz.isAgg178
 z46:=Tryz.sizeOf178
 v46:=Tryz.zeroValue178
 t51:=Tryz.underlying231
 a51:=Tryz.isAgg231
 z51:=Tryz.sizeOf231
 v51:=Tryz.zeroValue231
 t53:=Tryz.underlying211
 a53:=Tryz.isAgg211
 z53:=Tryz.sizeOf211
 v53:=Tryz.zeroValue211
 t171:=Tryz.underlying210
 a171:=Tryz.isAgg210
 z171:=Tryz.sizeOf210
 v171:=Tryz.zeroValue210
 t173:=Tryz.underlying214
 a173:=Tryz.isAgg214
 z173:=Tryz.sizeOf214
 v173:=Tryz.zeroValue214
 t212:=Tryz.underlying230
 a212:=Tryz.isAgg230
 z212:=Tryz.sizeOf230
 v212:=Tryz.zeroValue230
 t213:=Tryz.underlying232
 a213:=Tryz.isAgg232
 z213:=Tryz.sizeOf232
 t232:=Tryz.underlying248
 a232:=Tryz.isAgg248
 z232:=Tryz.sizeOf248
 v232:=Tryz.zeroValue248
 t233:=Tryz.underlying249
 a233:=Tryz.isAgg249
 z233:=Tryz.sizeOf249
 v233:=Tryz.zeroValue249
 g17:=an
 g18:=an
 g19:=an
 i0:=an
 i2:=an
 i3:=an
 i4:=an
 i5:=an
 i9:=an
 i20:=an
 i37:=an
 i46:=an
 i51:=an
 i53:=an
 i171:=an
 i173:=an
 i212:=an
 i232:=an
 i233:=an
 m17:=an
 m18:=an
 m19:=by kernel_rfl}
end
end Go.Proofs
namespace Go.Proofs.YtfeencekjcjalaaGreatDoor
section
open Go Go.Pv
def Q7:C:=(aa [dc 1 0,bG 2 (.mov (.c (.str [])))] (.seq (aa [bg 4 4 1,cG 5 101 4,cJ 6 5] (aU 6 (aa [bG 2 (.mov (.c (.str [])))] .ret) .skip)) (aa [bG 7 (.build [.nilp,.slice 1 .nil []] []),c8 (.box 8 (some 861) (.t 7)),I 3 8] (aa [I 9 3,bg 10 4 1,cq 11 102 9 10] (aa [I 12 3,⟨none,.opn (some 13) (.c (.func 103 [])) [.t 12]⟩,I 2 13] .ret)))))
def Q9:C:=(aa [bG 4 (.mov (.c (.str [])))] (aa [c8 (.bslm 8 none 1 5 []),I 5 8] (.seq (aa [I 9 0,cp 10 9,b1 11 0] (fR 12 11 10 (.seq (.block 1 (aa [I 13 11,cx 14 1 9 11,aw 15 1 14,I 6 13,I 7 15] (.seq (aa [I 16 6,aT 17 .gtr 16 0] (aU 17 (.region [I 18 5,I 19 1,c8 (.apps 20 5 (.t 18) (.t 19)),I 5 20]) .skip)) (.region [I 21 5,I 22 7,c8 (.apps 23 5 (.t 21) (.t 22)),I 5 23])))) (.region [aT 24 .add 11 1,I 11 24])))) (.seq (.pub 5 (.region [I 25 5,bG 26 (.b2s (.t 25)),I 4 26])) .ret))))
def Q5:C:=(aa [bG 2 (.mov (.c (.str [])))] (aa [I 3 0,cG 4 115 3,I 2 4] .ret))
def sB:C:=(aa [dc 3 1] (aa [aH 4 0 1 3,aw 5 1 4] (.block 0 (aa [aT 7 .eql 5 0,I 6 7] (aU 6 (.region [I 8 0,⟨none,.call (some 9) (.c (.func 150 [])) [.t 8,(.c (.str [40,41]))]⟩]) (aa [aT 11 .eql 5 1,I 10 11] (aU 10 (.region [I 12 0,aH 13 1 1 3,aw 14 1 13,cG 15 56 14,bG 16 (.bin .add false (.c (.str [63])) (.t 15)),cq 17 150 12 16]) (aa [aT 19 .eql 5 2,I 18 19] (aU 18 (.region [I 20 0,aH 21 2 1 3,aw 22 1 21,cq 23 150 20 22]) (aa [aT 25 .eql 5 3,I 24 25] (aU 24 (.region [I 26 0,aH 27 1 1 3,aw 28 1 27,cG 29 56 28,cq 30 150 26 29]) (aa [aT 32 .eql 5 4,I 31 32] (aU 31 (aa [I 33 0,⟨none,.call (some 34) (.c (.func 150 [])) [.t 33,(.c (.str [40]))]⟩] (aa [I 35 0,aH 36 3 1 3,aw 37 1 36,im 38 4 37 0,bg 39 4 38,cq 40 102 35 39] (aa [aH 41 3 1 3,aw 42 1 41,im 43 4 42 1,bg 44 4 43,b7 4 3 44] (.seq (.block 1 (.loop (.seq (aa [aH 45 0 1 3,aw 46 1 45,aT 47 .eql 46 4] (aU 47 .skip (.exit 1))) (.block 2 (aa [I 48 0,⟨none,.call (some 49) (.c (.func 150 [])) [.t 48,(.c (.str [32]))]⟩] (aa [I 50 0,aH 51 3 1 3,aw 52 1 51,im 53 4 52 0,bg 54 4 53,cq 55 102 50 54] (.region [aH 56 3 1 3,aw 57 1 56,im 58 4 57 1,bg 59 4 58,b7 4 3 59]))))))) (.seq (aa [aH 60 0 1 3,aw 61 1 60,aT 62 .neq 61 0] (aU 62 (aa [I 63 0,⟨none,.call (some 64) (.c (.func 150 [])) [.t 63,(.c (.str [32,46,32]))]⟩] (.region [I 65 0,bg 66 4 3,cq 67 102 65 66])) .skip)) (.region [I 68 0,⟨none,.call (some 69) (.c (.func 150 [])) [.t 68,(.c (.str [41]))]⟩])))))) .skip)))))))))))))
def KN:C:=(aa [b1 4 0,bG 5 (.mov (.c (.junk)))] (aa [I 6 0,cG 7 180 6] (aa [I 8 0,I 9 0,fQ 10 9,aH 11 1 1 10,aw 12 1 11,I 13 1,c8 (.apps 14 5 (.t 12) (.t 13)),fQ 15 8,aH 16 1 1 15,b7 1 16 14] (aa [I 17 1,bG 18 (.slen (.t 17)),I 4 18,bG 5 (.mov (.c (.junk)))] .ret))))
def CC:List (Nat×dE):=[
 (3,⟨1,8,.int .i64,.int .i64 0⟩),
 (5,⟨1,1,.int .u8,.int .u8 0⟩),
 (9,⟨1,16,.str,.str []⟩),
 (44,⟨1,24,.slice 71,.slice 4 .nil []⟩),
 (69,⟨1,24,.slice 9,.slice 1 .nil []⟩),
 (71,⟨4,56,.struct [(0,3),(1,3),(2,9),(3,44)],.agg [.int .i64 0,.int .i64 0,.str [],.slice 4 .nil []]⟩),
 (131,⟨1,24,.slice 5,.slice 1 .nil []⟩),
 (135,⟨1,8,.other,.nilp⟩),
 (137,⟨2,32,.struct [(0,135),(1,131)],.agg [.nilp,.slice 1 .nil []]⟩)]
theorem p0:e6 ar CC=true:=an
theorem aln:b4 CC Q7 [.tmp 2] 1 Tryz.f47=true:=an
theorem alp:b4 CC Q9 [.tmp 4] 2 Tryz.f51=true:=an
theorem alk:b4 CC Q5 [.tmp 2] 1 Tryz.f56=true:=an
theorem uO:b4 CC sB [] 2 Tryz.f102=true:=an
theorem Yc:b4 CC KN [.tmp 4,.tmp 5] 2 Tryz.f150=true:=an
def br:ah:= .ptr (.obj 861) 0
def b8:cM:=⟨[(.obj 861,[.nilp,.slice 1 .nil []])],[]⟩
def p7:cM:=⟨[(.obj 861,[br,.slice 1 .nil []])],[]⟩
def bf(l:List bV):cM:=⟨[(.obj 861,[br,.row 1 (.obj 862) l.length])],[(.obj 862,⟨l.length,5,1,some (gx l)⟩)]⟩
theorem lO(S:aB->Prop)(l:List bV):aA S (gx l):=by
 induction l with
 |nil=>simp[gx,aA]
 |cons x r a=>simp only[gx,fA,aA,av]at a⊢;exact⟨trivial,a⟩
theorem F9:ek b8:=by unfold b8;exact ek.of ⟨by intro m;simp[Pv.look],by intro m;simp[Pv.look]⟩ (by simp[aA,av]) Ψ
theorem abi:ek p7:=by unfold p7;exact ek.of ⟨by intro m;simp[Pv.look],by intro m;simp[Pv.look]⟩ (by simp[aA,av,br,inObs,Pv.look]) Ψ
theorem kN(l:List bV):ek (bf l):=by unfold bf;refine ek.of ⟨by intro m;simp[Pv.look],by intro m;simp[Pv.look]⟩ (by simp[aA,av,br,inObs,Pv.look]) ?_;intro x b xs a;simp at b;subst b;simp at a;subst a;exact lO _ l
theorem abj(l a:List bV):Same (bf l) (bf a):=⟨fun k=>by simp only[bf,Pv.look];split<;>rfl,fun k=>by simp only[bf,Pv.look];split<;>rfl⟩
theorem wG:(ar.info? 137).map (·.size)=some 2:=an
theorem akn:liesAt ar ar.depth 137 (2/ar.cellsOf 137) 0 137 1=true:=an
set_option maxRecDepth 100000 in
theorem adh(b:Nat)(w:World)(c:w.cell? ⟨b,0,none⟩=some (.pointer (some ⟨b,0,none⟩))):
  Calls ar 180 #[.pointer (some ⟨b,0,none⟩)] w fun e w'=>e= .returned (.tuple #[])/\w'=w:=by
 obtain⟨j,a,_⟩:=gD.1 wG;go_enter Tryz.func180,Tryz.ntmps180;go_wp2;rw[Lib.run_neq_ptr_same w _ Tryz.underlying135 a];go_wp2;go_end0;exact⟨rfl,rfl⟩
set_option maxRecDepth 100000 in
theorem adg(b:Nat)(w:World)(g:w.cell? ⟨b,0,none⟩=some (.pointer none))(c:w.shape? b=some (137,2))(f:w.frozen? ⟨b,0,none⟩=false):
  Calls ar 180 #[.pointer (some ⟨b,0,none⟩)] w fun e w'=>e= .returned (.tuple #[])/\w'=w.setCell ⟨b,0,none⟩ (.pointer (some ⟨b,0,none⟩)):=by
 obtain⟨j,d,a⟩:=gD.1 wG;go_enter Tryz.func180,Tryz.ntmps180;go_wp2;rw[Lib.run_to_unsafe w ⟨b,0,none⟩ Tryz.underlying135 Tryz.underlying197 d (by rw[a];decide) c (Nat.zero_lt_succ 1)];simp only[Result.andThen];rw[Oper.upon_value];go_wp2;rw[run_callFunc_extern Tryz.func200 an an an (e:=awg) an];rw[Lib.run_noEscape];simp only[Result.andThen];rw[Oper.upon_value];go_wp2;rw[Lib.run_from_unsafe w ⟨b,0,none⟩ Tryz.underlying197 Tryz.underlying135 d c akn];simp only[Result.andThen];rw[Oper.upon_value];go_wp2;go_end0;exact⟨rfl,rfl⟩
theorem aaZ{ba:Array Value}(h:ba.size=1):ba= #[ba.getD 0 undef]:=by apply Array.ext (by simpa using h);intro i J U;simp at U;subst U;simp[Array.getD,h]
theorem ag8:bK ar 180 [br] b8 fun r p=>r= .tuple []/\p=p7:=by
 refine bK.sem F9.obj fun w Z ba gl m f=>?_;refine .inl ⟨⟨Tryz.f180,Tryz.func180,by kernel_rfl,by kernel_rfl⟩,?_⟩;obtain⟨bl,us,el,d,y,x,a,c⟩:=f.good.box (.obj 861) _ (show Pv.look (.obj 861) b8.b=some [.nilp,.slice 1 .nil []]from rfl);have s:=el.2 rfl;rw[rk (by rfl)]at a;rw[qC (by rfl)]at c;simp only[cW,aS]at c;obtain⟨v,z,J,⟨rfl,_⟩,u,t,rfl,⟨⟨_,o,_⟩,_⟩,rfl⟩:=c;obtain rfl:=o trivial;have l:us= #[.pointer none,.slice none 0 0]:=by rw[<-Array.toList_inj];simpa using J
 subst l;have h:=f.slot 0;simp only[j5,Pv.get,if_true,br,aS]at h;obtain⟨b,ae,i⟩:=h;rw[d]at ae;cases ae;have g:=aaZ (by simpa using m);rw[i]at g;clear i;subst g;have n:w.shape? bl=some (137,2):=by have:(137:Nat)=FO:=rfl;rw[this];simp[World.shape?,a,s]
 refine(adg bl w (by simp[World.cell?,a]) n (by simp[World.frozen?,a])).mono ?_;rintro e w' ⟨rfl,rfl⟩;have k:=(f.setBox (w':=w.setCell ⟨bl,0,none⟩ (.pointer (some ⟨bl,0,none⟩))) (cs':=[br,.slice 1 .nil []]) (show Pv.look (.obj 861) b8.b=some [.nilp,.slice 1 .nil []]from rfl) d (us:= #[.pointer (some ⟨bl,0,none⟩),.slice none 0 0]) (el:=el) rfl rfl rfl (fun j q=>RowKit.Below.heap_setCell _ _ _ _ (fun e=>q (by simp[e]))) (by simp[World.setCell])
  (by rw[rk (by rfl)];simp[World.setCell,Array.getElem?_modify,a]) (by rw[qC (by rfl)];simp only[cW];exact⟨_,_,rfl,⟨by simp only[br,aS];exact⟨bl,d,rfl⟩,rfl⟩,_,_,rfl,⟨by simp[aS,maxLen,lim];exact⟨none,0,⟨rfl,rfl⟩,Ω⟩,rfl⟩,rfl⟩)).1
 refine⟨_,_,_,_,.tuple [],p7,rfl,k,by simp[aS,cH],by simp[b8,p7,hb,inObs,Pv.look],by simp[b8,hb],?_,?_,abi.obj,by simp[av,aA],rfl,rfl⟩
 ·refine dN ?_;simp[b8,p7,cB,Pv.look,inObs,aA,av,br]
 ·refine dP ?_;simp[p7]
theorem ag9(l:List bV):bK ar 180 [br] (bf l) fun r q=>r= .tuple []/\q=bf l:=by
 refine bK.sem (kN l).obj fun w Z ba gl n d=>?_;refine .inl ⟨⟨Tryz.f180,Tryz.func180,by kernel_rfl,by kernel_rfl⟩,?_⟩;obtain⟨bl,us,el,j,y,x,i,a⟩:=d.good.box (.obj 861) _ (show Pv.look (.obj 861) (bf l).b=some [br,.row 1 (.obj 862) l.length]from rfl);rw[rk (by rfl)]at i;rw[qC (by rfl)]at a;simp only[cW,aS,br]at a;obtain⟨u,z,J,⟨⟨v,h,rfl⟩,_⟩,t,s,rfl,_,rfl⟩:=a;rw[j]at h;cases h;have g:=d.slot 0;simp only[j5,Pv.get,if_true,br,aS]at g;obtain⟨b,ae,m⟩:=g;rw[j]at ae;cases ae;have f:=aaZ (by simpa using n);rw[m]at f;clear m;subst f;have p:us[0]? =some (.pointer (some ⟨bl,0,none⟩)):=by rw[<-tN,J];rfl
 refine(adh bl w (by simp[World.cell?,i,p])).mono ?_;rintro e w' ⟨rfl,rfl⟩;refine⟨_,_,_,_,.tuple [],bf l,rfl,d,by simp[aS,cH],by simp[bf,hb,inObs,Pv.look],by simp[bf,hb,inObs,Pv.look],?_,?_,(kN l).obj,by simp[av,aA],rfl,rfl⟩
 ·refine dN ?_;simp[bf,Pv.look,inObs,aA,av,br]
 ·intro k o c;exact⟨c,.inr (by simp[c]),(kN l).ke k o c⟩
theorem ale(l:List bV)(o:l≠[]){ob:List aB}{st:bh}{d:aW Nat}{K:bh->Prop}(ae:Pv.look (.obj 861) st.b=some [br,.row 1 (.obj 862) l.length])(he:Pv.look (.obj 862) st.e=some ⟨l.length,5,1,some (gx l)⟩)
  (L:K ⟨eP d (.str l) st.t,st.b,bZ [(aB.obj 862,(⟨l.length,5,1,some (gx l)⟩:ec))] st.e,st.n,st.o⟩):CV ar ob 103 [br] st d K:=by
 intro C a w Z ba S i m P;refine .inl ⟨⟨Tryz.f103,Tryz.func103,by kernel_rfl,by kernel_rfl⟩,?_⟩;obtain⟨bl,us,el,p,aC,bj,n,c⟩:=i.good.box (.obj 861) _ ae;have Q:=el.2 rfl;rw[rk (by rfl)]at n;rw[qC (by rfl)]at c;simp only[cW,aS,br]at c;obtain⟨X,CI,J,⟨⟨cj,k,rfl⟩,_⟩,W,V,rfl,⟨⟨⟨g,cap,rfl⟩,G,n',u,b,Y,y⟩,_⟩,rfl⟩:=c;rw[p]at k;cases k;obtain⟨v,cs,q,f,bR,H⟩:=i.good.own (.obj 862) _ he;rw[q]at b;simp only[dv,hN]at b;obtain⟨rfl,rfl⟩:=b;obtain rfl:=y rfl;obtain⟨da,D,U⟩:=H _ rfl;obtain rfl:=Zo D;simp only at f;rcases f.2 with⟨h,_⟩|⟨fm,R,cur,O,_,aY,t,x,A,N⟩
 ·cases h
 cases O;have z:us= #[.pointer (some ⟨bl,0,none⟩),.slice (some ⟨g,0,none⟩) l.length cap]:=by rw[<-Array.toList_inj];simpa using J
 subst z;simp only[br,cH,aS]at m;obtain⟨fc,ws,M,⟨b5,j,rfl⟩,rfl⟩:=m;rw[p]at j;cases j;have s:ba= #[.pointer (some ⟨bl,0,none⟩)]:=by rw[<-Array.toList_inj];simpa using M
 rw[s];have B:(Tryz.lays169_ren.t 72:Nat)=FO:=an
 have r:(Tryz.lays169_ren.t 5:Nat)=5:=an
 have VC:l.length≠0:=by simpa using o
 refine(Go.Proofs.Any.Builder_String_ex Tryz.lays169 Tryz.builderE bl l w o _ g cap cur (by rw[B,<-Q];exact n) (by rw[r];exact f) (by rw[r];exact aY) t x A).mono ?_;rintro e w' ⟨rfl,rfl⟩;obtain⟨E,z2,z3,z4,z5⟩:=agO w.drew ⟨g,0,none⟩ l.length;have F:=i.dropRow (w':=w.drew.freeze ⟨g,0,none⟩ l.length) he rfl q rfl E z2 z3 z5 z4;exact⟨_,_,Z,rfl,L,F.put P (by simp only[aS];exact⟨trivial,G⟩)⟩
theorem bL.sem{f:FuncId}{fn:Func}(aG:ar.funcs[f]? =some fn)(ae:fn.body.isSome=true)(az:(fn.name== "runtime.NumGoroutine")=false){args:List ah}{r:ah}(aD:av (fun _=>et) r)
  (h:∀(w:World) (Z:aZ) (ba:Array Value),nQ w Z->(∀b o,Z.A b o->b<w.heap.size)->cH w Z args ba.toList->Calls ar f ba w fun e w'=> ∃v,e= .returned v/\(∀Z',(∀b o,Z.A b o->Z'.A b o)->aS w' Z' r v)/\w.grownBy w' none):bL ar f args r:=by
 refine bK.sem wc fun w Z ba gl jk od=>?_;have j1:cH w Z args ba.toList:=by
  have bH:args.length=ba.toList.length:=by simpa using jk.symm
  have:∀(l:List ah) (us:List Value),l.length=us.length->(∀i p,l[i]? =some p->aS w Z p (us.getD i undef))->cH w Z l us:=by
   intro l;induction l with
   |nil=>intro us h _;cases us<;>simp at h⊢;simp[cH]
   |cons p l bB=>
    intro us h hi;cases us with
    |nil=>simp at h
    |cons u us=>simp only[cH];exact⟨u,us,rfl,by simpa using hi 0 p rfl,bB us (by simpa using h) fun i q bz=>by simpa using hi (i+1) q (by simpa using bz)⟩
  refine this _ _ bH fun i p bJ=>?_;have ag:=od.slot i;have hi:=(fy.1 bJ).1;rw[He,if_pos Ω]at ag;have:args.getD i .junk=p:=by simp[List.getD,bJ]
  simp only[Nat.sub_zero,this]at ag;simpa[Array.getD_eq_getD_getElem?]using ag
 refine .inl ⟨⟨fn,aG,ae,az⟩,(h w Z ba gl od.good.alt j1).mono ?_⟩;rintro e w' ⟨v,rfl,aK,aY⟩;exact⟨v,_,_,Z,r,⟨[],[]⟩,rfl,od.grown aY,aK Z fun _ _ h=>h,trivial,trivial,fun k cs ad=>by simp[Pv.look]at ad,fun k cs ad=>by simp[Pv.look]at ad,wc,tl (fun _ h=>h.elim) _ aD,rfl,rfl⟩
theorem Wk{n:Int}(h:e3 n):(Lib.itoa n).length<=lim:=by unfold e3 at h;have:=Lib.itoa_length_le n Ω Ω;unfold lim;omega
theorem ahH(w:World)(k:Nat)(os:Array Obj):w.grownBy (Sort.grow (w.drewN k) os) none:=⟨rfl,rfl,rfl,Ψ,fun j a _=>Sort.heap_grow_old _ _ a⟩
theorem UM(i:Nat)(hi:i<20):(0,i,20,fun v=>v=pf .u64 ((10 ^ i:Nat):Int))∈A7:=by unfold A7;exact sr _ (iL.2 ⟨i,List.mem_range.2 hi,rfl⟩)
theorem apU{w:World}{Z:aZ}(h:nQ w Z):Lib.TabIs ar w "internal/strconv.uint64pow10" .u64 Lib.pow10Tab:=by
 have aY:ar.globalNamed "internal/strconv.uint64pow10" =some 0:=an
 obtain⟨_,_,el,fO⟩:=h _ (UM 0 Ω);unfold Lib.TabIs;simp only[World.var?,aY,k9];unfold Pv.shape at fO;simp only at fO;split at fO
 ·rename_i cur e9 fz hw;rw[hw];simp only[dv,hN]at fO;simp only[dv];apply Array.ext
  ·simp[fO.1,Lib.pow10Tab]
  ·intro i J U;obtain⟨_,⟨v,aK,bJ⟩,_⟩:=h _ (UM i Ω);simp only at aK bJ;subst bJ;have ax:cur[i]? =some (pf .u64 ((10 ^ i:Nat):Int)):=by simpa[World.cell?,hw]using aK
   rw[Array.getElem?_eq_getElem J]at ax;rw[fK ax];simp[Lib.pow10Tab]
 ·cases fO
theorem aqd(n:Int)(h:e3 n):bL ar 115 [.int .i64 n] (.str (Lib.itoa n)):=by
 refine bL.sem Tryz.func115 an an d9 fun w Z ba gl be a=>?_;simp only[cH,aS]at a;obtain⟨v,us,c,rfl,rfl⟩:=a;have b:ba= #[.int .i64 n]:=by rw[<-Array.toList_inj];simpa using c
 subst b;unfold e3 at h;refine(Any.strconv_Itoa Tryz.laysM171 n Ω Ω w (apU gl)).mono ?_;rintro e w' ⟨rfl,k,os,rfl⟩;exact⟨_,rfl,fun Z' _=>by simp only[aS];exact⟨trivial,Wk ol⟩,ahH w k os⟩
theorem abh:Same b8 p7:=⟨fun k=>by simp only[b8,p7,Pv.look];split<;>rfl,fun k=>rfl⟩
theorem cC.two{P:cz}{n:Nat}{args:List ah}{st:bh}{d:aW Nat}{K:bh->Prop}{s:cM}{Q:ah->cM->Prop}(f:bK P n args s Q)(b:ek s)(ae:∀k cs,Pv.look k s.b=some cs->Pv.look k st.b=some cs)(he:∀k o,Pv.look k s.e=some o->Pv.look k st.e=some o)
  (e:aA (inObs s) args) (h:∀r a,Q r a->((∀m,(Pv.look (.obj m) a.b).isSome->(Pv.look (.obj m) s.b).isSome\/ .obj m∉st.o)/\(∀m,(Pv.look (.obj m) a.e).isSome->(Pv.look (.obj m) s.e).isSome\/ .obj m∉st.o))/\K ⟨eP d r st.t,bZ s.b st.b++a.b,bZ s.e st.e++a.e,st.n,st.o++dh a⟩):cC P n args st d K:=
 .inl ⟨s,Q,fun k cs ax=>⟨ae k cs ax,.inl (by simp[ax]),b.kb k cs ax⟩,fun k o ak=>⟨he k o ak,.inr (by simp[ak]),b.ke k o ak⟩,b.obj,e,f,fun r a c=>h r a c⟩
theorem yz(a b:List bV):gx (a++b)=gx a++gx b:=by simp[gx]
theorem ag4(t:List bV)(aM:t≠[])(c:t.length<=lim):bK ar 150 [br,.str t] b8 fun r a=>r= .tuple [.int .i64 t.length,.junk]/\a=bf t:=by have b:=F9;simp only[b8]at b⊢;refine bK.mk mixed p0 Tryz.func150 Yc Ψ b.obj fun e d=>?_;unfold KN;simp[br];refine cC.ob ag8 F9 (by simp only[b8];exact aL) (by simp only[b8];exact aL) (by simp[inObs,Pv.look,b8,br,aA,av]) ?_;rintro r a ⟨rfl,rfl⟩;refine⟨abh,?_⟩;simp[bZ,b8,p7,br,aM,c];refine cO.new (bf t) (.inl rfl) (kN t) ge d6 d6 ?_;simp[cT,aX,a1,aV,bf,br,inObs,Pv.look,av,aA]
theorem ag5(l t:List bV)(e:(l++t).length<=lim):bK ar 150 [br,.str t] (bf l) fun r a=>r= .tuple [.int .i64 t.length,.junk]/\a=bf (l++t):=by
 have b:=kN l;have c:l.length+t.length<=lim:=by simpa using e
 have d:(gx l).length=l.length:=by simp[gx]
 simp only[bf]at b⊢;refine bK.mk mixed p0 Tryz.func150 Yc Ψ b.obj fun g f=>?_;unfold KN;simp[br];refine cC.ob (ag9 l) (kN l) d6 d6 (by simp[inObs,Pv.look,bf,br,aA,av]) ?_;rintro r a ⟨rfl,rfl⟩;refine⟨Same.refl _,?_⟩;simp[bZ,bf,br,c,d];refine cO.at (bf (l++t)) (.inl rfl) (kN _) (abj l (l++t)) d6 (by simp only[bf,br,yz];exact aL) ?_;simp[cT,aX,a1,aV,bf,br,inObs,Pv.look,av,aA]
theorem FU(n:Int)(h:e3 n):bL ar 56 [.int .i64 n] (.str (Lib.itoa n)):=by have k:=aqd n h;refine bs p0 Tryz.func56 alk fun a=>?_;unfold Q5;exact cn
def cd:aW (List bV)->cM
 |none=>b8
 |some l=>bf l
theorem Qd:∀o,ek (cd o)
 |none=>F9
 |some l=>kN l
theorem cC.bd{P:cz}{n:Nat}{args:List ah}{st:bh}{d:aW Nat}{K:bh->Prop}{o:aW (List bV)}{r:ah}{a:List bV}(i:bK P n args (cd o) fun b c=>b=r/\c=bf a)(ae:∀k cs,Pv.look k (cd o).b=some cs->Pv.look k st.b=some cs)(he:∀k p,Pv.look k (cd o).e=some p->Pv.look k st.e=some p)
  (g:aA (inObs (cd o)) args) (f:o=none->aB.obj 862∉st.o) (h:K ⟨eP d r st.t,bZ (cd o).b st.b++(bf a).b,bZ (cd o).e st.e++(bf a).e,st.n,st.o++[.obj 861,.obj 862]⟩):cC P n args st d K:=by
 refine cC.two i (Qd o) ae he g ?_;rintro b c ⟨rfl,rfl⟩;refine⟨⟨fun m hm=>.inl ?_,fun m hm=>?_⟩,h⟩
 ·simp only[bf,Pv.look]at hm;split at hm
  ·rename_i e;rw[<-e];cases o<;>simp[cd,b8,bf,Pv.look]
  ·cases hm
 ·simp only[bf,Pv.look]at hm;split at hm
  ·rename_i e;rw[<-e];cases o with
   |none=>exact .inr (f rfl)
   |some l=>exact .inl (by simp[cd,bf,Pv.look])
  ·cases hm
theorem kc(o:aW (List bV))(t:List bV)(aM:o=none->t≠[])(a:(o.getD []++t).length<=lim):bK ar 150 [br,.str t] (cd o) fun r b=>r= .tuple [.int .i64 t.length,.junk]/\b=bf (o.getD []++t):=by
 cases o with
 |none=>exact ag4 t (aM rfl) (by simpa using a)
 |some l=>exact ag5 l t a
theorem uy(n:Int):Lib.itoa n≠[]:=by
 unfold Lib.itoa;split
 ·simp
 ·exact Tx _
def oF(l:List bV)(u:T):bh:=⟨[(0,.ptr (.obj 861) 0),(3,.ptr (.loc 0) 0)],(bf l).b++[(.loc 0,cells u.e)],(bf l).e,1,[.obj 861,.obj 862]⟩
theorem ahD(n:Nat):∀t:T,t.size<=n->t.ok=true->∀o:aW (List bV),(o.getD []++cN t).length<=lim->bK ar 102 [br,t.e] (cd o) fun r M=>r= .tuple []/\M=bf (o.getD []++cN t):=by
 induction n with
 |zero=>intro t h;have:=t.size_pos;omega
 |succ n j=>
  intro t L z o c;have d:=Qd o;have q:(40:bV)=40:=rfl;cases t with
  |nil=>
   clear j;simp only[cN]at c⊢;cases o with
   |none=>simp only[cd,b8,bf,Option.getD]at d c⊢;refine bK.mk mixed p0 Tryz.func102 uO Ψ d.obj fun f e=>?_;unfold sB;clear f e;simp[br];(with_reducible repeat' first|refine al ?_|simp);refine cC.bd (o:=_) (kc (none) ([40,41]) (by simp[uy,q]) c) ci ci dg Ψ ?_;simp[bZ,cd,b8,bf,br];refine cO.new (bf ([]++([40,41]))) Ψ (kN _) ge d6 d6 ?_;simp[cT,aX,a1,aV,bf,br,inObs,Pv.look,av,aA]
   |some l=>simp only[cd,b8,bf,Option.getD]at d c⊢;refine bK.mk mixed p0 Tryz.func102 uO Ψ d.obj fun f e=>?_;unfold sB;clear f e;simp[br];(with_reducible repeat' first|refine al ?_|simp);refine cC.bd (o:=_) (kc (some l) ([40,41]) (by simp[uy,q]) c) ci ci dg Ψ ?_;simp[bZ,cd,b8,bf,br];refine cO.new (bf (l++([40,41]))) Ψ (kN _) ge d6 d6 ?_;simp[cT,aX,a1,aV,bf,br,inObs,Pv.look,av,aA]
  |var v=>
   clear j;have A:e3 v:=by simp[T.ok]at z;unfold e3;omega
   have p:=FU v A;have N:=Wk A;have K:(Lib.itoa v).length+1<=lim:=by have:=Lib.itoa_length_le v (by unfold e3 at A;omega) (by unfold e3 at A;omega);unfold lim;omega
   simp only[cN]at c⊢;cases o with
   |none=>simp only[cd,b8,bf,Option.getD]at d c⊢;refine bK.mk mixed p0 Tryz.func102 uO Ψ d.obj fun f e=>?_;unfold sB;clear f e;simp[br];(with_reducible repeat' first|refine al ?_|refine aI p ?_|refine aJ p ?_|simp[K]);refine cC.bd (o:=_) (kc (none) (63::Lib.itoa v) (by simp[uy,q]) c) ci ci dg Ψ ?_;simp[bZ,cd,b8,bf,br];refine cO.new (bf ([]++(63::Lib.itoa v))) Ψ (kN _) ge d6 d6 ?_;simp[cT,aX,a1,aV,bf,br,inObs,Pv.look,av,aA]
   |some l=>simp only[cd,b8,bf,Option.getD]at d c⊢;refine bK.mk mixed p0 Tryz.func102 uO Ψ d.obj fun f e=>?_;unfold sB;clear f e;simp[br];(with_reducible repeat' first|refine al ?_|refine aI p ?_|refine aJ p ?_|simp[K]);refine cC.bd (o:=_) (kc (some l) (63::Lib.itoa v) (by simp[uy,q]) c) ci ci dg Ψ ?_;simp[bZ,cd,b8,bf,br];refine cO.new (bf (l++(63::Lib.itoa v))) Ψ (kN _) ge d6 d6 ?_;simp[cT,aX,a1,aV,bf,br,inObs,Pv.look,av,aA]
  |sym s=>
   clear j;have q:s≠[]:=XM (by simpa[T.ok]using z);simp only[cN]at c⊢;cases o with
   |none=>simp only[cd,b8,bf,Option.getD]at d c⊢;refine bK.mk mixed p0 Tryz.func102 uO Ψ d.obj fun f e=>?_;unfold sB;clear f e;simp[br];(with_reducible repeat' first|refine al ?_|simp);refine cC.bd (o:=_) (kc (none) (s) (by simp[uy,q]) c) ci ci dg Ψ ?_;simp[bZ,cd,b8,bf,br];refine cO.new (bf ([]++(s))) Ψ (kN _) ge d6 d6 ?_;simp[cT,aX,a1,aV,bf,br,inObs,Pv.look,av,aA]
   |some l=>simp only[cd,b8,bf,Option.getD]at d c⊢;refine bK.mk mixed p0 Tryz.func102 uO Ψ d.obj fun f e=>?_;unfold sB;clear f e;simp[br];(with_reducible repeat' first|refine al ?_|simp);refine cC.bd (o:=_) (kc (some l) (s) (by simp[uy,q]) c) ci ci dg Ψ ?_;simp[bZ,cd,b8,bf,br];refine cO.new (bf (l++(s))) Ψ (kN _) ge d6 d6 ?_;simp[cT,aX,a1,aV,bf,br,inObs,Pv.look,av,aA]
  |num v=>
   clear j;have A:e3 v:=by simp[T.ok]at z;unfold e3;omega
   have p:=FU v A;simp only[cN]at c⊢;cases o with
   |none=>simp only[cd,b8,bf,Option.getD]at d c⊢;refine bK.mk mixed p0 Tryz.func102 uO Ψ d.obj fun f e=>?_;unfold sB;clear f e;simp[br];(with_reducible repeat' first|refine al ?_|refine aI p ?_|refine aJ p ?_|simp);refine cC.bd (o:=_) (kc (none) (Lib.itoa v) (by simp[uy,q]) c) ci ci dg Ψ ?_;simp[bZ,cd,b8,bf,br];refine cO.new (bf ([]++(Lib.itoa v))) Ψ (kN _) ge d6 d6 ?_;simp[cT,aX,a1,aV,bf,br,inObs,Pv.look,av,aA]
   |some l=>simp only[cd,b8,bf,Option.getD]at d c⊢;refine bK.mk mixed p0 Tryz.func102 uO Ψ d.obj fun f e=>?_;unfold sB;clear f e;simp[br];(with_reducible repeat' first|refine al ?_|refine aI p ?_|refine aJ p ?_|simp);refine cC.bd (o:=_) (kc (some l) (Lib.itoa v) (by simp[uy,q]) c) ci ci dg Ψ ?_;simp[bZ,cd,b8,bf,br];refine cO.new (bf (l++(Lib.itoa v))) Ψ (kN _) ge d6 d6 ?_;simp[cT,aX,a1,aV,bf,br,inObs,Pv.look,av,aA]
  |pair a b=>
   simp only[T.size]at L;simp only[T.ok,cD]at z;have G:=j a Ω z.1;have E:(o.getD []).length+(1+((cN a).length+(fs b).length))<=lim:=by simpa[cN,Nat.add_comm 1]using c
   simp only[cN]at c⊢;obtain⟨H,D⟩:∃H,H=o.getD []++40::(cN a++fs b):=⟨_,rfl⟩;rw[<-D]at c⊢;have O:=b.size_pos;cases o with
   |none=>
    have kw:=kc none [40] Ψ (by unfold lim;simp);have B:=G (some [40]) (by simp at E⊢;omega);simp only[cd,b8,bf,Option.getD]at d⊢;refine bK.mk mixed p0 Tryz.func102 uO Ψ d.obj fun f e=>?_;unfold sB;clear f e;simp[br];(with_reducible repeat' first|refine al ?_|simp);refine cC.bd (o:=_) (kw) ci ci dg Ψ ?_;simp[bZ,cd,b8,bf,br];(with_reducible repeat' first|refine al ?_|simp);refine cC.bd (o:=_) (B) ci ci dg Ψ ?_;simp[bZ,cd,b8,bf,br];(with_reducible repeat' first|refine al ?_|simp);refine mM (fun x:T×List bV=>oF x.2 x.1) (fun x=>x.1.size) (fun x=>x.1.ok=true/\x.1.size<=n/\x.2++fs x.1=H) (b,[]++40::cN a) (by simp[oF,bf,br];exact⟨by simp[fresh,aA,av,b0,inObs,Pv.look,lO],dN mn,dP mp,Ψ⟩) ⟨z.2,(by show b.size<=n;omega),by rw[D];simp⟩ ?_;rintro⟨u,acc⟩ ⟨g,k,F⟩ J;clear J kw B G D E;simp only at g k F;subst F;cases u with
    |pair x y=>
     simp only[T.size]at k;simp only[T.ok,cD]at g;have w:acc.length+(1+((cN x).length+(fs y).length))<=lim:=by simpa[fs,Nat.add_comm 1]using c
     have kw:=kc (some acc) [32] Ψ d7;have i:=j x Ω g.1 (some (acc++[32])) d7;simp[oF,bf,br];(with_reducible repeat' first|refine al ?_|simp);refine cC.bd (o:=_) (kw) ci ci dg Ψ ?_;simp[bZ,cd,b8,bf,br];(with_reducible repeat' first|refine al ?_|simp);refine cC.bd (o:=_) (i) ci ci dg Ψ ?_;simp[bZ,cd,b8,bf,br];(with_reducible repeat' first|refine al ?_|simp);refine bO.whl (y,acc++32::cN x) (by show y.size<1+x.size+y.size;omega) ⟨g.2,(by show y.size<=n;omega),by simp[fs]⟩ ?_;simp[oF,bf,br];exact⟨by simp[fresh,aA,av,b0,inObs,Pv.look,lO],dN mn,dP mp,Ψ⟩
    |nil=>have kw:=kc (some acc) [41] Ψ (by simpa[fs]using c);simp only[fs];simp[oF,bf,br];(with_reducible repeat' first|refine al ?_|simp);refine cC.bd (o:=_) (kw) ci ci dg Ψ ?_;simp[bZ,cd,b8,bf,br];refine cO.new (bf (acc++[41])) Ψ (kN _) ge d6 d6 ?_;simp[cT,aX,a1,aV,bf,br,inObs,Pv.look,av,aA]
    |var v=>
     have w:acc.length+(3+((cN (T.var v)).length+1))<=lim:=by simp[fs,cN]at c⊢;omega
     have kw:=kc (some acc) [32,46,32] Ψ d7;have i:=j (T.var v) k g (some (acc++[32,46,32])) d7;have m:=kc (some (acc++[32,46,32]++cN (T.var v))) [41] Ψ d7;have he:acc++fs (T.var v)=acc++[32,46,32]++cN (T.var v)++[41]:=by simp[fs,cN]
     rw[he];simp[oF,bf,br];(with_reducible repeat' first|refine al ?_|simp);refine cC.bd (o:=_) (kw) ci ci dg Ψ ?_;simp[bZ,cd,b8,bf,br];(with_reducible repeat' first|refine al ?_|simp);refine cC.bd (o:=_) (i) ci ci dg Ψ ?_;simp[bZ,cd,b8,bf,br];(with_reducible repeat' first|refine al ?_|simp);refine cC.bd (o:=_) (m) ci ci dg Ψ ?_;simp[bZ,cd,b8,bf,br];refine cO.new (bf (acc++[32,46,32]++cN (T.var v)++[41])) Ψ (kN _) ge d6 d6 ?_;simp[cT,aX,a1,aV,bf,br,inObs,Pv.look,av,aA]
    |sym v=>
     have w:acc.length+(3+((cN (T.sym v)).length+1))<=lim:=by simp[fs,cN]at c⊢;omega
     have kw:=kc (some acc) [32,46,32] Ψ d7;have i:=j (T.sym v) k g (some (acc++[32,46,32])) d7;have m:=kc (some (acc++[32,46,32]++cN (T.sym v))) [41] Ψ d7;have he:acc++fs (T.sym v)=acc++[32,46,32]++cN (T.sym v)++[41]:=by simp[fs,cN]
     rw[he];simp[oF,bf,br];(with_reducible repeat' first|refine al ?_|simp);refine cC.bd (o:=_) (kw) ci ci dg Ψ ?_;simp[bZ,cd,b8,bf,br];(with_reducible repeat' first|refine al ?_|simp);refine cC.bd (o:=_) (i) ci ci dg Ψ ?_;simp[bZ,cd,b8,bf,br];(with_reducible repeat' first|refine al ?_|simp);refine cC.bd (o:=_) (m) ci ci dg Ψ ?_;simp[bZ,cd,b8,bf,br];refine cO.new (bf (acc++[32,46,32]++cN (T.sym v)++[41])) Ψ (kN _) ge d6 d6 ?_;simp[cT,aX,a1,aV,bf,br,inObs,Pv.look,av,aA]
    |num v=>
     have w:acc.length+(3+((cN (T.num v)).length+1))<=lim:=by simp[fs,cN]at c⊢;omega
     have kw:=kc (some acc) [32,46,32] Ψ d7;have i:=j (T.num v) k g (some (acc++[32,46,32])) d7;have m:=kc (some (acc++[32,46,32]++cN (T.num v))) [41] Ψ d7;have he:acc++fs (T.num v)=acc++[32,46,32]++cN (T.num v)++[41]:=by simp[fs,cN]
     rw[he];simp[oF,bf,br];(with_reducible repeat' first|refine al ?_|simp);refine cC.bd (o:=_) (kw) ci ci dg Ψ ?_;simp[bZ,cd,b8,bf,br];(with_reducible repeat' first|refine al ?_|simp);refine cC.bd (o:=_) (i) ci ci dg Ψ ?_;simp[bZ,cd,b8,bf,br];(with_reducible repeat' first|refine al ?_|simp);refine cC.bd (o:=_) (m) ci ci dg Ψ ?_;simp[bZ,cd,b8,bf,br];refine cO.new (bf (acc++[32,46,32]++cN (T.num v)++[41])) Ψ (kN _) ge d6 d6 ?_;simp[cT,aX,a1,aV,bf,br,inObs,Pv.look,av,aA]
   |some l=>
    have kw:=kc (some l) [40] Ψ (by simp at E⊢;omega);have B:=G (some (l++[40])) (by simp at E⊢;omega);simp only[cd,b8,bf,Option.getD]at d⊢;refine bK.mk mixed p0 Tryz.func102 uO Ψ d.obj fun f e=>?_;unfold sB;clear f e;simp[br];(with_reducible repeat' first|refine al ?_|simp);refine cC.bd (o:=_) (kw) ci ci dg Ψ ?_;simp[bZ,cd,b8,bf,br];(with_reducible repeat' first|refine al ?_|simp);refine cC.bd (o:=_) (B) ci ci dg Ψ ?_;simp[bZ,cd,b8,bf,br];(with_reducible repeat' first|refine al ?_|simp);refine mM (fun x:T×List bV=>oF x.2 x.1) (fun x=>x.1.size) (fun x=>x.1.ok=true/\x.1.size<=n/\x.2++fs x.1=H) (b,l++40::cN a) (by simp[oF,bf,br];exact⟨by simp[fresh,aA,av,b0,inObs,Pv.look,lO],dN mn,dP mp,Ψ⟩) ⟨z.2,(by show b.size<=n;omega),by rw[D];simp⟩ ?_;rintro⟨u,acc⟩ ⟨g,k,F⟩ J;clear J kw B G D E;simp only at g k F;subst F;cases u with
    |pair x y=>
     simp only[T.size]at k;simp only[T.ok,cD]at g;have w:acc.length+(1+((cN x).length+(fs y).length))<=lim:=by simpa[fs,Nat.add_comm 1]using c
     have kw:=kc (some acc) [32] Ψ d7;have i:=j x Ω g.1 (some (acc++[32])) d7;simp[oF,bf,br];(with_reducible repeat' first|refine al ?_|simp);refine cC.bd (o:=_) (kw) ci ci dg Ψ ?_;simp[bZ,cd,b8,bf,br];(with_reducible repeat' first|refine al ?_|simp);refine cC.bd (o:=_) (i) ci ci dg Ψ ?_;simp[bZ,cd,b8,bf,br];(with_reducible repeat' first|refine al ?_|simp);refine bO.whl (y,acc++32::cN x) (by show y.size<1+x.size+y.size;omega) ⟨g.2,(by show y.size<=n;omega),by simp[fs]⟩ ?_;simp[oF,bf,br];exact⟨by simp[fresh,aA,av,b0,inObs,Pv.look,lO],dN mn,dP mp,Ψ⟩
    |nil=>have kw:=kc (some acc) [41] Ψ (by simpa[fs]using c);simp only[fs];simp[oF,bf,br];(with_reducible repeat' first|refine al ?_|simp);refine cC.bd (o:=_) (kw) ci ci dg Ψ ?_;simp[bZ,cd,b8,bf,br];refine cO.new (bf (acc++[41])) Ψ (kN _) ge d6 d6 ?_;simp[cT,aX,a1,aV,bf,br,inObs,Pv.look,av,aA]
    |var v=>
     have w:acc.length+(3+((cN (T.var v)).length+1))<=lim:=by simp[fs,cN]at c⊢;omega
     have kw:=kc (some acc) [32,46,32] Ψ d7;have i:=j (T.var v) k g (some (acc++[32,46,32])) d7;have m:=kc (some (acc++[32,46,32]++cN (T.var v))) [41] Ψ d7;have he:acc++fs (T.var v)=acc++[32,46,32]++cN (T.var v)++[41]:=by simp[fs,cN]
     rw[he];simp[oF,bf,br];(with_reducible repeat' first|refine al ?_|simp);refine cC.bd (o:=_) (kw) ci ci dg Ψ ?_;simp[bZ,cd,b8,bf,br];(with_reducible repeat' first|refine al ?_|simp);refine cC.bd (o:=_) (i) ci ci dg Ψ ?_;simp[bZ,cd,b8,bf,br];(with_reducible repeat' first|refine al ?_|simp);refine cC.bd (o:=_) (m) ci ci dg Ψ ?_;simp[bZ,cd,b8,bf,br];refine cO.new (bf (acc++[32,46,32]++cN (T.var v)++[41])) Ψ (kN _) ge d6 d6 ?_;simp[cT,aX,a1,aV,bf,br,inObs,Pv.look,av,aA]
    |sym v=>
     have w:acc.length+(3+((cN (T.sym v)).length+1))<=lim:=by simp[fs,cN]at c⊢;omega
     have kw:=kc (some acc) [32,46,32] Ψ d7;have i:=j (T.sym v) k g (some (acc++[32,46,32])) d7;have m:=kc (some (acc++[32,46,32]++cN (T.sym v))) [41] Ψ d7;have he:acc++fs (T.sym v)=acc++[32,46,32]++cN (T.sym v)++[41]:=by simp[fs,cN]
     rw[he];simp[oF,bf,br];(with_reducible repeat' first|refine al ?_|simp);refine cC.bd (o:=_) (kw) ci ci dg Ψ ?_;simp[bZ,cd,b8,bf,br];(with_reducible repeat' first|refine al ?_|simp);refine cC.bd (o:=_) (i) ci ci dg Ψ ?_;simp[bZ,cd,b8,bf,br];(with_reducible repeat' first|refine al ?_|simp);refine cC.bd (o:=_) (m) ci ci dg Ψ ?_;simp[bZ,cd,b8,bf,br];refine cO.new (bf (acc++[32,46,32]++cN (T.sym v)++[41])) Ψ (kN _) ge d6 d6 ?_;simp[cT,aX,a1,aV,bf,br,inObs,Pv.look,av,aA]
    |num v=>
     have w:acc.length+(3+((cN (T.num v)).length+1))<=lim:=by simp[fs,cN]at c⊢;omega
     have kw:=kc (some acc) [32,46,32] Ψ d7;have i:=j (T.num v) k g (some (acc++[32,46,32])) d7;have m:=kc (some (acc++[32,46,32]++cN (T.num v))) [41] Ψ d7;have he:acc++fs (T.num v)=acc++[32,46,32]++cN (T.num v)++[41]:=by simp[fs,cN]
     rw[he];simp[oF,bf,br];(with_reducible repeat' first|refine al ?_|simp);refine cC.bd (o:=_) (kw) ci ci dg Ψ ?_;simp[bZ,cd,b8,bf,br];(with_reducible repeat' first|refine al ?_|simp);refine cC.bd (o:=_) (i) ci ci dg Ψ ?_;simp[bZ,cd,b8,bf,br];(with_reducible repeat' first|refine al ?_|simp);refine cC.bd (o:=_) (m) ci ci dg Ψ ?_;simp[bZ,cd,b8,bf,br];refine cO.new (bf (acc++[32,46,32]++cN (T.num v)++[41])) Ψ (kN _) ge d6 d6 ?_;simp[cT,aX,a1,aV,bf,br,inObs,Pv.look,av,aA]
theorem aeA(t:T)(h:t.ok=true):cN t≠[]:=by
 cases t with
 |sym s=>simp only[cN];exact XM (by simpa[T.ok]using h)
 |num n=>simp only[cN];exact uy n
 |_=>simp[cN]
theorem aez{t:T}(h:t.fit=true):(cN t).length<=lim:=by
 have J:=AV t (G5 h);have U:t.size<=5000:=by unfold T.fit at h;simp at h;exact h.2
 unfold lim;omega
theorem aat(t:T)(h:t.fit=true):bL ar 47 [t.e] (.str (cN t)):=by have a:=aaB t;rw[h]at a;have kw:=ahD t.size t (eR _) (G5 h) none (by simpa using aez h);have b:=aeA t (G5 h);refine bs p0 Tryz.func47 aln fun c=>?_;unfold Q7;simp;((with_reducible repeat' first|refine al ?_|refine aI a ?_|refine aJ a ?_|simp|((first|apply bQ|apply bT|apply bS)<;>intro h<;>try simp at h))<;>(try exact cv));refine cC.bd (o:=none) kw ci ci dg Ψ ?_;simp[bZ,cd,b8,bf,br];refine ale (cN t) b (by simp[br,Pv.look]) hV ?_;simp;simp[bE,aX,a1,aV]
theorem QW:∀l:List bV,qf (gx l)=some l
 |[]=>rfl
 |c::l=>by have:=QW l;simp only[gx,fA,qf]at this⊢;rw[this];simp
def gm(l:List (List bV)):List ah:=l.map ah.str
@[simp]theorem aj6(S:aB->Prop)(l:List (List bV)):aA S (gm l)=True:=by
 apply eq_true;induction l with
 |nil=>simp[gm,aA]
 |cons x r a=>simp only[gm,fA,aA,av]at a⊢;exact⟨trivial,a⟩
@[simp]theorem avJ(l:List (List bV)):cK (gm l)=gm l:=by
 induction l with
 |nil=>rfl
 |cons x r a=>simp only[gm,fA,cK,de]at a⊢;rw[a]
@[simp]theorem av2(l:List (List bV)):(gm l).length=l.length:=by simp[gm]
theorem ZX{l:List (List bV)}{i:Nat}(h:i<l.length):∀a,(gm l)[i]'a= .str l[i]:=fun _=>by simp[gm]
theorem hI(S:aB->Prop):∀a b:List ah,aA S (a++b)=(aA S a/\aA S b)
 |[],b=>by simp[aA]
 |x::a,b=>by simp only[bX,aA,hI S a b,and_assoc]
theorem MS(b:List bV):∀(l:List (List bV)) (k:Nat),(gj b (l.take k)).length<=(gj b l).length
 |[],k=>by simp
 |[x],k=>by cases k<;>simp[gj]
 |x::y::r,0=>by simp[gj]
 |x::y::r,1=>by simp[gj]
 |x::y::r,k+2=>by have:=MS b (y::r) (k+1);simp only[List.take_succ_cons,gj,hq]at this⊢;omega
theorem aau(l:List (List bV))(b:List bV)(r:(gj b l).length<=lim):bL ar 51 [.slice 1 .no (gm l),.str b] (.str (gj b l)):=by
 refine bs p0 Tryz.func51 alp fun n=>?_;unfold Q9;have ae:l.length<=lim/\b.length<=lim:=by simpa[e1,eK,eV]using n
 clear n;simp;((with_reducible repeat' first|refine al ?_|simp|((first|apply bQ|apply bT|apply bS)<;>intro h<;>try simp at h))<;>(try exact cv));refine hk (fun i (acc:List bV)=>⟨[(1,.str b),(9,.slice 1 .no (gm l)),(10,.int .i64 l.length),(5,.row 1 (.loc 0) acc.length),(11,.int .i64 i)],[],[(.loc 0,⟨acc.length,5,1,some (gx acc)⟩)],1,[]⟩) l.length (fun i acc=>acc=gj b (l.take i)) [] (by simp[show gx []=[]from rfl];exact⟨by simp[fresh,aA,av,b0,inObs,Pv.look,lO],dN mn,dP mp,Ψ⟩) (by simp[gj]) (fun acc c _=>?_) (fun i acc hi c _=>?_)
 ·rw[gC (eR _)]at c;subst c;simp;(with_reducible repeat' first|refine al ?_|simp);simp[wO,wi,QW];simp[bE,aX,a1,aV]
 ·obtain⟨x,m⟩:∃x,l[i]? =some x:=⟨_,cl hi⟩;have d:∀h,(gm l)[i]'h= .str x:=fun h=>by rw[ZX hi,cl hi]at*;cases m;rfl
  have hle:=MS b l (i+1);have a:=Ws b l m;rw[a]at hle;have k:(gx acc).length=acc.length:=by simp[gx]
  have q:e3 ((i:Int)+1):=by unfold e3;have:=ae.1;unfold lim at this;omega
  by_cases f:i=0
  ·rw[if_pos f]at hle a;have j:¬0<i:=Ω
   have o:acc=[]:=by rw[c,f];simp[gj]
   have e:acc.length+x.length<=lim:=by rw[o];simp;omega
   simp[hi,d];(with_reducible repeat' first|refine al ?_|simp[hi,d,j,k,e]);refine bO.rng (acc++x) hi (by rw[o];exact a.symm) ?_;exact⟨by simp[fresh,aA,av,b0,inObs,Pv.look,lO,yz,hI],dN (by simp[fresh,aA,av,b0,inObs,Pv.look,lO,yz,hI]),dP (by simp[fresh,aA,av,dH,inObs,Pv.look,lO,yz,hI]),Ψ⟩
  ·rw[if_neg f]at hle a;have j:0<i:=Ω
   rw[<-c]at hle a;simp only[hq]at hle;have e:acc.length+b.length<=lim:=Ω
   have p:acc.length+b.length+x.length<=lim:=Ω
   have g:(gx acc++gx b).length=acc.length+b.length:=by simp[gx]
   simp[hi,d];(with_reducible repeat' first|refine al ?_|simp[hi,d,j,k,e,p,g]);refine bO.rng (acc++b++x) hi a.symm ?_;exact⟨by simp[fresh,aA,av,b0,inObs,Pv.look,lO,yz,Nat.add_assoc,hI],dN (by simp[fresh,aA,av,b0,inObs,Pv.look,lO,yz,Nat.add_assoc,hI]),dP (by simp[fresh,aA,av,dH,inObs,Pv.look,lO,yz,Nat.add_assoc,hI]),Ψ⟩
def AL:C:=(aa [dc 1 0,bG 2 (.mov (.c (.str [])))] (.seq (aa [aH 4 0 1 1,aw 5 1 4] (.block 0 (aa [aT 7 .eql 5 0,I 6 7] (aU 6 (aa [bG 2 (.mov (.c (.str [40,41])))] .ret) (aa [aT 9 .eql 5 1,I 8 9] (aU 8 (aa [aH 10 1 1 1,aw 11 1 10,cG 12 43 11,bG 13 (.bin .add false (.c (.str [63])) (.t 12)),I 2 13] .ret) (aa [aT 15 .eql 5 2,I 14 15] (aU 14 (aa [aH 16 2 1 1,aw 17 1 16,I 2 17] .ret) (aa [aT 19 .eql 5 3,I 18 19] (aU 18 (aa [aH 20 1 1 1,aw 21 1 20,cG 22 43 21,I 2 22] .ret) .skip)))))))))) (aa [aH 23 3 1 1,aw 24 1 23,im 25 4 24 0,bg 26 4 25,cG 27 39 26,bG 28 (.bin .add false (.c (.str [40])) (.t 27)),I 3 28] (.seq (aa [aH 29 3 1 1,aw 30 1 29,im 31 4 30 1,bg 32 4 31,b7 4 1 32] (.block 1 (.loop (.seq (aa [aH 33 0 1 1,aw 34 1 33,aT 35 .eql 34 4] (aU 35 .skip (.exit 1))) (.seq (.block 2 (.region [I 40 3,bG 41 (.bin .add false (.t 40) (.c (.str [32]))),aH 42 3 1 1,aw 43 1 42,im 44 4 43 0,bg 45 4 44,cG 46 39 45,bp 47 .add 41 46,I 3 47])) (.region [aH 36 3 1 1,aw 37 1 36,im 38 4 37 1,bg 39 4 38,b7 4 1 39])))))) (.seq (aa [aH 48 0 1 1,aw 49 1 48,aT 50 .neq 49 0] (aU 50 (.region [I 51 3,bG 52 (.bin .add false (.t 51) (.c (.str [32,46,32]))),bg 53 4 1,cG 54 39 53,bp 55 .add 52 54,I 3 55]) .skip)) (aa [I 56 3,bG 57 (.bin .add false (.t 56) (.c (.str [41]))),I 2 57] .ret))))))
def S5:C:=(aa [fk 0 1] (aa [c8 (.bsl 1 1 9 [(.c (.str [116,114,117,101])),(.c (.str [102,97,105,108])),(.c (.str [61])),(.c (.str [47,61])),(.c (.str [115,121,109,98,111,108])),(.c (.str [110,117,109,98,101,114])),(.c (.str [97,98,115,101,110,116])),(.c (.str [97,110,100])),(.c (.str [111,114])),(.c (.str [])),(.c (.str [110,111,116]))]),I 0 1] .ret))
def GC:C:=(aa [bG 2 (.mov (.c (.str [])))] (.seq (aa [I 4 0,aT 5 .lss 4 0] (aU 5 (.seq (aa [I 6 0,aT 7 .quo 6 10,aT 8 .eql 7 0] (aU 8 (aa [I 9 0,bG 10 (.bin .sub false (gi 48) (.t 9)),bG 11 (.conv .u8 (.t 10)),eD 12 1 5 [.t 11],bG 13 (.b2s (.t 12)),bG 14 (.bin .add false (.c (.str [45])) (.t 13)),I 2 14] .ret) .skip)) (.seq (.drawn true 44 [I 15 0,aT 16 .quo 15 10,cG 17 43 16,I 18 0,aT 19 .rem 18 10,bG 20 (.bin .sub false (gi 48) (.t 19)),bG 21 (.conv .u8 (.t 20)),eD 22 1 5 [.t 21],bG 23 (.b2s (.t 22)),bp 24 .add 17 23,I 2 24]) .ret)) .skip)) (aa [bG 3 (.mov (.c (.str [])))] (.seq (.block 0 (.loop (.seq (aa [I 25 0,aT 26 .gtr 25 9] (aU 26 .skip (.exit 0))) (.block 1 (aa [I 27 0,aT 28 .rem 27 10,bG 29 (.bin .add false (gi 48) (.t 28)),bG 30 (.conv .u8 (.t 29)),eD 31 1 5 [.t 30],bG 32 (.b2s (.t 31)),I 33 3,bp 34 .add 32 33,I 3 34] (.region [I 35 0,aT 36 .quo 35 10,I 0 36])))))) (aa [I 37 0,bG 38 (.bin .add false (gi 48) (.t 37)),bG 39 (.conv .u8 (.t 38)),eD 40 1 5 [.t 39],bG 41 (.b2s (.t 40)),I 42 3,bp 43 .add 41 42,I 2 43] .ret)))))
def SB:C:=(aa [bG 4 (.mov (.c (.str [])))] (aa [bG 5 (.mov (.c (.str [])))] (.seq (aa [I 8 0,cp 9 8,b1 10 0] (fR 11 10 9 (.seq (.block 1 (aa [I 12 10,cx 13 1 8 10,aw 14 1 13,I 6 12,I 7 14] (.seq (aa [I 15 6,aT 16 .gtr 15 0] (aU 16 (.region [I 17 5,I 18 1,bp 19 .add 17 18,I 5 19]) .skip)) (.region [I 20 5,I 21 7,bp 22 .add 20 21,I 5 22])))) (.region [aT 23 .add 10 1,I 10 23])))) (aa [I 24 5,I 4 24] .ret))))
def Sz:C:=(aa [bG 2 (.mov (.c (.str [])))] (.seq (aa [I 6 0,cG 7 70 6,cJ 8 7] (aU 8 (aa [bG 2 (.mov (.c (.str [])))] .ret) .skip)) (aa [eD 9 1 9 [],I 3 9] (.seq (aa [I 10 0,cp 11 10,b1 12 0] (fR 13 12 11 (.seq (.block 1 (aa [cx 14 5 10 12,bg 15 5 14,eg 5 ko,b7 5 5 15] (.drawn true 29 [I 16 3,aH 17 0 1 5,aw 18 1 17,cG 19 43 18,bG 20 (.bin .add false (.c (.str [63])) (.t 19)),h9 21 1 4 5,bg 22 4 21,cG 23 39 22,eD 24 1 9 [.t 20,.t 23],hW 25 1 9 16 24,I 3 25]))) (.region [aT 26 .add 12 1,I 12 26])))) (aa [I 27 3,⟨none,.call (some 28) (.c (.func 44 [])) [.t 27,(.c (.str [32]))]⟩,I 2 28] .ret)))))
def CD:List (Nat×dE):=[
 (3,⟨1,8,.int .i64,.int .i64 0⟩),
 (5,⟨1,1,.int .u8,.int .u8 0⟩),
 (9,⟨1,16,.str,.str []⟩),
 (30,⟨1,24,.slice 74,.slice 5 .nil []⟩),
 (44,⟨1,24,.slice 71,.slice 4 .nil []⟩),
 (69,⟨1,24,.slice 9,.slice 1 .nil []⟩),
 (71,⟨4,56,.struct [(0,3),(1,3),(2,9),(3,44)],.agg [.int .i64 0,.int .i64 0,.str [],.slice 4 .nil []]⟩),
 (74,⟨5,64,.struct [(0,3),(1,71)],.agg [.int .i64 0,.int .i64 0,.int .i64 0,.str [],.slice 4 .nil []]⟩),
 (131,⟨1,24,.slice 5,.slice 1 .nil []⟩)]
theorem tJ:e6 ar CD=true:=an
theorem E7:b4 CD AL [.tmp 2] 1 Tryz.f39=true:=an
theorem ang:b4 CD S5 [.tmp 0] 0 Tryz.f42=true:=an
theorem N3:b4 CD GC [.tmp 2] 1 Tryz.f43=true:=an
theorem amO:b4 CD SB [.tmp 4] 2 Tryz.f44=true:=an
theorem amM:b4 CD Sz [.tmp 2] 1 Tryz.f77=true:=an
theorem JR(d:Nat)(h:d<10):IntKind.u8.wrap (48+(d:Int))=((48+d:Nat):Int):=by rcases(by omega:d=0\/d=1\/d=2\/d=3\/d=4\/d=5\/d=6\/d=7\/d=8\/d=9)with rfl|rfl|rfl|rfl|rfl|rfl|rfl|rfl|rfl|rfl<;>rfl
theorem TA(d:Nat):sw (48+(d:Int)).toNat=48+sw d:=by rw[show(48+(d:Int)).toNat=48+d by omega];simp
theorem Tz(d:Nat)(h:d<10):sw (IntKind.u8.wrap (48+(d:Int))).toNat=48+sw d:=by rw[JR d h,Int.toNat_natCast];simp
theorem Ty(m:Nat)(h:m<18446744073709551616):(Lib.decDigits m).length<=25:=by
 have:∀(k:Nat) (m:Nat),m<10 ^ (k+1)->(Lib.decDigits m).length<=k+1:=by
  intro k;induction k with
  |zero=>intro m hm;rw[yG (by simpa using hm)];simp
  |succ k a=>
   intro m hm;by_cases h:m<10
   ·rw[yG h];simp
   ·rw[Dl Ω,hq];have:=a (m/10) (by rw[Nat.pow_succ]at hm;omega);simp;omega
 exact this 24 m Ω
theorem ao3(m:Nat)(h:m<=9223372036854775807):bL ar 43 [.int .i64 m] (.str (Lib.decDigits m)):=by
 have n:¬(m:Int)<0:=Ω
 have c:=Ty m Ω;generalize bq:Lib.decDigits m=R at c;refine bs tJ Tryz.func43 N3 fun q=>?_;unfold GC;clear q;simp;(with_reducible repeat' first|refine al ?_|simp[n]);refine mM (fun(x:Nat×List bV)=>⟨[(0,.int .i64 x.1),(3,.str x.2)],[],[],0,[]⟩) (fun x=>x.1) (fun x=>x.1<=9223372036854775807/\Lib.decDigits x.1++x.2=R) (m,[]) (by simp;exact b6) ⟨h,by simp[bq]⟩ ?_;rintro⟨j,o⟩ ⟨J,U⟩ _;simp only at J U;have r:o.length<=25:=by rw[<-U]at c;simp at c;omega
 have g:1+o.length<=lim:=by unfold lim;omega
 have i:o.length+1<=lim:=by unfold lim;omega
 by_cases k:9<j
 ·have p:(j:Int).tdiv 10=(j/10:Nat):=by rw[Int.tdiv_eq_ediv_of_nonneg Ω];omega
  have hm:(j:Int).tmod 10=(j%10:Nat):=by rw[Int.tmod_eq_emod_of_nonneg Ω];omega
  have a:=JR (j%10) Ω;have b:e3 (48+((j%10:Nat):Int)):=by unfold e3;omega
  have hw:oz.wrap ((j/10:Nat):Int)=((j/10:Nat):Int):=lT _ Ω;have l:oz.wrap ((j%10:Nat):Int)=((j%10:Nat):Int):=lT _ Ω;have f:oz.wrap ((j:Int)/10)=(j:Int)/10:=lT _ Ω;have e:sw (IntKind.u8.wrap (48+(j:Int)%10)).toNat=48+sw (j%10):=by have:=Tz (j%10) Ω;rwa[Int.natCast_emod]at this
  have d:(9:Int)<j:=Ω
  rw[Dl Ω]at U;simp[d,k];(with_reducible repeat' first|refine al ?_|simp[p,hm,a,b,hw,l,g,i]);refine bO.whl (j/10,sw (48+j%10)::o) d7 ⟨by simp;omega,by rw[<-U];simp⟩ ⟨by simp[fresh,aA,av,b0,inObs,Pv.look,f,e],dN (by simp[fresh,aA,av,b0,inObs,Pv.look,f,e]),dP (by simp[fresh,aA,av,dH,inObs,Pv.look,f,e]),Ψ⟩
 ·have d:¬(9:Int)<j:=Ω
  have a:=JR j Ω;have b:e3 (48+(j:Int)):=by unfold e3;omega
  rw[yG Ω]at U;subst U;simp[d,k];(with_reducible repeat' first|refine al ?_|simp[a,b,g,i]);simp[bE,aX,a1,aV];exact TA j
theorem ao2:∀m:Nat,1<=m->m<=9223372036854775808->bL ar 43 [.int .i64 (-(m:Int))] (.str (45::Lib.decDigits m)):=by
 intro m;induction m using Nat.strongRecOn with
 |_ m j=>
 intro J U;have i:0<m:=Ω
 have c:=Ty m Ω;have f:(-(m:Int)).tdiv 10= -((m/10:Nat):Int):=by rw[Int.neg_tdiv,Int.tdiv_eq_ediv_of_nonneg Ω];omega
 have hm:(-(m:Int)).tmod 10= -((m%10:Nat):Int):=by rw[Int.neg_tmod,Int.tmod_eq_emod_of_nonneg Ω];omega
 have hw:oz.wrap (-((m/10:Nat):Int))= -((m/10:Nat):Int):=lT _ Ω;have l:oz.wrap (-((m%10:Nat):Int))= -((m%10:Nat):Int):=lT _ Ω;by_cases k:m<10
 ·have o:m/10=0:=Ω
  have a:=JR m k;have b:e3 (48+(m:Int)):=by unfold e3;omega
  have p:(-(m:Int)).tdiv 10=0:=by rw[f,o];rfl
  have q:oz.wrap 0=0:=rfl;have d:(48:Int)- -(m:Int)=48+m:=Ω
  rw[yG k];refine bs tJ Tryz.func43 N3 fun g=>?_;unfold GC;clear g;simp;(with_reducible repeat' first|refine al ?_|simp[i,p,q,d,a,b]);simp[bE,aX,a1,aV];exact TA m
 ·have be:(-(m:Int)).tdiv 10= -((m:Int)/10):=by rw[f];simp
  have hB:(-(m:Int)).tmod 10= -((m:Int)%10):=by rw[hm];simp
  have s:oz.wrap (-((m:Int)/10))= -((m:Int)/10):=lT _ Ω;have r:oz.wrap (-((m:Int)%10))= -((m:Int)%10):=lT _ Ω;have e:((-((m:Int)/10))==0)=false:=beq_eq_false_iff_ne.2 Ω;have h:=j (m/10) Ω Ω Ω;rw[Int.natCast_ediv]at h;have a:sw (IntKind.u8.wrap (48+(m:Int)%10)).toNat=48+sw (m%10):=by have:=Tz (m%10) Ω;rwa[Int.natCast_emod]at this
  have b:e3 (48+(m:Int)%10):=by unfold e3;omega
  have d:(48:Int)- -((m:Int)%10)=48+(m:Int)%10:=Ω
  rw[Dl Ω]at c⊢;simp at c;have n:(Lib.decDigits (m/10)).length+1+1<=lim:=by unfold lim;omega
  clear f hm hw l j c;refine bs tJ Tryz.func43 N3 fun g=>?_;unfold GC;clear g;simp;(with_reducible repeat' first|refine al ?_|refine aI h ?_|refine aJ h ?_|simp[i,be,hB,s,r,e,d,a,b,n]);simp[bE,aX,a1,aV]
theorem CM(n:Int)(h:e3 n):bL ar 43 [.int .i64 n] (.str (Lib.itoa n)):=by
 unfold e3 at h;unfold Lib.itoa;by_cases a:n<0
 ·rw[if_pos a];have:=ao2 n.natAbs Ω Ω;rwa[show-(n.natAbs:Int)=n by omega]at this
 ·rw[if_neg a];have:=ao3 n.toNat Ω;rwa[show(n.toNat:Int)=n by omega]at this
theorem aaT(l:List (List bV))(b:List bV)(p:(gj b l).length<=lim):bL ar 44 [.slice 1 .no (gm l),.str b] (.str (gj b l)):=by
 refine bs tJ Tryz.func44 amO fun k=>?_;unfold SB;have ae:l.length<=lim/\b.length<=lim:=by simpa[e1,eK,eV]using k
 clear k;simp;(with_reducible repeat' first|refine al ?_|simp);refine hk (fun i (acc:List bV)=>⟨[(1,.str b),(5,.str acc),(8,.slice 1 .no (gm l)),(9,.int .i64 l.length),(10,.int .i64 i)],[],[],0,[]⟩) l.length (fun i acc=>acc=gj b (l.take i)) [] (by simp;exact b6) (by simp[gj]) (fun acc c _=>?_) (fun i acc hi c _=>?_)
 ·rw[p5]at c;subst c;exact cn
 ·obtain⟨x,g⟩:∃x,l[i]? =some x:=⟨_,cl hi⟩;have d:∀h,((gm l)[i]'h)= .str x:=fun h=>by rw[ZX hi];rw[cl hi]at g;rw[fK g]
  have j:e3 ((i:Int)+1):=by unfold e3;unfold lim at ae;omega
  have hle:=MS b l (i+1);have a:=Ws b l g;by_cases f:i=0
  ·rw[if_pos f]at a;have o:acc=[]:=by rw[c,f];simp[gj]
   have aY:¬0<i:=Ω
   have e:x.length<=lim:=by rw[a]at hle;omega
   subst o;simp[hi,d];(with_reducible repeat' first|refine al ?_|simp[hi,d,aY,e,j]);refine bO.rng x hi a.symm b6
  ·rw[if_neg f,<-c]at a;have aY:0<i:=Ω
   rw[a]at hle;simp only[hq]at hle;have e:acc.length+b.length<=lim:=Ω
   have n:acc.length+b.length+x.length<=lim:=Ω
   have m:acc.length+(b.length+x.length)<=lim:=Ω
   simp[hi,d];(with_reducible repeat' first|refine al ?_|simp[hi,d,aY,e,n,m,j]);refine bO.rng (acc++b++x) hi a.symm (by simp only[List.append_assoc];exact b6)
def wT(x:List bV×T):bh:=⟨[(1,.ptr (.loc 0) 0),(3,.str x.1)],[(.loc 0,cells x.2.e)],[],1,[]⟩
theorem aqD:∀(n:Nat) (t:T),t.size<=n->t.ok=true->(cN t).length<=lim->bL ar 39 [t.e] (.str (cN t)):=by
 intro n;induction n with
 |zero=>intro t aM;cases t<;>simp[T.size]at aM
 |succ n o=>
 intro t aM B j;cases t with
 |nil=>refine bs tJ Tryz.func39 E7 fun d=>?_;unfold AL;clear d;simp;(with_reducible repeat' first|refine al ?_|simp);simp[bE,aX,a1,aV];rfl
 |var m=>
  have K:0<=m/\m<=100000:=by simpa[T.ok]using B
  have L:=CM m ol;have H:=j;simp only[cN,jc]at H⊢;have f:1+(Lib.itoa m).length<=lim:=Ω
  refine bs tJ Tryz.func39 E7 fun d=>?_;unfold AL;clear d;exact cn
 |sym s=>refine bs tJ Tryz.func39 E7 fun d=>?_;unfold AL;clear d;simp;(with_reducible repeat' first|refine al ?_|simp);simp[bE,aX,a1,aV];rfl
 |num m=>
  have K: -1000000000<=m/\m<=1000000000:=by simpa[T.ok]using B
  have L:=CM m ol;simp only[cN];refine bs tJ Tryz.func39 E7 fun d=>?_;unfold AL;clear d;exact cn
 |pair a b=>
  simp only[T.size]at aM;have G:a.ok=true/\b.ok=true:=by simpa[T.ok]using B
  have he:cN (.pair a b)=(40::cN a)++fs b:=by simp[cN]
  generalize hw:cN (.pair a b)=W at j he⊢;have z:(40::cN a).length<=lim:=by rw[he]at j;simp only[hq]at j;omega
  have A:=o a Ω G.1 (by simp at z;omega);simp only[jc]at z;have E:1+(cN a).length<=lim:=Ω
  refine bs tJ Tryz.func39 E7 fun d=>?_;unfold AL;clear d;simp;(with_reducible repeat' first|refine al ?_|refine aI A ?_|refine aJ A ?_|simp[z,E]);refine mM wT (fun x=>x.2.size) (fun x=>x.1++fs x.2=W/\x.2.size<=n/\x.2.ok=true) (40::cN a,b) (by simp[wT];exact b6) ⟨by simpa using he.symm,by simp;omega,G.2⟩ ?_;rintro⟨s,u⟩ ⟨J,U,p⟩ _;simp only at J U p;have l:s.length+(fs u).length<=lim:=by rw[<-J]at j;simpa using j
  subst J;clear hw he A z E;cases u with
  |pair x y=>
   simp only[T.size]at U;have F:x.ok=true/\y.ok=true:=by simpa[T.ok]using p
   simp only[fs,jc,hq]at l;have c:=o x Ω F.1 Ω;have f:s.length+1<=lim:=Ω
   have i:s.length+1+(cN x).length<=lim:=Ω
   have h:s.length+(1+(cN x).length)<=lim:=Ω
   have g:s.length+((cN x).length+1)<=lim:=Ω
   simp[wT];(with_reducible repeat' first|refine al ?_|refine aI c ?_|refine aJ c ?_|simp[f,i,h,g]);refine bO.whl (s++32::cN x,y) (by simp[T.size];omega) ⟨by simp[fs],by simp;omega,F.2⟩ (by simp[wT];exact b6)
  |nil=>simp only[fs,jc,qM]at l⊢;simp[wT];exact cn
  |var m=>
   have e:fs (T.var m)=32::46::32::(cN (T.var m)++[41]):=by simp[fs,cN]
   have q:(fs (T.var m)).length=(cN (T.var m)).length+4:=by rw[e];simp
   rw[q]at l;have c:=o _ U p Ω;rw[e];have f:s.length+3<=lim:=Ω
   have i:s.length+3+(cN (T.var m)).length<=lim:=Ω
   have h:s.length+((cN (T.var m)).length+3)<=lim:=Ω
   have g:s.length+((cN (T.var m)).length+3)+1<=lim:=Ω
   have k:s.length+3+(cN (T.var m)).length+1<=lim:=Ω
   have v:s.length+((cN (T.var m)).length+1+1+1)<=lim:=Ω
   have r:s.length+((cN (T.var m)).length+1+1+1)+1<=lim:=Ω
   generalize cN (T.var m)=w at c f i h g k v r⊢;simp[wT];have D:=c;exact cn
  |sym m=>
   have e:fs (T.sym m)=32::46::32::(cN (T.sym m)++[41]):=by simp[fs,cN]
   have q:(fs (T.sym m)).length=(cN (T.sym m)).length+4:=by rw[e];simp
   rw[q]at l;have c:=o _ U p Ω;rw[e];have f:s.length+3<=lim:=Ω
   have i:s.length+3+(cN (T.sym m)).length<=lim:=Ω
   have h:s.length+((cN (T.sym m)).length+3)<=lim:=Ω
   have g:s.length+((cN (T.sym m)).length+3)+1<=lim:=Ω
   have k:s.length+3+(cN (T.sym m)).length+1<=lim:=Ω
   have v:s.length+((cN (T.sym m)).length+1+1+1)<=lim:=Ω
   have r:s.length+((cN (T.sym m)).length+1+1+1)+1<=lim:=Ω
   generalize cN (T.sym m)=w at c f i h g k v r⊢;simp[wT];have D:=c;exact cn
  |num m=>
   have e:fs (T.num m)=32::46::32::(cN (T.num m)++[41]):=by simp[fs,cN]
   have q:(fs (T.num m)).length=(cN (T.num m)).length+4:=by rw[e];simp
   rw[q]at l;have c:=o _ U p Ω;rw[e];have f:s.length+3<=lim:=Ω
   have i:s.length+3+(cN (T.num m)).length<=lim:=Ω
   have h:s.length+((cN (T.num m)).length+3)<=lim:=Ω
   have g:s.length+((cN (T.num m)).length+3)+1<=lim:=Ω
   have k:s.length+3+(cN (T.num m)).length+1<=lim:=Ω
   have v:s.length+((cN (T.num m)).length+1+1+1)<=lim:=Ω
   have r:s.length+((cN (T.num m)).length+1+1+1)+1<=lim:=Ω
   generalize cN (T.num m)=w at c f i h g k v r⊢;simp[wT];have D:=c;exact cn
def Q6:C:=(aa [bG 2 (.mov (.c (.str [])))] (.seq (aa [I 6 0,cG 7 82 6,cJ 8 7] (aU 8 (aa [bG 2 (.mov (.c (.str [])))] .ret) .skip)) (aa [eD 9 1 9 [],I 3 9] (.seq (aa [I 10 0,cp 11 10,b1 12 0] (fR 13 12 11 (.seq (.block 1 (aa [cx 14 5 10 12,bg 15 5 14,eg 5 ko,b7 5 5 15] (.drawn true 29 [I 16 3,aH 17 0 1 5,aw 18 1 17,cG 19 50 18,cG 20 47 19,h9 21 1 4 5,bg 22 4 21,cG 23 47 22,eD 24 1 9 [.t 20,.t 23],hW 25 1 9 16 24,I 3 25]))) (.region [aT 26 .add 12 1,I 12 26])))) (aa [I 27 3,⟨none,.call (some 28) (.c (.func 51 [])) [.t 27,(.c (.str [32]))]⟩,I 2 28] .ret)))))
def aak:List (Nat×dE):=[
 (3,⟨1,8,.int .i64,.int .i64 0⟩),
 (9,⟨1,16,.str,.str []⟩),
 (30,⟨1,24,.slice 74,.slice 5 .nil []⟩),
 (69,⟨1,24,.slice 9,.slice 1 .nil []⟩),
 (71,⟨4,56,.struct [(0,3),(1,3),(2,9),(3,44)],.agg [.int .i64 0,.int .i64 0,.str [],.slice 4 .nil []]⟩),
 (74,⟨5,64,.struct [(0,3),(1,71)],.agg [.int .i64 0,.int .i64 0,.int .i64 0,.str [],.slice 4 .nil []]⟩)]
theorem ap1:e6 ar aak=true:=an
theorem alm:b4 aak Q6 [.tmp 2] 1 Tryz.f88=true:=an
def KK:C:=(aa [dc 1 0,bG 2 (.mov (.c (.str [])))] (.seq (aa [bg 3 5 1,cG 4 26 3,cJ 5 4] (aU 5 (aa [bG 2 (.mov (.c (.str [])))] .ret) .skip)) (aa [bg 6 5 1,cG 7 27 6,I 2 7] .ret)))
def Kr:C:=(aa [dc 1 0,bG 2 (.mov (.c (.str [])))] (.seq (aa [bg 3 5 1,cG 4 32 3,cJ 5 4] (aU 5 (aa [bG 2 (.mov (.c (.str [])))] .ret) .skip)) (aa [bg 6 5 1,cG 7 33 6,I 2 7] .ret)))
def S7:C:=(aa [dc 1 0,bG 2 (.mov (.c (.str [])))] (aa [eD 12 1 9 [],I 3 12] (.seq (aa [aH 13 2 1 1,aw 14 1 13,cp 15 14,b1 16 0] (fR 17 16 15 (.seq (.block 1 (aa [cx 18 1 14 16,aw 19 1 18,I 5 19] (.region [I 20 3,I 21 5,cG 22 77 21,bG 23 (.bin .add false (.c (.str [40])) (.t 22)),bG 24 (.bin .add false (.t 23) (.c (.str [41]))),eD 25 1 9 [.t 24],hW 26 1 9 20 25,I 3 26]))) (.region [aT 27 .add 16 1,I 16 27])))) (aa [eD 28 1 9 [],I 6 28] (.seq (aa [aH 29 3 1 1,aw 30 1 29,cp 31 30,b1 32 0] (.block 2 (.loop (aa [bp 33 .lss 32 31] (.seq (aU 33 .skip (.exit 2)) (.seq (.block 3 (aa [cx 34 2 30 32,bg 35 2 34,c8 (.alloc 8 none (.agg [.int .i64 0,.int .i64 0])),b7 2 8 35] (.drawn true 83 [I 36 6,aH 37 0 1 8,aw 38 1 37,cG 39 43 38,dU 40 42 [],aH 41 1 1 8,aw 42 1 41,bG 43 (.bin .add false (gi 4) (.t 42)),aT 44 .sub 43 2,cx 45 1 40 44,aw 46 1 45,eD 47 1 9 [.t 39,.t 46],hW 48 1 9 36 47,I 6 48]))) (.region [aT 49 .add 32 1,I 32 49]))))))) (aa [eD 50 1 9 [],I 9 50] (.seq (aa [aH 51 4 1 1,aw 52 1 51,cp 53 52,b1 54 0] (.block 4 (.loop (aa [bp 55 .lss 54 53] (.seq (aU 55 .skip (.exit 4)) (.seq (.block 5 (aa [cx 56 2 52 54,bg 57 2 56,c8 (.alloc 11 none (.agg [.int .i64 0,.str []])),b7 2 11 57] (.drawn true 83 [I 58 9,aH 59 0 1 11,aw 60 1 59,cG 61 43 60,aH 62 1 1 11,aw 63 1 62,eD 64 1 9 [.t 61,.t 63],hW 65 1 9 58 64,I 9 65]))) (.region [aT 66 .add 54 1,I 54 66]))))))) (.seq (.drawn true 83 [aH 67 0 1 1,aw 68 1 67,cG 69 43 68,aH 70 1 1 1,aw 71 1 70,cG 72 77 71,bG 73 (.bin .add false (.c (.str [40])) (.t 72)),bG 74 (.bin .add false (.t 73) (.c (.str [41]))),I 75 3,cG 76 78 75,I 77 6,cG 78 78 77,I 79 9,cG 80 78 79,c8 (.bsl 81 1 9 [(.c (.str [115,116,97,116,101])),.t 69,.t 74,.t 76,.t 78,.t 80]),cG 82 78 81,I 2 82]) .ret))))))))
def RO:C:=(aa [dc 1 0,bG 2 (.mov (.c (.str [])))] (aa [eD 13 1 9 [],I 3 13] (.seq (aa [aH 14 2 1 1,aw 15 1 14,cp 16 15,b1 17 0] (fR 18 17 16 (.seq (.block 1 (aa [cx 19 1 15 17,aw 20 1 19,I 5 20] (.region [I 21 3,I 22 5,cG 23 88 22,bG 24 (.bin .add false (.c (.str [40])) (.t 23)),bG 25 (.bin .add false (.t 24) (.c (.str [41]))),eD 26 1 9 [.t 25],hW 27 1 9 21 26,I 3 27]))) (.region [aT 28 .add 17 1,I 17 28])))) (aa [eD 29 1 9 [],I 6 29] (.seq (aa [aH 30 3 1 1,aw 31 1 30,cp 32 31,b1 33 0] (.block 2 (.loop (aa [bp 34 .lss 33 32] (.seq (aU 34 .skip (.exit 2)) (.seq (.block 3 (aa [cx 35 2 31 33,bg 36 2 35,c8 (.alloc 8 none (.agg [.int .i64 0,.int .i64 0])),b7 2 8 36] (aa [bG 9 (.mov (.c (.str [115,121,109,98,111,108])))] (.seq (aa [aH 37 1 1 8,aw 38 1 37,aT 39 .eql 38 3] (aU 39 (.region [bG 9 (.mov (.c (.str [110,117,109,98,101,114])))]) .skip)) (.region [I 40 6,aH 41 0 1 8,aw 42 1 41,cG 43 56 42,I 44 9,eD 45 1 9 [.t 43,.t 44],hW 46 1 9 40 45,I 6 46]))))) (.region [aT 47 .add 33 1,I 33 47]))))))) (aa [eD 48 1 9 [],I 10 48] (.seq (aa [aH 49 4 1 1,aw 50 1 49,cp 51 50,b1 52 0] (.block 4 (.loop (aa [bp 53 .lss 52 51] (.seq (aU 53 .skip (.exit 4)) (.seq (.block 5 (aa [cx 54 2 50 52,bg 55 2 54,c8 (.alloc 12 none (.agg [.int .i64 0,.str []])),b7 2 12 55] (.drawn true 81 [I 56 10,aH 57 0 1 12,aw 58 1 57,cG 59 56 58,aH 60 1 1 12,aw 61 1 60,eD 62 1 9 [.t 59,.t 61],hW 63 1 9 56 62,I 10 63]))) (.region [aT 64 .add 52 1,I 52 64]))))))) (.seq (.drawn true 81 [aH 65 0 1 1,aw 66 1 65,cG 67 56 66,aH 68 1 1 1,aw 69 1 68,cG 70 88 69,bG 71 (.bin .add false (.c (.str [40])) (.t 70)),bG 72 (.bin .add false (.t 71) (.c (.str [41]))),I 73 3,cG 74 89 73,I 75 6,cG 76 89 75,I 77 10,cG 78 89 77,c8 (.bsl 79 1 9 [(.c (.str [115,116,97,116,101])),.t 67,.t 72,.t 74,.t 76,.t 78]),cG 80 89 79,I 2 80]) .ret))))))))
def S6:C:=(aa [bG 2 (.mov (.c (.str [])))] (aa [I 3 0,⟨none,.call (some 4) (.c (.func 44 [])) [.t 3,(.c (.str [32]))]⟩,bG 5 (.bin .add false (.c (.str [40])) (.t 4)),bG 6 (.bin .add false (.t 5) (.c (.str [41]))),I 2 6] .ret))
def RB:C:=(aa [bG 2 (.mov (.c (.str [])))] (aa [I 3 0,⟨none,.call (some 4) (.c (.func 51 [])) [.t 3,(.c (.str [32]))]⟩,bG 5 (.bin .add false (.c (.str [40])) (.t 4)),bG 6 (.bin .add false (.t 5) (.c (.str [41]))),I 2 6] .ret))
def Aj:List (Nat×dE):=[
 (3,⟨1,8,.int .i64,.int .i64 0⟩),
 (9,⟨1,16,.str,.str []⟩),
 (30,⟨1,24,.slice 74,.slice 5 .nil []⟩),
 (31,⟨1,24,.slice 30,.slice 1 .nil []⟩),
 (32,⟨1,24,.slice 78,.slice 2 .nil []⟩),
 (33,⟨1,24,.slice 82,.slice 2 .nil []⟩),
 (35,⟨5,104,.struct [(0,3),(1,30),(2,31),(3,32),(4,33)],.agg [.int .i64 0,.slice 5 .nil [],.slice 1 .nil [],.slice 2 .nil [],.slice 2 .nil []]⟩),
 (44,⟨1,24,.slice 71,.slice 4 .nil []⟩),
 (46,⟨6,128,.struct [(0,44),(1,35)],.agg [.slice 4 .nil [],.int .i64 0,.slice 5 .nil [],.slice 1 .nil [],.slice 2 .nil [],.slice 2 .nil []]⟩),
 (69,⟨1,24,.slice 9,.slice 1 .nil []⟩),
 (71,⟨4,56,.struct [(0,3),(1,3),(2,9),(3,44)],.agg [.int .i64 0,.int .i64 0,.str [],.slice 4 .nil []]⟩),
 (74,⟨5,64,.struct [(0,3),(1,71)],.agg [.int .i64 0,.int .i64 0,.int .i64 0,.str [],.slice 4 .nil []]⟩),
 (78,⟨2,16,.struct [(0,3),(1,3)],.agg [.int .i64 0,.int .i64 0]⟩),
 (82,⟨2,24,.struct [(0,3),(1,9)],.agg [.int .i64 0,.str []]⟩)]
theorem yf:e6 ar Aj=true:=an
theorem X9:b4 Aj KK [.tmp 2] 1 Tryz.f7=true:=an
theorem XV:b4 Aj Kr [.tmp 2] 1 Tryz.f9=true:=an
theorem ani:b4 Aj S7 [.tmp 2] 1 Tryz.f27=true:=an
theorem al4:b4 Aj RO [.tmp 2] 1 Tryz.f33=true:=an
theorem anh:b4 Aj S6 [.tmp 2] 1 Tryz.f78=true:=an
theorem alR:b4 Aj RB [.tmp 2] 1 Tryz.f89=true:=an
theorem x7(x:List bV)(l:List (List bV)):gm (x::l)= .str x::gm l:=rfl
theorem qG:gm []=[]:=rfl
theorem x6(a b:List (List bV)):gm (a++b)=gm a++gm b:=List.map_append
theorem BP(S:aB->Prop)(l:List (List bV)):aA S (l.map ah.str)=True:=aj6 S l
theorem TS{l:List au}(h:eJ l):(jg l).length<=lim:=by have:=AU h;unfold lim;omega
theorem QI{l:List au}{i:Nat}{b:au}(h:l[i]? =some b):oK (l.take (i+1))=oK (l.take i)++[cN (.var b.v),cN b.t]:=by rw[List.take_add_one,h];simp[oK]
theorem QH(l:List au):(oK l).length=2*l.length:=by
 induction l with
 |nil=>rfl
 |cons b l a=>simp only[oK,List.flatMap_cons,hq,jc,qM]at a⊢;omega
theorem aas{l:List au}(h:eJ l):bL ar 88 [.slice 5 .no (l.map au.e)] (.str (jg l)):=by
 have g:=qL h;have d:=aau (oK l) [32] (TS h);have s:=h.fits.1;refine bs ap1 Tryz.func88 alm fun q=>?_;unfold Q6;clear q;simp;(with_reducible repeat' first|refine al ?_|refine aI g ?_|refine aJ g ?_|simp);refine hk (fun i (p:List (List bV))=>⟨[(10,.slice 5 .no (l.map au.e)),(11,.int .i64 l.length),(3,.slice 1 (.own (.loc 0)) (gm p)),(12,.int .i64 i)],[],[(.loc 0,⟨p.length,9,1,none⟩)],1,[]⟩) l.length (fun i p=>p=oK (l.take i)) [] (by simp[show gm []=[]from rfl];exact b6) (by simp[oK]) (fun p a _=>?_) (fun i p hi a _=>?_)
 ·rw[gC (eR _)]at a;subst a;simp;(with_reducible repeat' first|refine al ?_|refine aI d ?_|refine aJ d ?_|simp);all_goals simp[bE,aX,a1,aV,jg]
 ·obtain⟨b,j,f⟩:=ev hi;have k:=eQ j;have m:=h.ok b k;have r:=h.fits.2 b k;have n:p.length+2<=lim:=by rw[a,QH];simp;unfold lim;omega
  have e:=aat (.var b.v) (aaY m.1);have c:=aat b.t (by unfold T.fit;rw[m.2];simpa using r);have o:p++[cN (.var b.v),cN b.t]=oK (l.take (i+1)):=by rw[QI j,a]
  simp[hi,f];(with_reducible repeat' first|refine al ?_|refine aI (k5 b.v) ?_|refine aJ (k5 b.v) ?_|refine aI e ?_|refine aJ e ?_|refine aI c ?_|refine aJ c ?_|simp[hi,f,n]);refine bO.rng (p++[cN (.var b.v),cN b.t]) hi o ?_;simp[gm];exact⟨by simp[fresh,aA,av,b0,inObs,Pv.look,hI,BP],dN (by simp[fresh,aA,av,b0,inObs,Pv.look,hI,BP]),dP (by simp[fresh,aA,av,dH,inObs,Pv.look,hI,BP]),Ψ⟩
theorem aaS{l:List au}(h:eJ l):bL ar 77 [.slice 5 .no (l.map au.e)] (.str (jg l)):=by
 have k:=PV h;have f:=aaT (oK l) [32] (TS h);have u:=h.fits.1;refine bs tJ Tryz.func77 amM fun r=>?_;unfold Sz;clear r;simp;(with_reducible repeat' first|refine al ?_|refine aI k ?_|refine aJ k ?_|simp);refine hk (fun i (p:List (List bV))=>⟨[(10,.slice 5 .no (l.map au.e)),(11,.int .i64 l.length),(3,.slice 1 (.own (.loc 0)) (gm p)),(12,.int .i64 i)],[],[(.loc 0,⟨p.length,9,1,none⟩)],1,[]⟩) l.length (fun i p=>p=oK (l.take i)) [] (by simp[show gm []=[]from rfl];exact b6) (by simp[oK]) (fun p a _=>?_) (fun i p hi a _=>?_)
 ·rw[gC (eR _)]at a;subst a;simp;(with_reducible repeat' first|refine al ?_|refine aI f ?_|refine aJ f ?_|simp);all_goals simp[bE,aX,a1,aV,jg]
 ·obtain⟨b,m,j⟩:=ev hi;have n:=eQ m;have d:=h.ok b n;have v:=h.fits.2 b n;have o:p.length+2<=lim:=by rw[a,QH];simp;unfold lim;omega
  have t:=HX d.1;have c:1+(Lib.itoa b.v).length<=lim:=by unfold lim;omega
  have g:=CM b.v ol;have s:(cN b.t).length<=lim:=by have:=AV b.t d.2;unfold lim;omega
  have e:=aqD b.t.size b.t (eR _) d.2 s;have q:p++[63::Lib.itoa b.v,cN b.t]=oK (l.take (i+1)):=by rw[QI m,a];rfl
  simp[hi,j];(with_reducible repeat' first|refine al ?_|refine aI g ?_|refine aJ g ?_|refine aI e ?_|refine aJ e ?_|simp[hi,j,o,c]);refine bO.rng (p++[63::Lib.itoa b.v,cN b.t]) hi q ?_;simp[gm];exact⟨by simp[fresh,aA,av,b0,inObs,Pv.look,hI,BP],dN (by simp[fresh,aA,av,b0,inObs,Pv.look,hI,BP]),dP (by simp[fresh,aA,av,dH,inObs,Pv.look,hI,BP]),Ψ⟩
theorem JG(l:List (List bV))(c:(gj [32] l).length<=10000000000):bL ar 89 [.slice 1 .no (gm l)] (.str (iS l)):=by
 have b:=aau l [32] (by unfold lim;omega);have J:1+(gj [32] l).length<=lim:=by unfold lim;omega
 have U:1+(gj [32] l).length+1<=lim:=by unfold lim;omega
 have d:(gj [32] l).length+1<=lim:=by unfold lim;omega
 have e:(gj [32] l).length+1+1<=lim:=by unfold lim;omega
 unfold iS;refine bs yf Tryz.func89 alR fun a=>?_;unfold RB;clear a;exact cn
theorem JM(l:List (List bV))(c:(gj [32] l).length<=10000000000):bL ar 78 [.slice 1 .no (gm l)] (.str (iS l)):=by
 have b:=aaT l [32] (by unfold lim;omega);have J:1+(gj [32] l).length<=lim:=by unfold lim;omega
 have U:1+(gj [32] l).length+1<=lim:=by unfold lim;omega
 have d:(gj [32] l).length+1<=lim:=by unfold lim;omega
 have e:(gj [32] l).length+1+1<=lim:=by unfold lim;omega
 unfold iS;refine bs yf Tryz.func78 anh fun a=>?_;unfold S6;clear a;exact cn
def Ve:List (List bV):=[arD,arA,arz,ary,F2,F1,arw,arx,arC,[],arB]
theorem Vf:gm Ve=[.str [116,114,117,101],.str [102,97,105,108],.str [61],.str [47,61],.str [115,121,109,98,111,108],.str [110,117,109,98,101,114],.str [97,98,115,101,110,116],.str [97,110,100],.str [111,114],.str [],.str [110,111,116]]:=rfl
theorem aqU:bL ar 42 [] (.slice 1 .no (gm Ve)):=by rw[Vf];refine bs tJ Tryz.func42 ang fun a=>?_;unfold S5;clear a;exact cn
def il(s:dW):List (aB×List ah):=[(.loc 0,[.int .i64 s.n,.slice 5 .no (s.b.map au.e),.slice 1 .no (s.d.map c6),.slice 2 .no (s.k.map bN.e),.slice 2 .no (s.m.map bk.e)])]
def C0(s:dW)(i:Nat)(p:List (List bV)):bh:=⟨[(1,.ptr (.loc 0) 0),(3,.slice 1 (.own (.loc 1)) (gm p)),(15,.slice 1 .no (s.d.map c6)),(16,.int .i64 s.d.length),(17,.int .i64 i)],il s,[(.loc 1,⟨p.length,9,1,none⟩)],2,[]⟩
def yt(s:dW)(a:List (List bV))(i:Nat)(p:List (List bV)):bh:=⟨[(1,.ptr (.loc 0) 0),(3,.slice 1 (.own (.loc 1)) (gm a)),(6,.slice 1 (.own (.loc 2)) (gm p)),(31,.slice 2 .no (s.k.map bN.e)),(32,.int .i64 s.k.length),(33,.int .i64 i)],il s,[(.loc 1,⟨a.length,9,1,none⟩),(.loc 2,⟨p.length,9,1,none⟩)],3,[]⟩
def C1(s:dW)(a b:List (List bV))(i:Nat)(p:List (List bV)):bh:=⟨[(1,.ptr (.loc 0) 0),(3,.slice 1 (.own (.loc 1)) (gm a)),(6,.slice 1 (.own (.loc 2)) (gm b)),(10,.slice 1 (.own (.loc 3)) (gm p)),(50,.slice 2 .no (s.m.map bk.e)),(51,.int .i64 s.m.length),(52,.int .i64 i)],il s,[(.loc 1,⟨a.length,9,1,none⟩),(.loc 2,⟨b.length,9,1,none⟩),(.loc 3,⟨p.length,9,1,none⟩)],4,[]⟩
theorem G7{α:Type}(f:α->List (List bV)){l:List α}{i:Nat}{x:α}(h:l[i]? =some x):(l.take (i+1)).flatMap f=(l.take i).flatMap f++f x:=by rw[List.take_add_one,h];simp
theorem Xo{α β:Type}(f:α->β){l:List α}{i:Nat}{x:α}(h:l[i]? =some x):(l.map f).take (i+1)=(l.map f).take i++[f x]:=by rw[List.take_add_one,List.getElem?_map,h];simp
theorem MW:∀l:List bN,(l.flatMap jE).length=2*l.length
 |[]=>rfl
 |x::l=>by simp only[List.flatMap_cons,hq,MW l,jE,jc,qM];omega
theorem ND:∀l:List bk,(l.flatMap kE).length=2*l.length
 |[]=>rfl
 |x::l=>by simp only[List.flatMap_cons,hq,ND l,kE,jc,qM];omega
theorem BH(l:List (List bV)):(gj [32] l).length<=(iS l).length:=by simp[iS];omega
theorem aq5{s:dW}(h:FN s):bL ar 33 [s.e] (.str (wH s)):=by
 have hle:=h.le;have a2:=GO h.b;have a3:=KX h.d h.dl;have a4:=MX h.k h.kl;have a5:=NF h.m h.ml;have g3:=JG (s.d.map kt) (by have:=BH (s.d.map kt);omega);have g4:=JG (s.k.flatMap jE) (by have:=BH (s.k.flatMap jE);omega);have g5:=JG (s.m.flatMap kE) (by have:=BH (s.m.flatMap kE);omega);have q:=JG (uV s) Ω;have u:=FU s.n (by have:=h.n;unfold e3;omega);have kb:=aas h.b;have y:=AU h.b;have H:1+(jg s.b).length<=lim:=by unfold lim;omega
 have J:1+(jg s.b).length+1<=lim:=by unfold lim;omega
 have G:(jg s.b).length+1<=lim:=by unfold lim;omega
 have D:(jg s.b).length+1+1<=lim:=by unfold lim;omega
 have n:=h.d;have z:=h.dl;have m:=h.k.at';have F:=h.kl;have hm:=h.m.at';have E:=h.ml;have r:s.e= .agg [.int .i64 s.n,.slice 5 .no (s.b.map au.e),.slice 1 .no (s.d.map c6),.slice 2 .no (s.k.map bN.e),.slice 2 .no (s.m.map bk.e)]:=rfl;rw[r];clear h hle;refine bs yf Tryz.func33 al4 fun v=>?_;unfold RO;clear v;simp;refine hk (C0 s) s.d.length (fun i p=>p=(s.d.map kt).take i) [] (by simp[C0,il,qG];exact b6) Ψ (fun p a _=>?_) (fun i p hi a _=>?_);rotate_left
 ·obtain⟨x,e,c⟩:=ev hi;have l:=n x (eQ e);have b:bL ar 88 [c6 x] (.str (jg x)):=aas l;have K:=AU l;have t:1+(jg x).length<=lim:=by unfold lim;omega
  have c2:1+(jg x).length+1<=lim:=by unfold lim;omega
  have c3:(jg x).length+1<=lim:=by unfold lim;omega
  have c4:(jg x).length+1+1<=lim:=by unfold lim;omega
  have g:p.length+1<=lim:=by rw[a];simp;unfold lim;omega
  have f:e3 ((i:Int)+1):=by unfold e3;omega
  have j:p++[kt x]=(s.d.map kt).take (i+1):=by rw[a,Xo kt e]
  simp[C0,il,hi,c];((with_reducible repeat' first|refine al ?_|refine aI b ?_|refine aJ b ?_|simp[hi,c,g,f,t,c2,c3,c4]|((first|apply bQ|apply bT|apply bS)<;>intro h<;>try simp at h))<;>(try exact cv));refine bO.rng (p++[kt x]) hi j ?_;simp[C0,il,x6,x7,qG,kt];exact⟨by simp[fresh,aA,av,b0,inObs,Pv.look,hI],dN ii,dP io,Ψ⟩
 rw[gC Ψ]at a;subst a;generalize be:s.d.map kt=A at g3 a3;simp[C0,il];((with_reducible repeat' first|refine al ?_|simp|((first|apply bQ|apply bT|apply bS)<;>intro h<;>try simp at h))<;>(try exact cv));refine hk (yt s A) s.k.length (fun i p=>p=(s.k.take i).flatMap jE) [] (by simp[yt,il,qG];exact b6) Ψ (fun p a _=>?_) (fun i p hi a _=>?_);rotate_left
 ·obtain⟨x,e,c⟩:=ev hi;obtain⟨w,d⟩:=m x (eQ e);have b:=FU x.v ol;have g:p.length+2<=lim:=by rw[a,MW];simp;unfold lim;omega
  have f:e3 ((i:Int)+1):=by unfold e3;omega
  have j:p++jE x=(s.k.take (i+1)).flatMap jE:=by rw[a,G7 jE e]
  rcases d with d|d
  ·have ae:(x.k==3)=false:=by rw[d];rfl
   simp[yt,il,hi,c];(with_reducible repeat' first|refine al ?_|refine aI b ?_|refine aJ b ?_|simp[hi,c,g,f,ae]);refine bO.rng (p++jE x) hi j ?_;simp[yt,il,x6,x7,qG,jE,d,F2];exact⟨by simp[fresh,aA,av,b0,inObs,Pv.look,hI],dN ii,dP io,Ψ⟩
  ·have ae:(x.k==3)=true:=by rw[d];rfl
   simp[yt,il,hi,c];(with_reducible repeat' first|refine al ?_|refine aI b ?_|refine aJ b ?_|simp[hi,c,g,f,ae]);refine bO.rng (p++jE x) hi j ?_;simp[yt,il,x6,x7,qG,jE,d,F1];exact⟨by simp[fresh,aA,av,b0,inObs,Pv.look,hI],dN ii,dP io,Ψ⟩
 rw[gC Ψ]at a;subst a;generalize hB:s.k.flatMap jE=B at g4 a4;simp[yt,il];(with_reducible repeat' first|refine al ?_|simp);refine hk (C1 s A B) s.m.length (fun i p=>p=(s.m.take i).flatMap kE) [] (by simp[C1,il,qG];exact b6) Ψ (fun p a _=>?_) (fun i p hi a _=>?_);rotate_left
 ·obtain⟨x,e,c⟩:=ev hi;obtain⟨w,d⟩:=hm x (eQ e);have b:=FU x.v ol;have g:p.length+2<=lim:=by rw[a,ND];simp;unfold lim;omega
  have f:e3 ((i:Int)+1):=by unfold e3;omega
  have j:p++kE x=(s.m.take (i+1)).flatMap kE:=by rw[a,G7 kE e]
  simp[C1,il,hi,c];(with_reducible repeat' first|refine al ?_|refine aI b ?_|refine aJ b ?_|simp[hi,c,g,f]);refine bO.rng (p++kE x) hi j ?_;simp[C1,il,x6,x7,qG,kE];exact⟨by simp[fresh,aA,av,b0,inObs,Pv.look,hI],dN ii,dP io,Ψ⟩
 rw[gC Ψ]at a;subst a;generalize k:s.m.flatMap kE=C at g5 a5;have hw:wH s=iS [[115,116,97,116,101],Lib.itoa s.n,40::(jg s.b++[41]),iS A,iS B,iS C]:=by rw[<-be,<-hB,<-k];rfl
 have o:gm (uV s)=[.str [115,116,97,116,101],.str (Lib.itoa s.n),.str (40::(jg s.b++[41])),.str (iS A),.str (iS B),.str (iS C)]:=by rw[<-be,<-hB,<-k];rfl
 rw[o,show iS (uV s)=wH s from rfl]at q;clear hw o be hB k n m hm;simp[C1,il];exact cn
def CY(s:dW)(i:Nat)(p:List (List bV)):bh:=⟨[(1,.ptr (.loc 0) 0),(3,.slice 1 (.own (.loc 1)) (gm p)),(14,.slice 1 .no (s.d.map c6)),(15,.int .i64 s.d.length),(16,.int .i64 i)],il s,[(.loc 1,⟨p.length,9,1,none⟩)],2,[]⟩
def yr(s:dW)(a:List (List bV))(i:Nat)(p:List (List bV)):bh:=⟨[(1,.ptr (.loc 0) 0),(3,.slice 1 (.own (.loc 1)) (gm a)),(6,.slice 1 (.own (.loc 2)) (gm p)),(30,.slice 2 .no (s.k.map bN.e)),(31,.int .i64 s.k.length),(32,.int .i64 i)],il s,[(.loc 1,⟨a.length,9,1,none⟩),(.loc 2,⟨p.length,9,1,none⟩)],3,[]⟩
def CZ(s:dW)(a b:List (List bV))(i:Nat)(p:List (List bV)):bh:=⟨[(1,.ptr (.loc 0) 0),(3,.slice 1 (.own (.loc 1)) (gm a)),(6,.slice 1 (.own (.loc 2)) (gm b)),(9,.slice 1 (.own (.loc 3)) (gm p)),(52,.slice 2 .no (s.m.map bk.e)),(53,.int .i64 s.m.length),(54,.int .i64 i)],il s,[(.loc 1,⟨a.length,9,1,none⟩),(.loc 2,⟨b.length,9,1,none⟩),(.loc 3,⟨p.length,9,1,none⟩)],4,[]⟩
theorem aqV{s:dW}(h:FN s):bL ar 27 [s.e] (.str (wH s)):=by
 have hle:=h.le;have a2:=GO h.b;have a3:=KX h.d h.dl;have a4:=MX h.k h.kl;have a5:=NF h.m h.ml;have g3:=JM (s.d.map kt) (by have:=BH (s.d.map kt);omega);have g4:=JM (s.k.flatMap jE) (by have:=BH (s.k.flatMap jE);omega);have g5:=JM (s.m.flatMap kE) (by have:=BH (s.m.flatMap kE);omega);have r:=JM (uV s) Ω;have k:=aqU;rw[Vf]at k;have v:=CM s.n (by have:=h.n;unfold e3;omega);have kb:=aaS h.b;have z:=AU h.b;have J:1+(jg s.b).length<=lim:=by unfold lim;omega
 have K:1+(jg s.b).length+1<=lim:=by unfold lim;omega
 have H:(jg s.b).length+1<=lim:=by unfold lim;omega
 have E:(jg s.b).length+1+1<=lim:=by unfold lim;omega
 have o:=h.d;have D:=h.dl;have n:=h.k.at';have G:=h.kl;have hm:=h.m.at';have F:=h.ml;have t:s.e= .agg [.int .i64 s.n,.slice 5 .no (s.b.map au.e),.slice 1 .no (s.d.map c6),.slice 2 .no (s.k.map bN.e),.slice 2 .no (s.m.map bk.e)]:=rfl;rw[t];clear h hle;refine bs yf Tryz.func27 ani fun w=>?_;unfold S7;clear w;simp;refine hk (CY s) s.d.length (fun i p=>p=(s.d.map kt).take i) [] (by simp[CY,il,qG];exact b6) Ψ (fun p a _=>?_) (fun i p hi a _=>?_);rotate_left
 ·obtain⟨x,e,c⟩:=ev hi;have m:=o x (eQ e);have b:bL ar 77 [c6 x] (.str (jg x)):=aaS m;have L:=AU m;have u:1+(jg x).length<=lim:=by unfold lim;omega
  have c2:1+(jg x).length+1<=lim:=by unfold lim;omega
  have c3:(jg x).length+1<=lim:=by unfold lim;omega
  have c4:(jg x).length+1+1<=lim:=by unfold lim;omega
  have g:p.length+1<=lim:=by rw[a];simp;unfold lim;omega
  have f:e3 ((i:Int)+1):=by unfold e3;omega
  have j:p++[kt x]=(s.d.map kt).take (i+1):=by rw[a,Xo kt e]
  simp[CY,il,hi,c];(with_reducible repeat' first|refine al ?_|refine aI b ?_|refine aJ b ?_|simp[hi,c,g,f,u,c2,c3,c4]);refine bO.rng (p++[kt x]) hi j ?_;simp[CY,il,x6,x7,qG,kt];exact⟨by simp[fresh,aA,av,b0,inObs,Pv.look,hI],dN ii,dP io,Ψ⟩
 rw[gC Ψ]at a;subst a;generalize be:s.d.map kt=A at g3 a3;simp[CY,il];(with_reducible repeat' first|refine al ?_|simp);refine hk (yr s A) s.k.length (fun i p=>p=(s.k.take i).flatMap jE) [] (by simp[yr,il,qG];exact b6) Ψ (fun p a _=>?_) (fun i p hi a _=>?_);rotate_left
 ·obtain⟨x,e,c⟩:=ev hi;obtain⟨y,d⟩:=n x (eQ e);have b:=CM x.v ol;have g:p.length+2<=lim:=by rw[a,MW];simp;unfold lim;omega
  have f:e3 ((i:Int)+1):=by unfold e3;omega
  have j:p++jE x=(s.k.take (i+1)).flatMap jE:=by rw[a,G7 jE e]
  rcases d with d|d
  ·simp[yr,il,hi,c];(with_reducible repeat' first|refine al ?_|refine aI b ?_|refine aJ b ?_|refine aI k ?_|refine aJ k ?_|simp[hi,c,g,f,d]);refine bO.rng (p++jE x) hi j ?_;simp[yr,il,x6,x7,qG,jE,d,F2];exact⟨by simp[fresh,aA,av,b0,inObs,Pv.look,hI],dN ii,dP io,Ψ⟩
  ·simp[yr,il,hi,c];(with_reducible repeat' first|refine al ?_|refine aI b ?_|refine aJ b ?_|refine aI k ?_|refine aJ k ?_|simp[hi,c,g,f,d]);refine bO.rng (p++jE x) hi j ?_;simp[yr,il,x6,x7,qG,jE,d,F1];exact⟨by simp[fresh,aA,av,b0,inObs,Pv.look,hI],dN ii,dP io,Ψ⟩
 rw[gC Ψ]at a;subst a;generalize hB:s.k.flatMap jE=B at g4 a4;simp[yr,il];(with_reducible repeat' first|refine al ?_|simp);refine hk (CZ s A B) s.m.length (fun i p=>p=(s.m.take i).flatMap kE) [] (by simp[CZ,il,qG];exact b6) Ψ (fun p a _=>?_) (fun i p hi a _=>?_);rotate_left
 ·obtain⟨x,e,c⟩:=ev hi;obtain⟨y,d⟩:=hm x (eQ e);have b:=CM x.v ol;have g:p.length+2<=lim:=by rw[a,ND];simp;unfold lim;omega
  have f:e3 ((i:Int)+1):=by unfold e3;omega
  have j:p++kE x=(s.m.take (i+1)).flatMap kE:=by rw[a,G7 kE e]
  simp[CZ,il,hi,c];(with_reducible repeat' first|refine al ?_|refine aI b ?_|refine aJ b ?_|simp[hi,c,g,f]);refine bO.rng (p++kE x) hi j ?_;simp[CZ,il,x6,x7,qG,kE];exact⟨by simp[fresh,aA,av,b0,inObs,Pv.look,hI],dN ii,dP io,Ψ⟩
 rw[gC Ψ]at a;subst a;generalize l:s.m.flatMap kE=C at g5 a5;have hw:wH s=iS [[115,116,97,116,101],Lib.itoa s.n,40::(jg s.b++[41]),iS A,iS B,iS C]:=by rw[<-be,<-hB,<-l];rfl
 have q:gm (uV s)=[.str [115,116,97,116,101],.str (Lib.itoa s.n),.str (40::(jg s.b++[41])),.str (iS A),.str (iS B),.str (iS C)]:=by rw[<-be,<-hB,<-l];rfl
 rw[q,show iS (uV s)=wH s from rfl]at r;clear hw q be hB l o n hm;simp[CZ,il];exact cn
def Ky:C:=(aa [dc 1 0,bt 2 false] (aa [b1 3 1048576] (aa [bg 7 5 1,I 8 3,cq 9 6 7 8,I 3 9] (.seq (aa [I 10 3,aT 11 .lss 10 0] (aU 11 (aa [bt 2 true] .ret) .skip)) (aa [bg 12 5 1,cG 13 8 12,cG 14 7 13,I 4 14] (aa [bg 15 5 1,cG 16 8 15,eg 5 pP,b7 5 5 16] (aa [bg 17 5 5,cG 18 9 17,I 6 18] (.seq (aa [I 19 6,I 20 4,bp 21 .neq 19 20] (aU 21 (aa [bt 2 false] .ret) .skip)) (.seq (.seq (.drawn true 27 [bg 22 5 5,bg 23 5 1,cG 24 8 23,cq 25 10 22 24,cJ 26 25]) (aU 26 (aa [bt 2 false] .ret) .skip)) (aa [bt 2 true] .ret))))))))))
def aal:List (Nat×dE):=[
 (27,⟨5,104,.struct [(0,3),(1,22),(2,23),(3,24),(4,25)],.agg [.int .i64 0,.slice 5 .nil [],.slice 1 .nil [],.slice 2 .nil [],.slice 2 .nil []]⟩),
 (35,⟨5,104,.struct [(0,3),(1,30),(2,31),(3,32),(4,33)],.agg [.int .i64 0,.slice 5 .nil [],.slice 1 .nil [],.slice 2 .nil [],.slice 2 .nil []]⟩),
 (41,⟨6,128,.struct [(0,39),(1,27)],.agg [.slice 4 .nil [],.int .i64 0,.slice 5 .nil [],.slice 1 .nil [],.slice 2 .nil [],.slice 2 .nil []]⟩),
 (46,⟨6,128,.struct [(0,44),(1,35)],.agg [.slice 4 .nil [],.int .i64 0,.slice 5 .nil [],.slice 1 .nil [],.slice 2 .nil [],.slice 2 .nil []]⟩)]
theorem aan:e6 ar aal=true:=an
theorem X2:b4 aal Ky [.tmp 2] 1 kM=true:=an
theorem T1:ar.funcs[(3:Nat)]? =some kM:=Tryz.func3
theorem ao8{s:dW}(h:nc s=some s):s.d.length<=30:=by
 unfold nc at h;split at h
 ·cases h
 ·split at h
  ·cases h
  ·split at h
   ·cases h
   ·split at h
    ·rename_i a;have b:=fK h;rw[<-b];exact a
    ·cases h
theorem apR{u:j0}(h:0<=uY u.h 1048576):u.k.length<=1048576/\u.m.length<=1048576:=by
 unfold uY at h;have f:=x9 u.h.b 1048576 Ω;split at h
 ·omega
 have g:=ya x9 u.h.d (iI u.h.b 1048576) Ω;split at h
 ·omega
 have e:=Pz u.h.k (hg iI u.h.d (iI u.h.b 1048576)) Ω;split at h
 ·omega
 rename_i a;split at h
 ·omega
 rename_i c;generalize hg iI u.h.d (iI u.h.b 1048576)=q at*;have d:nI u.h.k q=if q-u.k.length<0 then-1 else q-u.k.length:=rfl
 have b:hg lQ u.h.m (nI u.h.k q)=if nI u.h.k q-(u.m.map uK).length<0 then-1 else kq lQ (u.m.map uK) (nI u.h.k q-(u.m.map uK).length):=rfl
 rw[List.length_map]at b;constructor
 ·rw[d]at a;split at a<;>omega
 ·rw[b]at c;split at c<;>omega
theorem ap0{s:dW}(h:Pj s)(a:s.k.length<=1048576)(hm:s.m.length<=1048576):FN s:=⟨h.1.n,h.1.b,h.1.d,ao8 h.2,h.1.k,a,h.1.m,hm⟩
open Classical in
theorem acg(u:j0)(f:iX u.m->wJ u.m)(j:u.k.length<=1048576)(hm:u.m.length<=1048576):∃t:List bV,bL ar 7 [u.e] (.str t)/\bL ar 9 [u.e] (.str t):=by
 have a:=aq1 u f;have c:=aqk u f;by_cases g:uU u
 ·rw[oE g]at a c;obtain⟨s,rfl,i⟩:=g;have h:=ap0 i j hm;have t1:=aqV h;have t2:=aq5 h;rw[apG]at a c⊢;refine⟨wH s,?_,?_⟩
  ·clear c t2;generalize wH s=t at t1⊢;obtain⟨n,b,d,k,l⟩:=s;simp only[dW.e]at a t1⊢;refine bs yf Tryz.func7 X9 fun e=>?_;unfold KK;clear e;have m:=t1;exact cn
  ·clear a t1;generalize wH s=t at t2⊢;obtain⟨n,b,d,k,l⟩:=s;simp only[dW.e]at c t2⊢;refine bs yf Tryz.func9 XV fun e=>?_;unfold Kr;clear e;exact cn
 ·rw[pj g]at a c;refine⟨[],?_,?_⟩
  ·clear c;obtain⟨n,b,d,k,l⟩:=u;simp only[j0.e]at a⊢;refine bs yf Tryz.func7 X9 fun e=>?_;unfold KK;clear e;exact cn
  ·clear a;obtain⟨n,b,d,k,l⟩:=u;simp only[j0.e]at c⊢;refine bs yf Tryz.func9 XV fun e=>?_;unfold Kr;clear e;exact cn
theorem aqb(r:qc)(hw:r.wf):bL ar 3 [r.e] (.bool true):=by
 have a:=arb r hw 1048576 Ω Ω;by_cases g:uY r 1048576<0
 ·generalize uY r 1048576=q at a g;clear hw;obtain⟨n,b,d,k,l⟩:=r;simp only[qc.e]at a⊢;refine bs aan T1 X2 fun o=>?_;unfold Ky;exact cn
 ·obtain⟨r,rfl,e⟩:=apS hw Ω;obtain⟨c,f⟩:=apR (u:=r) Ω;clear hw;rw[apE]at a⊢;have m:=arn r;obtain⟨t,j,h⟩:=acg r e c f;have i:=aqt r;clear e c f;generalize uY r.h 1048576=q at a g;obtain⟨n,b,d,k,l⟩:=r;simp only[j0.e]at a m j h i⊢;refine bs aan T1 X2 fun o=>?_;unfold Ky;exact cn
end
section
open Go Go.Pv Go.ChangeShapes Go.WideShapes Go.ChangeAt Go.RowKit Go.Deep
def rR(W:World):aZ:=⟨fun b o=> ∃u,W.cell? ⟨b,o,none⟩=some u,fun _=>none,fun _=>none,fun _ _ _=>et⟩
theorem W5(W:World)(b:Nat):∀(us:List Value) (off:Nat),(∀i u,us[i]? =some u->W.cell? ⟨b,off+i,none⟩=some u)->ly W (rR W).A b off us
 |[],_,_=>trivial
 |u::us,off,h=>by
  have a:W.cell? ⟨b,off,none⟩=some u:=by simpa using h 0 u rfl
  exact⟨⟨⟨u,a⟩,a⟩,W5 W b us (off+1) fun i c hu=>by have:=h (i+1) c (by simpa using hu);rwa[show off+(i+1)=off+1+i from by omega]at this⟩
section
variable {H:Type} {enc:fF×Value->H} {W:World} {spare:Nat->Bool} {held:Bool}
def reads(W:World)(p:ah)(cs:List Value):Prop:= ∃v:Value,v.cells.toList=cs/\aS W (rR W) p v/\∀c∈cs,c.oneCell'=true
theorem Fu{W:World}{a:List ah}{cs:List Value}(h:cW W (rR W) a cs):reads W (.agg a) cs:=by
 refine⟨.agg cs.toArray,by simp[nM],by simp only[aS];exact⟨cs.toArray,rfl,by simpa using h⟩,?_⟩;have:∀(a:List ah) (cs:List Value),cW W (rR W) a cs->∀c∈cs,c.oneCell'=true:=by
  intro a;induction a with
  |nil=>intro cs h;simp only[cW]at h;subst h;simp
  |cons p a b=>
   intro cs h c ax;simp only[cW]at h;obtain⟨u,us,rfl,J,U⟩:=h;rcases gp.1 ax with rfl|ax
   ·exact J.2
   ·exact b us U c ax
 exact this a cs h
def wu(W:World)(p:ah)(v:Value):Prop:=aS W (rR W) p v/\v.oneCell'=true/\v.cells= #[v]
theorem wu.reads{W:World}{p:ah}{v:Value}(h:wu W p v):reads W p [v]:=⟨v,by rw[h.2.2],h.1,fun c ax=>by simp at ax;subst ax;exact h.2.1⟩
theorem acw{W:World}{b a k j:Nat}:W.cell? (((⟨b,a,none⟩:Addr).add k).add j)=W.cell? ⟨b,a+(k+j),none⟩:=by rw[add_add,Addr.add_lit]
theorem FG{α:Type}{t e:fF}{sz:Nat}(f:α->ah)(Q:α->Prop)(aM:ar.underlying t=some (.slice e))(ax:ar.cellsOf e=sz)(G:0<sz){fuel:Nat}
  (R:∀n cs x,n<fuel->jX enc ar W 0 spare held n e cs=some x->∃a:α,Q a/\reads W (f a) cs)
  {cs:List Value} {x:DataW H×List MemPlace} (h:jX enc ar W 0 spare held fuel t cs=some x):∃l:dz α,l.wf Q/\∃v,cs=[v]/\wu W (l.e sz f) v:=by
 rcases DataW.trod_slice aM h with⟨rfl,_⟩|⟨a,len,cap,elems,rest,n,rfl,rfl,_,_,N,hm,hlen,E,_,_⟩
 ·refine⟨.l [],by simp[dz.wf],_,rfl,?_,rfl,rfl⟩;simp only[dz.e,pg,aS];exact⟨⟨none,0,rfl,Ψ,⟨by simp[maxLen],by simp[lim]⟩,.inl Ψ⟩,fun e=>(by cases e),fun g e=>(by cases e),fun _ _ e=>(by cases e),fun _ e=>(by cases e)⟩
 by_cases P:lim<len
 ·refine⟨.b (some a) len cap,⟨P,by unfold maxLen at hm;omega⟩,_,rfl,?_,rfl,rfl⟩;simp only[dz.e,aS]
 rcases Nat.eq_zero_or_pos len with rfl|F
 ·refine⟨.l [],by simp[dz.wf],_,rfl,?_,rfl,rfl⟩;simp only[dz.e,pg,aS];exact⟨⟨some a,cap,rfl,Ψ,⟨hm,by simp[lim]⟩,.inl Ψ⟩,fun e=>(by cases e),fun g e=>(by cases e),fun _ _ e=>(by cases e),fun _ e=>(by cases e)⟩
 rw[ax]at E;have B:∀i,i<len->∃cs',cs'.length=sz/\(∀j,j<sz->W.cell? ((a.add (i*sz)).add j)=cs'[j]?)/\∃b:α,Q b/\reads W (f b) cs':=by intro i hi;have J:=E i hi;rw[cl Ω]at J;obtain⟨cs',U,o⟩:=nP.1 J;obtain⟨_,O,K⟩:=World.cells?_some U;exact⟨cs',O,K,R n cs' _ Ω o⟩
 obtain⟨m,k,spot⟩:=a;have w:spot=none:=by obtain⟨cs',J,U,_⟩:=B 0 F;have o:=U 0 G;rw[cl Ω]at o;simpa[Addr.add]using World.cell?_spot o
 subst w;have y:∀d,d<=len->∃xs:List α,xs.length=d/\(∀x∈xs,Q x)/\∃us:List Value,us.length=d*sz/\di W (rR W) sz (xs.map f) us/\∀j u,us[j]? =some u->W.cell? ⟨m,k+((len-d)*sz+j),none⟩=some u:=by
  intro d;induction d with
  |zero=>intro _;exact⟨[],rfl,Ψ,[],Ψ,by simp[di],Ψ⟩
  |succ d M=>
   intro V;obtain⟨xs,c,A,us,D,r,q⟩:=M Ω;obtain⟨cs',s,c2,b,ae,v,v1,v2,v3⟩:=B (len-(d+1)) Ω;have hmul:(len-d)*sz=(len-(d+1))*sz+sz:=by rw[show len-d=(len-(d+1))+1 from by omega,Nat.succ_mul]
   refine⟨b::xs,by simp[c],fun x z=>?_,cs'++us,by rw[hq,s,D,Nat.succ_mul];omega,?_,fun j u p=>?_⟩
   ·rcases gp.1 z with rfl|z
    ·exact ae
    ·exact A x z
   ·simp only[fA,di];exact⟨v,us,by rw[v1],⟨v2,by rw[<-s,<-v1];simp,by rw[v1];exact v3⟩,r⟩
   ·rcases Nat.lt_or_ge j sz with L|S
    ·rw[rB Ω]at p;have:=c2 j L;rw[acw]at this;rw[this];exact p
    ·rw[List.getElem?_append_right Ω,s]at p;have:=q (j-sz) u p;rwa[show(len-d)*sz+(j-sz)=(len-(d+1))*sz+j from by omega]at this
 obtain⟨xs,c,A,us,D,r,q⟩:=y len (eR _);refine⟨.l xs,A,_,rfl,?_,rfl,rfl⟩;simp only[dz.e,aS];refine⟨⟨some ⟨m,k,none⟩,cap,by rw[List.length_map,c],by rw[List.length_map,c];exact N,⟨hm,by rw[List.length_map,c];omega⟩,.inr ⟨m,k,us,rfl,W5 W m us k fun i u hu=>?_,r⟩⟩,fun e=>(by cases e),fun g e=>(by cases e),fun _ _ e=>(by cases e),fun _ e=>(by cases e)⟩;have:=q i u hu;simpa using this
end
end
section
open Go Go.Pv Go.ChangeShapes Go.WideShapes Go.ChangeAt Go.RowKit Go.Deep
section
variable {H:Type} {enc:fF×Value->H} {W:World} {spare:Nat->Bool} {held:Bool} {cs:List Value} {x:DataW H×List MemPlace} {fuel:Nat}
theorem Dg:ar.cellsOf 3=1:=an
theorem Tj:ar.cellsOf 9=1:=an
theorem KQ:ar.cellsOf 104=4:=an
theorem acC:ar.cellsOf 39=1:=an
theorem Tf:ar.cellsOf 106=5:=an
theorem Tg:ar.cellsOf 22=1:=an
theorem acy:ar.cellsOf 23=1:=an
theorem Th:ar.cellsOf 121=2:=an
theorem acz:ar.cellsOf 24=1:=an
theorem Ti:ar.cellsOf 108=2:=an
theorem acA:ar.cellsOf 25=1:=an
theorem acB:ar.cellsOf 27=5:=an
theorem zt(h:jX enc ar W 0 spare held fuel 3 cs=some x):∃(n:Int) (v:Value),cs=[v]/\wu W (.int .i64 n) v:=by obtain⟨n,rfl,_,_⟩:=DataW.trod_int Tryz.underlying3 h;exact⟨n,_,rfl,by simp only[aS],rfl,rfl⟩
theorem ZT(h:jX enc ar W 0 spare held fuel 9 cs=some x):∃(s:hA) (v:Value),s.wf/\cs=[v]/\wu W s.e v:=by
 obtain⟨s,rfl,_,hm⟩:=DataW.trod_string Tryz.underlying9 h;by_cases a:lim<s.size
 ·exact⟨.b s,_,⟨a,by unfold maxLen at hm;omega⟩,rfl,by simp only[hA.e,aS],rfl,rfl⟩
 ·refine⟨.s s.data.toList,_,trivial,rfl,?_,rfl,rfl⟩;simp only[hA.e,aS];refine⟨Ψ,?_⟩;have:s.data.toList.length=s.size:=rfl;omega
theorem W8{α:Type}:∀{cs:List α},cs.length=2->∃a b,cs=[a,b]
 |[a,b],_=>⟨a,b,rfl⟩
theorem akl{α:Type}:∀{cs:List α},cs.length=4->∃a b c d,cs=[a,b,c,d]
 |[a,b,c,d],_=>⟨a,b,c,d,rfl⟩
theorem W9{α:Type}:∀{cs:List α},cs.length=5->∃a b c d e,cs=[a,b,c,d,e]
 |[a,b,c,d,e],_=>⟨a,b,c,d,e,rfl⟩
theorem apV:∀(fuel:Nat) (cs:List Value) (x:DataW H×List MemPlace),jX enc ar W 0 spare held fuel 104 cs=some x->∃t:cE,t.wf/\cW W (rR W) [.int .i64 t.kind,.int .i64 t.num,t.name.e,t.args.e 4 cE.e] cs:=by
 intro fuel;induction fuel using Nat.strongRecOn with
 |ind fuel z=>
  intro cs x h;obtain⟨xs,n,rfl,_,hlen,w,i⟩:=DataW.trod_struct Tryz.underlying104 h;rw[KQ]at hlen;obtain⟨c0,g,c2,c3,rfl⟩:=akl hlen;have E:xs.length=4:=w;have f0:jX enc ar W 0 spare held n 3 (([c0,g,c2,c3].drop 0).take (ar.cellsOf 3))=xs[0]?:=i 0 _ rfl;have f1:jX enc ar W 0 spare held n 3 (([c0,g,c2,c3].drop 1).take (ar.cellsOf 3))=xs[1]?:=i 1 _ rfl;have f2:jX enc ar W 0 spare held n 9 (([c0,g,c2,c3].drop 2).take (ar.cellsOf 9))=xs[2]?:=i 2 _ rfl;have f3:jX enc ar W 0 spare held n 39 (([c0,g,c2,c3].drop 3).take (ar.cellsOf 39))=xs[3]?:=i 3 _ rfl;simp only[Dg,Tj,acC,oB,mH]at f0 f1 f2 f3;rw[cl Ω]at f0 f1 f2 f3;obtain⟨k,v0,o,r0⟩:=zt f0;obtain⟨m,v1,u,f⟩:=zt f1;obtain⟨s,v2,q,v,e⟩:=ZT f2;obtain⟨l,j,v3,r,d⟩:=FG cE.e cE.wf Tryz.underlying39 KQ Ω (fun n' cs' B D y=>by obtain⟨t,t1,t2⟩:=z n' Ω cs' B y;exact⟨t,t1,by rw[cE.e_eq];exact Fu t2⟩) f3
  simp only[rA,and_true]at o u v r;subst o u v r;cases l with
  |l a=>
   refine⟨.mk k m s a,?_,?_⟩
   ·simp only[cE.wf,cE.wfL_iff];exact⟨q,j⟩
   ·simp only[cW,cE.kind,cE.num,cE.name,cE.args];exact⟨_,_,rfl,⟨r0.1,r0.2.1⟩,_,_,rfl,⟨f.1,f.2.1⟩,_,_,rfl,⟨e.1,e.2.1⟩,_,_,rfl,⟨d.1,d.2.1⟩,rfl⟩
  |b p A c=>
   refine⟨.big k m s p A c,?_,?_⟩
   ·simp only[cE.wf];exact⟨q,j⟩
   ·simp only[cW,cE.kind,cE.num,cE.name,cE.args];exact⟨_,_,rfl,⟨r0.1,r0.2.1⟩,_,_,rfl,⟨f.1,f.2.1⟩,_,_,rfl,⟨e.1,e.2.1⟩,_,_,rfl,⟨d.1,d.2.1⟩,rfl⟩
theorem ab8(h:jX enc ar W 0 spare held fuel 106 cs=some x):∃b:fL,b.t.wf/\reads W b.e cs:=by obtain⟨xs,n,rfl,_,hlen,e,d⟩:=DataW.trod_struct Tryz.underlying106 h;rw[Tf]at hlen;obtain⟨c0,c,c2,c3,c4,rfl⟩:=W9 hlen;have i:xs.length=2:=e;have f0:jX enc ar W 0 spare held n 3 (([c0,c,c2,c3,c4].drop 0).take (ar.cellsOf 3))=xs[0]?:=d 0 _ rfl;have f1:jX enc ar W 0 spare held n 104 (([c0,c,c2,c3,c4].drop 1).take (ar.cellsOf 104))=xs[1]?:=d 1 _ rfl;simp only[Dg,KQ,oB,mH]at f0 f1;rw[cl Ω]at f0 f1;obtain⟨k,v0,a,r0⟩:=zt f0;obtain⟨t,f,g⟩:=apV _ _ _ f1;simp only[rA,and_true]at a;subst a;refine⟨⟨k,t⟩,f,Fu ?_⟩;rw[cW];exact⟨_,_,rfl,⟨r0.1,r0.2.1⟩,g⟩
theorem akb(h:jX enc ar W 0 spare held fuel 121 cs=some x):∃b:bN,True/\reads W b.e cs:=by obtain⟨xs,n,rfl,_,hlen,g,f⟩:=DataW.trod_struct Tryz.underlying121 h;rw[Th]at hlen;obtain⟨c0,d,rfl⟩:=W8 hlen;have i:xs.length=2:=g;have f0:jX enc ar W 0 spare held n 3 (([c0,d].drop 0).take (ar.cellsOf 3))=xs[0]?:=f 0 _ rfl;have f1:jX enc ar W 0 spare held n 3 (([c0,d].drop 1).take (ar.cellsOf 3))=xs[1]?:=f 1 _ rfl;simp only[Dg,oB,mH]at f0 f1;rw[cl Ω]at f0 f1;obtain⟨k,v0,a,r0⟩:=zt f0;obtain⟨m,v1,e,c⟩:=zt f1;simp only[rA,and_true]at a e;subst a e;refine⟨⟨k,m⟩,trivial,Fu ?_⟩;simp only[cW];exact⟨_,_,rfl,⟨r0.1,r0.2.1⟩,_,_,rfl,⟨c.1,c.2.1⟩,rfl⟩
theorem akx(h:jX enc ar W 0 spare held fuel 108 cs=some x):∃b:ic,b.s.wf/\reads W b.e cs:=by obtain⟨xs,n,rfl,_,hlen,g,f⟩:=DataW.trod_struct Tryz.underlying108 h;rw[Ti]at hlen;obtain⟨c0,d,rfl⟩:=W8 hlen;have j:xs.length=2:=g;have f0:jX enc ar W 0 spare held n 3 (([c0,d].drop 0).take (ar.cellsOf 3))=xs[0]?:=f 0 _ rfl;have f1:jX enc ar W 0 spare held n 9 (([c0,d].drop 1).take (ar.cellsOf 9))=xs[1]?:=f 1 _ rfl;simp only[Dg,Tj,oB,mH]at f0 f1;rw[cl Ω]at f0 f1;obtain⟨k,v0,a,r0⟩:=zt f0;obtain⟨s,v1,i,e,c⟩:=ZT f1;simp only[rA,and_true]at a e;subst a e;refine⟨⟨k,s⟩,i,Fu ?_⟩;simp only[cW];exact⟨_,_,rfl,⟨r0.1,r0.2.1⟩,_,_,rfl,⟨c.1,c.2.1⟩,rfl⟩
theorem QL(h:jX enc ar W 0 spare held fuel 22 cs=some x):∃d:dz fL,yi d/\∃v,cs=[v]/\wu W (lb d) v:=FG fL.e (fun b=>b.t.wf) Tryz.underlying22 Tf Ω (fun _ _ _ _ a=>ab8 a) h
theorem ab9(h:jX enc ar W 0 spare held fuel 23 cs=some x):∃d:dz (dz fL),d.wf yi/\∃v,cs=[v]/\wu W (tY d) v:=FG lb yi Tryz.underlying23 Tg Ω (fun _ _ _ _ a=>by obtain⟨d,w,v,rfl,r⟩:=QL a;exact⟨d,w,r.reads⟩) h
theorem ake(h:jX enc ar W 0 spare held fuel 24 cs=some x):∃d:dz bN,d.wf (fun _=>True)/\∃v,cs=[v]/\wu W (uC d) v:=FG bN.e (fun _=>True) Tryz.underlying24 Th Ω (fun _ _ _ _ a=>akb a) h
theorem aky(h:jX enc ar W 0 spare held fuel 25 cs=some x):∃d:dz ic,d.wf (fun b=>b.s.wf)/\∃v,cs=[v]/\wu W (uJ d) v:=FG ic.e (fun b=>b.s.wf) Tryz.underlying25 Ti Ω (fun _ _ _ _ a=>akx a) h
theorem apD(h:jX enc ar W 0 spare held fuel 27 cs=some x):∃r:qc,r.wf/\reads W r.e cs:=by obtain⟨xs,n,rfl,_,hlen,u,b⟩:=DataW.trod_struct Tryz.underlying27 h;rw[acB]at hlen;obtain⟨c0,a,c2,c3,c4,rfl⟩:=W9 hlen;have y:xs.length=5:=u;have f0:jX enc ar W 0 spare held n 3 (([c0,a,c2,c3,c4].drop 0).take (ar.cellsOf 3))=xs[0]?:=b 0 _ rfl;have f1:jX enc ar W 0 spare held n 22 (([c0,a,c2,c3,c4].drop 1).take (ar.cellsOf 22))=xs[1]?:=b 1 _ rfl;have f2:jX enc ar W 0 spare held n 23 (([c0,a,c2,c3,c4].drop 2).take (ar.cellsOf 23))=xs[2]?:=b 2 _ rfl;have f3:jX enc ar W 0 spare held n 24 (([c0,a,c2,c3,c4].drop 3).take (ar.cellsOf 24))=xs[3]?:=b 3 _ rfl;have f4:jX enc ar W 0 spare held n 25 (([c0,a,c2,c3,c4].drop 4).take (ar.cellsOf 25))=xs[4]?:=b 4 _ rfl;simp only[Dg,Tg,acy,acz,acA,oB,mH]at f0 f1 f2 f3 f4;rw[cl Ω]at f0 f1 f2 f3 f4;obtain⟨k,v0,f,r0⟩:=zt f0;obtain⟨d1,v,v1,m,i⟩:=QL f1;obtain⟨d2,w,v2,o,g⟩:=ab9 f2;obtain⟨d3,s,v3,l,d⟩:=ake f3;obtain⟨d4,t,v4,j,q⟩:=aky f4;simp only[rA,and_true]at f m o l j;subst f m o l j;refine⟨⟨k,d1,d2,d3,d4⟩,⟨v,w,fun p n c e=>by simp only at e;subst e;exact s,t⟩,Fu ?_⟩;simp only[cW];exact⟨_,_,rfl,⟨r0.1,r0.2.1⟩,_,_,rfl,⟨i.1,i.2.1⟩,_,_,rfl,⟨g.1,g.2.1⟩,_,_,rfl,⟨d.1,d.2.1⟩,_,_,rfl,⟨q.1,q.2.1⟩,rfl⟩
end
end
section
open Go Go.Pv Go.ChangeShapes Go.WideShapes Go.ChangeAt Go.RowKit
theorem aoT:ownKnob ar.godebug=none:=an
theorem aoS:laidOutB ar=true:=an
def ahF(b o:Nat):Prop:= ∃x∈A7,x.1=b/\x.2.1=o
def DE(w:World):Prop:= ∀x∈A7,(∃v,w.cell? ⟨x.1,x.2.1,none⟩=some v/\x.2.2.2 v)/\∃el,Pv.shape w x.1=some (x.2.2.1,el)
theorem DE.gl{w:World}(h:DE w){Z:aZ}(be:∀b o,ahF b o->Z.A b o):nQ w Z:=fun x a=>⟨be _ _ ⟨x,a,rfl,rfl⟩,h x a⟩
theorem art{w:World}{n:String}{g:Nat}{cs:Array Value}(aY:ar.globalNamed n=some g)(h:w.var? ar n=some cs):∃el,Pv.shape w g=some (cs.size,el):=by
 simp only[World.var?,aY,k9]at h;unfold Pv.shape;split at h
 ·rename_i c t fz e;cases h;rw[e];exact⟨_,rfl⟩
 ·cases h
theorem ahG{w:World}(aM:Lib.TabIs ar w "internal/strconv.uint64pow10" .u64 Lib.pow10Tab):DE w:=by
 have g0:ar.globalNamed "internal/strconv.uint64pow10" =some 0:=an
 intro x ab;unfold A7 at ab;rw[List.append_nil]at ab;obtain⟨i,hi,rfl⟩:=iL.1 ab;have hi:=List.mem_range.1 hi;refine⟨⟨_,aM.cell g0 i (by simpa[Lib.pow10Tab]using hi),?_⟩,?_⟩
 ·show pf .u64 _=_;rw[Lib.pow10Tab_at i hi]
 ·obtain⟨el,h⟩:=art g0 aM;exact⟨el,by simpa[Lib.pow10Tab]using h⟩
theorem acn{f:FuncId}{fn:Func}(m:ar.funcs[f]? =some fn)(d:∀args w,(callFunc f args).run ar w= .ok (.enter f args) w){w:World}{Z:aZ}{args:List ah}{ba:Array Value}(gl:nQ w Z)(h:bL ar f args (.bool true))(aM:∀k j b,¬Z.tr k j b)(be:∀b o,Z.A b o->b<w.heap.size)(ae:∀k,Z.bx k=none)(ak:∀k,Z.ow k=none)(l:cH w Z args ba.toList):
  Calls ar f ba w fun e w'=>e= .returned (.bool true)/\Below w.heap.size w w':=by
 have aY:Pv.Good (fZ Z ⟨[],[]⟩) w Z [] []:=⟨be,fun k cs c=>by simp[Pv.look]at c,fun k q bl J=>by simp[Pv.look]at J,fun g o c=>by simp[Pv.look]at c,fun g p n n' v v' bl J=>by simp[Pv.look]at J,fun g k n v bl J=>by simp[Pv.look]at J,fun k=>.inl (ae k),fun _ _ k j=>aM k j _⟩;rcases h w Z ba gl aY (fun k=>⟨fun _=>ae k,fun _=>ak k,aM k⟩) l with⟨_,ax⟩|⟨v,w',ax,_⟩
 ·refine ax.mono ?_;rintro e w' ⟨v,r,s,Z',rfl,⟨rfl,rfl⟩,i,_,_,_,a⟩;simp only[aS]at i;subst i;refine⟨rfl,a.os,a.tape,a.output,a.size,fun k c=>a.block k c ?_⟩;simp[fZ,Pv.look]
 ·rw[d]at ax;cases ax
theorem adu{W:World}{b o:Nat}(h:(rR W).A b o):b<W.heap.size:=by
 obtain⟨u,hu⟩:=h;rcases Nat.lt_or_ge b W.heap.size with h|h
 ·exact h
 ·simp[World.cell?,Array.getElem?_eq_none h]at hu
theorem adt{W:World}(h:DE W):nQ W (rR W):=h.gl fun b o aY=>by obtain⟨x,a,rfl,rfl⟩:=aY;obtain⟨⟨v,c,_⟩,_⟩:=h x a;exact⟨v,c⟩
theorem aoL{W:World}{a:List ah}{us:Array Value}(h:reads W (.agg a) us.toList):aS W (rR W) (.agg a) (.agg us):=by
 obtain⟨v,J,U,_⟩:=h;have b:=U;simp only[aS]at b;obtain⟨ws,rfl,_⟩:=b;have:ws=us:=by
  have:ws.toList=us.toList:=by simpa[nM]using J
  exact Array.toList_inj.1 this
 rw[<-this];exact U
theorem apC{H:Type}{enc:fF×Value->H}{W:World}{spare:Nat->Bool}{held:Bool}{us:Array Value}{x:DataW H×List MemPlace}{fuel:Nat}(h:jX enc ar W 0 spare held fuel 27 us.toList=some x):∃r:qc,r.wf/\aS W (rR W) r.e (.agg us):=by obtain⟨r,b,a⟩:=apD h;exact⟨r,b,aoL a⟩
end
end Go.Proofs.YtfeencekjcjalaaGreatDoor
