/- Contracts: the variables of a definition are numbered. -/
import Derived.Test.YtlnndmgfngfeiaaGreatDoorProg
import Derived.Shelf.SlSortFuncK.WholeK
import Derived.Shelf.GgSortFunc.Tiny
import Derived.Ground.GgsProg
import Derived.Deep.QuietTactic
import Derived.Lib.OwnBridge
import Derived.Test.YtlnndmgfngfeiaaGreatDoorZn8
set_option linter.all false
set_option maxHeartbeats 4000000
set_option maxRecDepth 4000
open Bool renaming and_eq_true->bJ,false_eq_true->kG
open Go.Proofs.Tryz renaming prog->aF
open List renaming all_eq_true->ji,append_assoc->lr,drop_eq_getElem_cons->pR,drop_length->jR,getElem?_drop->mb,getElem?_eq_getElem->cL,getElem?_eq_some_iff->fo,length_append->gx,length_cons->gg,length_drop->hX,length_map->nh,length_nil->mJ,length_take->pS,map_cons->fF,mem_append->hl,mem_cons->gy,mem_map->nj,mem_of_getElem?->e1,take_add_one->k3,take_append_drop->ry,take_length->hE
open Nat renaming eq_or_lt_of_le->jS,le_refl->cc,lt_or_ge->mc,zero_le->pT
open Option renaming map_some->lM
open Option.some renaming inj->gB,injEq->ei
open Prod.mk renaming injEq->gY
open _root_ renaming False->dr,Option->aW,UInt8->aj,beq_eq_false_iff_ne->jj,decide_eq_true_eq->fs,if_neg->br
namespace Go.Proofs.YtlnndmgfngfeiaaGreatDoor
section
open Go Go.Pv
theorem X1{t:Tm}(h:t.fits=true):bW aF 132 [enc t] (.str (gw t)):=by have aD:=aj5 h;obtain⟨x,rfl,af⟩:=Tm.fits_ex h;rw[Ij]at aD⊢;rw[sX];exact akO x.size x (cc _) (uR af) aD
def oH:List (List aj):=[ia,iL,yH,yG,sD,sB,sx,sy,sC,[],sA]
theorem ad4:b6 oH=[.str [116,114,117,101],.str [102,97,105,108],.str [61],.str [47,61],.str [115,121,109,98,111,108],.str [110,117,109,98,101,114],.str [97,98,115,101,110,116],.str [97,110,100],.str [111,114],.str [],.str [110,111,116]]:=rfl
theorem X4:bW aF 131 [] (.slice 1 .no (b6 oH)):=by rw[ad4];refine bI jx ack ahW fun aG=>?_;unfold Qd;clear aG;exact bY
def uB(g:Gm)(i:Nat)(p:List (List aj)):aU:=⟨[(1,.ptr (.loc 0) 0),(4,.slice 1 (.own (.loc 54)) (b6 p)),(24,.slice 4 .no (g.ts.map enc)),(25,.int .i64 g.ts.length),(26,.int .i64 i)],[(.loc 0,[.int .i64 g.kind,.str g.name,.slice 4 .no (g.ts.map enc),.slice 4 .no (g.gs.map Gm.e)])],[(.loc 54,⟨p.length,9,1,none⟩)],55,[]⟩
def uD(g:Gm)(i:Nat)(p:List (List aj)):aU:=⟨[(4,.slice 1 (.own (.loc 54)) (b6 p)),(37,.slice 4 .no (g.gs.map Gm.e)),(38,.int .i64 g.gs.length),(39,.int .i64 i)],[],[(.loc 54,⟨p.length,9,1,none⟩)],55,[]⟩
theorem adX{g:Gm}(az:g.shape=true):∃(k:Nat) (w:List aj),g.kind=k/\oH[k]? =some w/\k<11/\w++g.name=(if g.kind=9 then g.name else jV g.kind)/\w.length<=12:=by
 obtain⟨I,J,_⟩:=(Ny g).1 az;obtain⟨k,ab⟩:∃k:Nat,g.kind=k:=⟨g.kind.toNat,Ω⟩;by_cases ec:g.kind=9
 ·have:k=9:=Ω
  subst this;exact⟨9,[],ab,rfl,Ω,by rw[if_pos ec];rfl,Ψ⟩
 ·rw[J ec,br ec,ab];rcases(by omega:k=0\/k=1\/k=2\/k=3\/k=4\/k=5\/k=6\/k=7\/k=8\/k=10)with rfl|rfl|rfl|rfl|rfl|rfl|rfl|rfl|rfl|rfl;all_goals exact⟨_,_,rfl,rfl,Ω,by rfl,by decide⟩
theorem akU:∀(n:Nat) (g:Gm),g.sz<=n->g.shape=true->g.w<=100000000->bW aF 58 [g.e] (.str (fH g)):=by
 intro n;induction n with
 |zero=>intro g aS;have:=g.sz_pos;omega
 |succ n aX=>
 intro g aS az hw;have jY:=ET az;have tJ:=X4;obtain⟨k,w,ab,SS,Gx,rY,u5⟩:=adX az;have hI:k<(b6 oH).length:=Gx;have eT:∀h,((b6 oH)[k]'h)= .str w:=fun h=>by rw[l8 Gx];rw[cL Gx]at SS;rw[gB SS]
 have wj:(b6 oH)[k]? =some (.str w):=by rw[cL hI,eT]
 have jf:=Ib az;have gj:k<oH.length:=Gx;have oI:w.length+g.name.length<=aR:=by unfold aR;omega
 by_cases I:g.kind<=1
 ·have xI:g.kind=0\/g.kind=1:=Ω
  have ec:¬g.kind=9:=Ω
  rw[vU,if_pos xI];rw[br ec]at rY;rw[<-rY];have Gw:(k:Int)<=1:=Ω
  clear aX rY;refine bI jx J6 MD fun aG=>?_;unfold Fz;clear aG;simp[ab];(with_reducible repeat' first|refine av ?_|refine aZ tJ ?_|refine a1 tJ ?_|simp[ab,hI,eT,wj,oI,Gw,gj]);simp[cn,Wi,ba,bg,aT]
 ·have xI:¬(g.kind=0\/g.kind=1):=Ω
  have Gw:¬(k:Int)<=1:=Ω
  by_cases ec:g.kind=9
  ·rw[if_pos ec]at rY;refine bI jx J6 MD fun aG=>?_;unfold Fz;clear aG;simp[ab];(with_reducible repeat' first|refine av ?_|refine aZ tJ ?_|refine a1 tJ ?_|simp[ab,hI,eT,wj,oI,Gw,gj,rY]);refine fA (uB g) g.ts.length (fun i p=>p=g.name::(g.ts.map gw).take i) [g.name] (by simp[uB,ll,mF,ab];exact cW) Ψ (fun p ai _=>?_) (fun i p aw ai _=>?_)
   ·rw[<-nh (f:=gw),hE]at ai;subst ai;simp[uB];(with_reducible repeat' first|refine av ?_|simp);refine fA (uD g) g.gs.length (fun i p=>p=g.name::(g.ts.map gw++(g.gs.map fH).take i)) (g.name::g.ts.map gw) (by simp[uD,ll];exact cW) Ψ (fun p ai _=>?_) (fun i p aw ai _=>?_)
    ·rw[<-nh (f:=fH),hE]at ai;have tl:fH g=40::(fl [32] p++[41]):=by rw[vU,br xI,ai];simp[ec,ec]
     have k7:=CY g.sz g (cc _) az;rw[tl]at k7⊢;simp only[gg,gx,mJ]at k7;have fJ:(fl [32] p).length<=aR:=by unfold aR;omega
     have fe:(fl [32] p).length+1<=aR:=by unfold aR;omega
     have pw:(fl [32] p).length+1+1<=aR:=by unfold aR;omega
     have qX:1+(fl [32] p).length<=aR:=by unfold aR;omega
     have wk:1+(fl [32] p).length+1<=aR:=by unfold aR;omega
     have zB:=X9 p [32] fJ;clear ai tl k7 aX;simp[uD];exact bY
    ·obtain⟨x,af,db⟩:=fQ aw;have nE:=e1 af;have eY:=aX x (by have:=g.gs_lt nE;omega) (shape_gs az x nE) (by rw[Fa]at hw;have:=Ea Gm.w nE;omega)
     have eM:p.length+1<=aR:=by rw[ai];simp;unfold aR;omega
     have bZ:aY ((i:Int)+1):=by unfold aY;omega
     have aM:p++[fH x]=g.name::(g.ts.map gw++(g.gs.map fH).take (i+1)):=by rw[ai,x9 fH af];simp
     clear aX ai af;simp[uD,aw,db];(with_reducible repeat' first|refine av ?_|refine aZ eY ?_|refine a1 eY ?_|simp[aw,db,eM,bZ]);refine b1.rng (p++[fH x]) aw aM (by simp[uD,qq,ll,mF];exact⟨by simp[fresh,kinL,kin,bu,ak,Pv.look,cv],cG (by simp[fresh,kinL,kin,bu,ak,Pv.look,cv]),cI (by simp[fresh,kinL,kin,cw,ak,Pv.look,cv]),Ψ⟩)
   ·obtain⟨x,af,db⟩:=fQ aw;have eY:=X1 (sf az x (e1 af));have eM:p.length+1<=aR:=by rw[ai];simp;unfold aR;omega
    have bZ:aY ((i:Int)+1):=by unfold aY;omega
    have aM:p++[gw x]=g.name::(g.ts.map gw).take (i+1):=by rw[ai,x9 gw af];simp
    clear aX ai af;simp[uB,aw,db];(with_reducible repeat' first|refine av ?_|refine aZ eY ?_|refine a1 eY ?_|simp[aw,db,eM,bZ]);refine b1.rng (p++[gw x]) aw aM (by simp[uB,qq,ll,mF];exact⟨by simp[fresh,kinL,kin,bu,ak,Pv.look,cv],cG (by simp[fresh,kinL,kin,bu,ak,Pv.look,cv]),cI (by simp[fresh,kinL,kin,cw,ak,Pv.look,cv]),Ψ⟩)
  ·rw[br ec]at rY;refine bI jx J6 MD fun aG=>?_;unfold Fz;clear aG;simp[ab];(with_reducible repeat' first|refine av ?_|refine aZ tJ ?_|refine a1 tJ ?_|simp[ab,hI,eT,wj,oI,Gw,gj,rY]);refine fA (uB g) g.ts.length (fun i p=>p=jV g.kind::(g.ts.map gw).take i) [jV g.kind] (by simp[uB,ll,mF,ab];exact cW) Ψ (fun p ai _=>?_) (fun i p aw ai _=>?_)
   ·rw[<-nh (f:=gw),hE]at ai;subst ai;simp[uB];(with_reducible repeat' first|refine av ?_|simp);refine fA (uD g) g.gs.length (fun i p=>p=jV g.kind::(g.ts.map gw++(g.gs.map fH).take i)) (jV g.kind::g.ts.map gw) (by simp[uD,ll];exact cW) Ψ (fun p ai _=>?_) (fun i p aw ai _=>?_)
    ·rw[<-nh (f:=fH),hE]at ai;have tl:fH g=40::(fl [32] p++[41]):=by rw[vU,br xI,ai];simp[ec,ec]
     have k7:=CY g.sz g (cc _) az;rw[tl]at k7⊢;simp only[gg,gx,mJ]at k7;have fJ:(fl [32] p).length<=aR:=by unfold aR;omega
     have fe:(fl [32] p).length+1<=aR:=by unfold aR;omega
     have pw:(fl [32] p).length+1+1<=aR:=by unfold aR;omega
     have qX:1+(fl [32] p).length<=aR:=by unfold aR;omega
     have wk:1+(fl [32] p).length+1<=aR:=by unfold aR;omega
     have zB:=X9 p [32] fJ;clear ai tl k7 aX;simp[uD];exact bY
    ·obtain⟨x,af,db⟩:=fQ aw;have nE:=e1 af;have eY:=aX x (by have:=g.gs_lt nE;omega) (shape_gs az x nE) (by rw[Fa]at hw;have:=Ea Gm.w nE;omega)
     have eM:p.length+1<=aR:=by rw[ai];simp;unfold aR;omega
     have bZ:aY ((i:Int)+1):=by unfold aY;omega
     have aM:p++[fH x]=jV g.kind::(g.ts.map gw++(g.gs.map fH).take (i+1)):=by rw[ai,x9 fH af];simp
     clear aX ai af;simp[uD,aw,db];(with_reducible repeat' first|refine av ?_|refine aZ eY ?_|refine a1 eY ?_|simp[aw,db,eM,bZ]);refine b1.rng (p++[fH x]) aw aM (by simp[uD,qq,ll,mF];exact⟨by simp[fresh,kinL,kin,bu,ak,Pv.look,cv],cG (by simp[fresh,kinL,kin,bu,ak,Pv.look,cv]),cI (by simp[fresh,kinL,kin,cw,ak,Pv.look,cv]),Ψ⟩)
   ·obtain⟨x,af,db⟩:=fQ aw;have eY:=X1 (sf az x (e1 af));have eM:p.length+1<=aR:=by rw[ai];simp;unfold aR;omega
    have bZ:aY ((i:Int)+1):=by unfold aY;omega
    have aM:p++[gw x]=jV g.kind::(g.ts.map gw).take (i+1):=by rw[ai,x9 gw af];simp
    clear aX ai af;simp[uB,aw,db];(with_reducible repeat' first|refine av ?_|refine aZ eY ?_|refine a1 eY ?_|simp[aw,db,eM,bZ]);refine b1.rng (p++[gw x]) aw aM (by simp[uB,qq,ll,mF];exact⟨by simp[fresh,kinL,kin,bu,ak,Pv.look,cv],cG (by simp[fresh,kinL,kin,bu,ak,Pv.look,cv]),cI (by simp[fresh,kinL,kin,cw,ak,Pv.look,cv]),Ψ⟩)
end
end Go.Proofs.YtlnndmgfngfeiaaGreatDoor
namespace Go.Pv
section
open Go Go.Lib
def xC:Gm:= .mk 0 [] [] []
def Y6(es:List Ey)(P:List Rl):Prop:= ∀(s:List aj) (r:Rl),P.find? (fun r=>r.name==s)=some r->∃(k:Nat) (f:Ey),QV es s=(k:Nat)/\es[k]? =some f/\f.ar=r.ar
section
variable {c:Cd} {P:List Rl} {e:Ey} {AL:Int} (aH:Y6 c.es P)
include aH
end
end
end Go.Pv
namespace Go.Proofs.YtlnndmgfngfeiaaGreatDoor
section
open Go Go.Pv
theorem kk:hn ⟨[],[]⟩:=⟨⟨fun _=>rfl,fun _=>rfl⟩,fun k cs h=>by simp[Pv.look]at h,fun k cs h=>by simp[Pv.look]at h⟩
def Cs(l:List (List aj))(o:aW (Gm×List (List aj)))(r:ae)(al:dJ):Prop:=al=⟨[],[]⟩/\match o with
 |some (g,rest)=>r= .tuple [g.e,.int .i64 (l.length-rest.length:Nat),.bool true]
 |none=> ∃(g:Gm) (k:Int),r= .tuple [g.e,.int .i64 k,.bool false]
theorem cO.rd{dv:List ca}{e:Exit}{st:aU}(l:List (List aj))(o:aW (Gm×List (List aj)))(x:ae)(k:Int)(b:Bool)(iR:e= .ret\/e= .normal)(jb:Cs l o (.tuple [x,.int .i64 k,.bool b]) ⟨[],[]⟩)(ab:kin (fun _=>dr) x)(h:c8 st dv fun r=>r= .tuple [x,.int .i64 k,.bool b]):cO dv ⟨[],[]⟩ (Cs l o) e st:=by
 refine cO.at ⟨[],[]⟩ iR kk (Same.refl _) (fun k cs h=>by simp[Pv.look]at h) (fun k cs h=>by simp[Pv.look]at h) ?_;unfold c8 at h⊢;split at h
 ·rename_i c bj hr;refine⟨h.1,?_⟩;rw[h.2];refine⟨?_,jb⟩;simp only[kin,kinL,and_true];exact oQ (fun _ h=>h.elim) _ ab
 ·exact h.elim
theorem pW{l:List (List aj)}{g:Gm}{x:ae}(h:x=g.e)(k:Int):Cs l none (.tuple [x,.int .i64 k,.bool false]) ⟨[],[]⟩:=⟨rfl,g,k,by rw[h]⟩
theorem Al{l rest:List (List aj)}{g:Gm}{x:ae}(h:x=g.e){k:Int}(ab:k=(l.length-rest.length:Nat)):Cs l (some (g,rest)) (.tuple [x,.int .i64 k,.bool true]) ⟨[],[]⟩:=⟨rfl,by rw[h,ab]⟩
@[simp]theorem anY(a b c d:ae):Pv.isAgg 4 (.agg [a,b,c,d]):=⟨_,rfl,rfl⟩
theorem vV:xC.e= .agg [.int .i64 0,.str [],.slice 4 .no [],.slice 4 .no []]:=by rw[Gm.e_eq];rfl
theorem s5(k:Int)(s:List aj)(ts:List T)(gs:List Gm):(Gm.mk k s (ts.map T.tm) gs).e= .agg [.int .i64 k,.str s,.slice 4 .no (ts.map T.e),.slice 4 .no (gs.map Gm.e)]:=by rw[Gm.e_eq];simp only[Gm.kind,Gm.name,Gm.ts,Gm.gs,List.map_map];rw[show ts.map (enc∘T.tm)=ts.map T.e from List.map_congr_left fun t _=>sX t]
def nz(h:List aj):Nat->Int×List aj
 |0=>(9,h)
 |i+1=>if oH[i]? =some h then((i:Int),[])else nz h i
theorem adW{h:List aj}(b7:h≠[]):Go.Pv.hdS h=some (nz h 11):=by
 unfold Go.Pv.hdS oG;by_cases a0:h=ia
 ·subst a0;rfl
 by_cases bH:h=iL
 ·subst bH;rfl
 by_cases a2:h=yH
 ·subst a2;rfl
 by_cases a3:h=yG
 ·subst a3;rfl
 by_cases a4:h=sD
 ·subst a4;rfl
 by_cases a5:h=sB
 ·subst a5;rfl
 by_cases Fk:h=sx
 ·subst Fk;rfl
 by_cases o5:h=sy
 ·subst o5;rfl
 by_cases IH:h=sC
 ·subst IH;rfl
 by_cases a9:h=sA
 ·subst a9;rfl
 rw[br a0,br bH,br a2,br a3,br a4,br a5,br Fk,br o5,br IH,br a9];have key:∀i,i<=11->nz h i=(9,h):=by
  intro i;induction i with
  |zero=>intro _;rfl
  |succ i aX=>
   intro aw;unfold nz;rw[br fun e=>?_]
   ·exact aX Ω
   ·have:=e1 e;simp[oH,a0,bH,a2,a3,a4,a5,Fk,o5,IH,a9,b7]at this
 rw[key 11 Ω]
theorem SD(h:List aj):∀i,i<=11->0<=(nz h i).1/\(nz h i).1<=10
 |0,_=>by simp[nz]
 |i+1,aw=>by
  unfold nz;split
  ·simp only;omega
  ·exact SD h i Ω
def h0(k:Int)(s:List aj)(x y:ae):List (aC×List ae):=[(.loc 0,[.int .i64 0,.str [],.slice 4 .nil [],.slice 4 .nil []]),(.loc 1,[.int .i64 k,.str s,x,y])]
def yN(l:List (List aj))(h:List aj)(i:Nat)(j:Nat)(_:Unit):aU:=⟨[(0,.slice 1 .no (b6 l)),(1,.int .i64 i),(4,.ptr (.loc 0) 0),(7,.ptr (.loc 1) 0),(63,.slice 1 .no (b6 oH)),(64,.int .i64 11),(65,.int .i64 j)],h0 (nz h j).1 (nz h j).2 (.slice 4 .nil []) (.slice 4 .nil []),[],2,[]⟩
def rC(l:List (List aj))(dW:Int)(s:List aj):List Gm×Nat×Nat->aU
 |([],j,_)=>⟨[(0,.slice 1 .no (b6 l)),(1,.int .i64 j),(4,.ptr (.loc 0) 0),(7,.ptr (.loc 1) 0)],h0 dW s (.slice 4 .nil []) (.slice 4 .nil []),[],2,[]⟩
 |(x::xs,j,_)=>⟨[(0,.slice 1 .no (b6 l)),(1,.int .i64 j),(4,.ptr (.loc 0) 0),(7,.ptr (.loc 1) 0)],h0 dW s (.slice 4 .nil []) (.slice 4 (.own (.loc 4)) (x.e::xs.map Gm.e)),[(.loc 4,⟨xs.length+1,65,4,none⟩)],5,[]⟩
def pX(l:List (List aj))(dW:Int)(s:List aj):List T×Nat×Nat->aU
 |([],j,_)=>⟨[(0,.slice 1 .no (b6 l)),(1,.int .i64 j),(4,.ptr (.loc 0) 0),(7,.ptr (.loc 1) 0)],h0 dW s (.slice 4 .nil []) (.slice 4 .nil []),[],2,[]⟩
 |(x::xs,j,_)=>⟨[(0,.slice 1 .no (b6 l)),(1,.int .i64 j),(4,.ptr (.loc 0) 0),(7,.ptr (.loc 1) 0)],h0 dW s (.slice 4 (.own (.loc 4)) (x.e::xs.map T.e)) (.slice 4 .nil []),[(.loc 4,⟨xs.length+1,40,4,none⟩)],5,[]⟩
set_option maxRecDepth 8000 in
theorem acY(l:List (List aj))(aD:l.length<=100000)(hw:∀w∈l,w≠[]):∀n i:Nat,i<=l.length->2*(l.length-i)+1<=n->b3 aF 154 [.slice 1 .no (b6 l),.int .i64 i] ⟨[],[]⟩ (Cs l (fp j2 Go.Pv.hdS n (l.drop i))):=by
 intro n;induction n using Nat.strongRecOn with
 |_ n aX=>
 intro i hH aM;obtain⟨n,rfl⟩:∃m,n=m+1:=⟨n-1,Ω⟩;have bZ:aY ((i:Int)+1):=by unfold aY;omega
 rcases jS hH with rfl|aw
 ·have e:fp j2 Go.Pv.hdS (n+1) (l.drop l.length)=none:=by rw[jR];simp[fp]
  rw[e];clear aX;have je:(l.length:Int)<=(l.length:Int)+1:=Ω
  have az:=kk;refine b3.mk mixed h8 y9 zN Ψ az.obj fun aG b2=>?_;unfold xq;clear aG b2;simp;(with_reducible repeat' first|refine av ?_|simp[bZ,je]);refine cO.rd l _ (.agg [.int .i64 0,.str [],.slice 4 .no [],.slice 4 .no []]) 0 false Ψ (pW vV.symm 0) (by simp[kin,kinL]) ?_;simp[c8,l5,ba,bg,aT]
 obtain⟨w,af⟩:∃v,l[i]? =some v:=⟨_,cL aw⟩;have fh:∀cK,((b6 l)[i]'cK)= .str w:=fun cK=>by rw[l8 aw];rw[cL aw]at af;rw[gB af]
 have b5:(i:Int)<l.length:=Ω
 rw[fM af];by_cases aE:w=ia
 ·subst aE;have e:fp j2 Go.Pv.hdS (n+1) (ia::l.drop (i+1))=some (.mk 0 [] [] [],l.drop (i+1)):=by simp[fp]
  rw[e];unfold ia at fh af;clear aX;have az:=kk;refine b3.mk mixed h8 y9 zN Ψ az.obj fun aG b2=>?_;unfold xq;clear aG b2;simp;(with_reducible repeat' first|refine av ?_|simp[bZ,aw,b5,fh,af]);refine cO.rd l _ (.agg [.int .i64 0,.str [],.slice 4 .no [],.slice 4 .no []]) ((i:Int)+1) true Ψ (Al vV.symm (by rw[hX];omega)) (by simp[kin,kinL]) ?_;simp[c8,l5,ba,bg,aT]
 have BF:(w==[116,114,117,101])=false:=wM aE;by_cases aK:w=iL
 ·subst aK;have e:fp j2 Go.Pv.hdS (n+1) (iL::l.drop (i+1))=some (.mk 1 [] [] [],l.drop (i+1)):=by simp[fp,aE]
  rw[e];unfold iL at fh af BF;clear aX;have az:=kk;refine b3.mk mixed h8 y9 zN Ψ az.obj fun aG b2=>?_;unfold xq;clear aG b2;simp;(with_reducible repeat' first|refine av ?_|simp[bZ,aw,b5,fh,af]);refine cO.rd l _ (.agg [.int .i64 1,.str [],.slice 4 .no [],.slice 4 .no []]) ((i:Int)+1) true Ψ (Al (s5 1 [] [] []).symm (by rw[hX];omega)) (by simp[kin,kinL]) ?_;simp[c8,l5,ba,bg,aT]
 have Eg:(w==[102,97,105,108])=false:=wM aK;by_cases pk:w=[40];rotate_left
 ·have tR:=r5 pk;have e:fp j2 Go.Pv.hdS (n+1) (w::l.drop (i+1))=none:=by simp[fp,aE,aK,pk]
  rw[e];clear aX;by_cases je:(l.length:Int)<=(i:Int)+1
  ·have az:=kk;refine b3.mk mixed h8 y9 zN Ψ az.obj fun aG b2=>?_;unfold xq;clear aG b2;simp;(with_reducible repeat' first|refine av ?_|simp[bZ,aw,b5,fh,af,BF,Eg,je]);refine cO.rd l _ (.agg [.int .i64 0,.str [],.slice 4 .no [],.slice 4 .no []]) 0 false Ψ (pW vV.symm 0) (by simp[kin,kinL]) ?_;simp[c8,l5,ba,bg,aT]
  ·have az:=kk;refine b3.mk mixed h8 y9 zN Ψ az.obj fun aG b2=>?_;unfold xq;clear aG b2;simp;((with_reducible repeat' first|refine av ?_|simp[bZ,aw,b5,fh,af,BF,Eg,je,tR]|((first|apply dt|apply dx|apply dw)<;>intro h<;>try simp at h))<;>(try exact dQ));refine cO.rd l _ (.agg [.int .i64 0,.str [],.slice 4 .no [],.slice 4 .no []]) 0 false Ψ (pW vV.symm 0) (by simp[kin,kinL]) ?_;simp[c8,l5,ba,bg,aT]
 subst pk;rcases jS (show i+1<=l.length from aw)with I|I
 ·have e:fp j2 Go.Pv.hdS (n+1) ([40]::l.drop (i+1))=none:=by rw[I,jR];simp[fp,aE,aK]
  rw[e];have je:(l.length:Int)<=(i:Int)+1:=Ω
  clear aX;have az:=kk;refine b3.mk mixed h8 y9 zN Ψ az.obj fun aG b2=>?_;unfold xq;clear aG b2;simp;(with_reducible repeat' first|refine av ?_|simp[bZ,aw,b5,fh,af,BF,Eg,je]);refine cO.rd l _ (.agg [.int .i64 0,.str [],.slice 4 .no [],.slice 4 .no []]) 0 false Ψ (pW vV.symm 0) (by simp[kin,kinL]) ?_;simp[c8,l5,ba,bg,aT]
 obtain⟨h,bR⟩:∃v,l[i+1]? =some v:=⟨_,cL I⟩;have Gu:∀cK,((b6 l)[i+1]'cK)= .str h:=fun cK=>by rw[l8 I];rw[cL I]at bR;rw[gB bR]
 have b7:=hw h (e1 bR);have je:¬(l.length:Int)<=(i:Int)+1:=Ω
 have n1:(0:Int)<=(i:Int)+1:=Ω
 have Bd:(i:Int)+1<l.length:=Ω
 have mq:((i:Int)+1).toNat=i+1:=Ω
 have Sm:aY ((i:Int)+2):=by unfold aY;omega
 have K0:=SD h;obtain⟨O,gR⟩:∃O,O=fp j2 Go.Pv.hdS (n+1) ([40]::l.drop (i+1)):=⟨_,rfl⟩;rw[<-gR];have zh:e2 j2 Go.Pv.hdS n (nz h 11).1 (nz h 11).2 [] [] (l.drop (i+2))=O:=by rw[gR,fM bR];simp only[fp];rw[br (by decide),br (by decide),if_pos trivial,adW b7]
 have tJ:=X4;clear gR;have az:=kk;refine b3.mk mixed h8 y9 zN Ψ az.obj fun aG b2=>?_;unfold xq;clear aG b2;simp;(with_reducible repeat' first|refine av ?_|refine aZ tJ ?_|refine a1 tJ ?_|simp[bZ,aw,b5,fh,af,BF,Eg,je,n1,Bd,mq,Gu,bR,I]);refine fA (yN l h i) 11 (fun _ _=>True) () (by simp[yN,h0,nz,oH,n1];exact⟨by simp[fresh,kinL,kin,bu,ak,Pv.look,e8],cG (by simp[fresh,kinL,kin,bu,ak,Pv.look,e8]),cI (by simp[fresh,kinL,kin,cw,ak,Pv.look,e8]),Ψ⟩) trivial (fun _ _ _=>?_) (fun j _ ai _ _=>?_);rotate_left
 ·obtain⟨u,hu⟩:∃u,oH[j]? =some u:=⟨_,cL ai⟩;have mr:j<oH.length:=ai;have kR:∀h,((b6 oH)[j]'h)= .str u:=fun h=>by rw[l8 mr];rw[cL mr]at hu;rw[gB hu]
  have hy:aY ((j:Int)+1):=by unfold aY;omega
  have fU:j<(b6 oH).length:=ai;have eU:nz h (j+1)=if u=h then((j:Int),[])else nz h j:=by show(if oH[j]? =some h then((j:Int),[])else nz h j)=_;rw[hu];simp only[ei]
  clear aX zh K0 tJ;by_cases he:u=h
  ·subst he;rw[if_pos rfl]at eU;simp[yN,h0,ai];((with_reducible repeat' first|refine av ?_|simp[ai,kR,hu,mr,fU,bZ,n1,Bd,mq,Gu,bR,I,hy]|((first|apply dt|apply dx|apply dw)<;>intro h<;>try simp at h))<;>(try exact dQ));refine b1.rng () ai trivial (by simp[yN,h0,eU];exact⟨by simp[fresh,kinL,kin,bu,ak,Pv.look,e8],cG (by simp[fresh,kinL,kin,bu,ak,Pv.look,e8]),cI (by simp[fresh,kinL,kin,cw,ak,Pv.look,e8]),Ψ⟩)
  ·rw[br he]at eU;have ah:=wM he;simp[yN,h0,ai];((with_reducible repeat' first|refine av ?_|simp[ai,kR,hu,mr,fU,bZ,n1,Bd,mq,Gu,bR,I,hy,ah]|((first|apply dt|apply dx|apply dw)<;>intro h<;>try simp at h))<;>(try exact dQ));refine b1.rng () ai trivial (by simp[yN,h0,eU];exact⟨by simp[fresh,kinL,kin,bu,ak,Pv.look,e8],cG (by simp[fresh,kinL,kin,bu,ak,Pv.look,e8]),cI (by simp[fresh,kinL,kin,cw,ak,Pv.look,e8]),Ψ⟩)
 obtain⟨kE,eZ⟩:=K0 11 Ω;have kt:((i+2:Nat):Int)=(i:Int)+2:=Ω
 clear tJ K0 fh af Gu bR je n1 Bd mq bZ BF Eg aE aK b5;simp[yN,h0];generalize (nz h 11).1=dW at zh kE eZ⊢;generalize (nz h 11).2=nm at zh⊢;cases qb:lE dW
 ·have GH:(dW==7)=false:=by simp[lE]at qb;exact jj.2 qb.1.1
  have GI:(dW==8)=false:=by simp[lE]at qb;exact jj.2 qb.1.2
  have oJ:(dW==10)=false:=by simp[lE]at qb;exact jj.2 qb.2
  (with_reducible repeat' first|refine av ?_|simp[Sm]);refine hR (pX l dW nm) (fun x=>l.length-x.2.1) (fun x=>x.2.1<=l.length/\2*(l.length-x.2.1)+2<=x.2.2/\x.2.2<=n/\e2 j2 Go.Pv.hdS x.2.2 dW nm x.1 [] (l.drop x.2.1)=O/\x.1.length<=x.2.1) ([],i+2,n) (by simp[pX,h0,kt];exact cW) ⟨by simp;omega,by simp;omega,cc _,zh,Ψ⟩ ?_;rintro⟨acc,j,k⟩ ⟨ai,ab,k8,eg,iF⟩ _;simp only at ai ab k8 eg iF;clear zh aX;obtain⟨k,rfl⟩:∃m,k=m+1:=⟨k-1,Ω⟩;have iG:acc.length+1<=aR:=by unfold aR;omega
  rcases jS ai with rfl|fU
  ·rw[jR]at eg;simp only[e2]at eg;subst eg;have hy:aY ((l.length:Int)+1):=by unfold aY;omega
   cases acc with
   |nil=>simp[pX,h0];(with_reducible repeat' first|refine av ?_|simp[hy]);refine cO.rd l _ (.agg [.int .i64 dW,.str nm,.slice 4 .no [],.slice 4 .no []]) ((l.length:Int)+1) false Ψ (pW (s5 dW nm [] []).symm _) (by simp[kin,kinL]) ?_;simp[c8,l5,ba,bg,aT]
   |cons a e3=>simp[pX,h0];(with_reducible repeat' first|refine av ?_|simp[hy]);refine cO.rd l _ (.agg [.int .i64 dW,.str nm,.slice 4 .no ((a::e3).map T.e),.slice 4 .no []]) ((l.length:Int)+1) false Ψ (pW (s5 dW nm (a::e3) []).symm _) (by simp[kin,kinL]) ?_;simp[c8,l5,ba,bg,aT]
  obtain⟨v,aN⟩:∃v,l[j]? =some v:=⟨_,cL fU⟩;have gF:∀cK,((b6 l)[j]'cK)= .str v:=fun cK=>by rw[l8 fU];rw[cL fU]at aN;rw[gB aN]
  have hy:aY ((j:Int)+1):=by unfold aY;omega
  have pv:(j:Int)<l.length:=Ω
  rw[fM aN]at eg;by_cases fa:v=[41]
  ·subst fa;simp only[e2,if_true]at eg;have nA:((j:Int)+1)=((l.length-(l.drop (j+1)).length:Nat):Int):=by rw[hX];omega
   by_cases hI:1<dW
   ·rw[if_pos hI]at eg;subst eg;cases acc with
    |nil=>simp[pX,h0];(with_reducible repeat' first|refine av ?_|simp[hy,fU,pv,gF,aN,hI]);refine cO.rd l _ (.agg [.int .i64 dW,.str nm,.slice 4 .no [],.slice 4 .no []]) ((j:Int)+1) true Ψ (Al (s5 dW nm [] []).symm nA) (by simp[kin,kinL]) ?_;simp[c8,l5,ba,bg,aT]
    |cons a e3=>simp[pX,h0];(with_reducible repeat' first|refine av ?_|simp[hy,fU,pv,gF,aN,hI]);refine cO.rd l _ (.agg [.int .i64 dW,.str nm,.slice 4 .no ((a::e3).map T.e),.slice 4 .no []]) ((j:Int)+1) true Ψ (Al (s5 dW nm (a::e3) []).symm nA) (by simp[kin,kinL]) ?_;simp[c8,l5,ba,bg,aT]
   ·rw[br hI]at eg;subst eg;cases acc with
    |nil=>simp[pX,h0];(with_reducible repeat' first|refine av ?_|simp[hy,fU,pv,gF,aN,hI]);refine cO.rd l _ (.agg [.int .i64 dW,.str nm,.slice 4 .no [],.slice 4 .no []]) ((j:Int)+1) false Ψ (pW (s5 dW nm [] []).symm _) (by simp[kin,kinL]) ?_;simp[c8,l5,ba,bg,aT]
    |cons a e3=>simp[pX,h0];(with_reducible repeat' first|refine av ?_|simp[hy,fU,pv,gF,aN,hI]);refine cO.rd l _ (.agg [.int .i64 dW,.str nm,.slice 4 .no ((a::e3).map T.e),.slice 4 .no []]) ((j:Int)+1) false Ψ (pW (s5 dW nm (a::e3) []).symm _) (by simp[kin,kinL]) ?_;simp[c8,l5,ba,bg,aT]
  have oc:=r5 fa;have dD:=akP l aD hw (2*(l.length-j)+1) j Ω (cc _);have fR:rd im (2*(l.length-j)+1) (l.drop j)=j2 (v::l.drop (j+1)):=by unfold j2;rw[<-fM aN,hX]
  rw[fR]at dD;simp only[e2,br fa,qb,kG,if_false]at eg;cases du:j2 (v::l.drop (j+1))with
  |none=>
   rw[du]at dD eg;simp only[kV]at eg dD;subst eg;generalize rb l j=q at dD;cases acc with
   |nil=>simp[pX,h0];((with_reducible repeat' first|refine av ?_|refine aZ dD ?_|refine a1 dD ?_|simp[hy,fU,pv,gF,aN,oc,GH,GI,oJ]|((first|apply dt|apply dx|apply dw)<;>intro h<;>try simp at h))<;>(try exact dQ));refine cO.rd l _ (.agg [.int .i64 0,.str [],.slice 4 .no [],.slice 4 .no []]) 0 false Ψ (pW vV.symm 0) (by simp[kin,kinL]) ?_;simp[c8,l5,ba,bg,aT]
   |cons a e3=>simp[pX,h0];((with_reducible repeat' first|refine av ?_|refine aZ dD ?_|refine a1 dD ?_|simp[hy,fU,pv,gF,aN,oc,GH,GI,oJ]|((first|apply dt|apply dx|apply dw)<;>intro h<;>try simp at h))<;>(try exact dQ));refine cO.rd l _ (.agg [.int .i64 0,.str [],.slice 4 .no [],.slice 4 .no []]) 0 false Ψ (pW vV.symm 0) (by simp[kin,kinL]) ?_;simp[c8,l5,ba,bg,aT]
  |some tr=>
   obtain⟨t,rest⟩:=tr;rw[du]at dD eg;obtain⟨gn,oO⟩:=HY (j:=j) (by rw[fM aN];exact(E1 _ _ _ du).1);have DN:=(E1 _ _ _ du).2;have Tg:rest.length<l.length-j:=by simp at DN;omega
   obtain⟨p,aV⟩:∃p,p=l.length-rest.length:=⟨_,rfl⟩;simp only[kV,<-aV]at dD;simp only at eg;rw[<-aV]at gn;rw[gn]at eg;cases acc with
   |nil=>simp[pX,h0];((with_reducible repeat' first|refine av ?_|refine aZ dD ?_|refine a1 dD ?_|simp[hy,fU,pv,gF,aN,oc,GH,GI,oJ]|((first|apply dt|apply dx|apply dw)<;>intro h<;>try simp at h))<;>(try exact dQ));refine b1.whl ([t],p,k) (by show l.length-p<l.length-j;omega) ⟨by show p<=l.length;omega,by show 2*(l.length-p)+2<=k;omega,by show k<=n;omega,eg,by simp;omega⟩ (by simp[pX,h0];exact⟨by simp[fresh,kinL,kin,bu,ak,Pv.look,cv],cG (by simp[fresh,kinL,kin,bu,ak,Pv.look,cv]),cI (by simp[fresh,kinL,kin,cw,ak,Pv.look,cv]),Ψ⟩)
   |cons a e3=>simp only[gg]at iG;simp[pX,h0];((with_reducible repeat' first|refine av ?_|refine aZ dD ?_|refine a1 dD ?_|simp[hy,fU,pv,gF,aN,oc,GH,GI,oJ,iG]|((first|apply dt|apply dx|apply dw)<;>intro h<;>try simp at h))<;>(try exact dQ));refine b1.whl (a::(e3++[t]),p,k) (by show l.length-p<l.length-j;omega) ⟨by show p<=l.length;omega,by show 2*(l.length-p)+2<=k;omega,by show k<=n;omega,eg,by simp at iF⊢;omega⟩ (by simp[pX,h0];exact⟨by simp[fresh,kinL,kin,bu,ak,Pv.look,cv],cG (by simp[fresh,kinL,kin,bu,ak,Pv.look,cv]),cI (by simp[fresh,kinL,kin,cw,ak,Pv.look,cv]),Ψ⟩)
 ·have hI:1<dW:=by simp[lE]at qb;omega
  have p8:dW=7\/dW=8\/dW=10:=by simp[lE]at qb;omega
  (with_reducible repeat' first|refine av ?_|simp[Sm]);refine hR (rC l dW nm) (fun x=>l.length-x.2.1) (fun x=>x.2.1<=l.length/\2*(l.length-x.2.1)+2<=x.2.2/\x.2.2<=n/\e2 j2 Go.Pv.hdS x.2.2 dW nm [] x.1 (l.drop x.2.1)=O/\x.1.length<=x.2.1) ([],i+2,n) (by simp[rC,h0,kt];exact cW) ⟨by simp;omega,by simp;omega,cc _,zh,Ψ⟩ ?_;rintro⟨acc,j,k⟩ ⟨ai,ab,k8,eg,iF⟩ _;simp only at ai ab k8 eg iF;clear zh;obtain⟨k,rfl⟩:∃m,k=m+1:=⟨k-1,Ω⟩;have iG:acc.length+1<=aR:=by unfold aR;omega
  rcases jS ai with rfl|fU
  ·rw[jR]at eg;simp only[e2]at eg;subst eg;have hy:aY ((l.length:Int)+1):=by unfold aY;omega
   clear aX;cases acc with
   |nil=>simp[rC,h0];(with_reducible repeat' first|refine av ?_|simp[hy]);refine cO.rd l _ (.agg [.int .i64 dW,.str nm,.slice 4 .no [],.slice 4 .no []]) ((l.length:Int)+1) false Ψ (pW (s5 dW nm [] []).symm _) (by simp[kin,kinL]) ?_;simp[c8,l5,ba,bg,aT]
   |cons a e3=>simp[rC,h0];(with_reducible repeat' first|refine av ?_|simp[hy]);refine cO.rd l _ (.agg [.int .i64 dW,.str nm,.slice 4 .no [],.slice 4 .no ((a::e3).map Gm.e)]) ((l.length:Int)+1) false Ψ (pW (s5 dW nm [] (a::e3)).symm _) (by simp[kin,kinL]) ?_;simp[c8,l5,ba,bg,aT]
  obtain⟨v,aN⟩:∃v,l[j]? =some v:=⟨_,cL fU⟩;have gF:∀cK,((b6 l)[j]'cK)= .str v:=fun cK=>by rw[l8 fU];rw[cL fU]at aN;rw[gB aN]
  have hy:aY ((j:Int)+1):=by unfold aY;omega
  have pv:(j:Int)<l.length:=Ω
  rw[fM aN]at eg;by_cases fa:v=[41]
  ·subst fa;simp only[e2,if_true]at eg;have nA:((j:Int)+1)=((l.length-(l.drop (j+1)).length:Nat):Int):=by rw[hX];omega
   rw[if_pos hI]at eg;subst eg;clear aX;cases acc with
   |nil=>simp[rC,h0];(with_reducible repeat' first|refine av ?_|simp[hy,fU,pv,gF,aN,hI]);refine cO.rd l _ (.agg [.int .i64 dW,.str nm,.slice 4 .no [],.slice 4 .no []]) ((j:Int)+1) true Ψ (Al (s5 dW nm [] []).symm nA) (by simp[kin,kinL]) ?_;simp[c8,l5,ba,bg,aT]
   |cons a e3=>simp[rC,h0];(with_reducible repeat' first|refine av ?_|simp[hy,fU,pv,gF,aN,hI]);refine cO.rd l _ (.agg [.int .i64 dW,.str nm,.slice 4 .no [],.slice 4 .no ((a::e3).map Gm.e)]) ((j:Int)+1) true Ψ (Al (s5 dW nm [] (a::e3)).symm nA) (by simp[kin,kinL]) ?_;simp[c8,l5,ba,bg,aT]
  have oc:=r5 fa;have dD:=aX k Ω j Ω Ω;rw[fM aN]at dD;simp only[e2,br fa,qb,if_true]at eg;cases du:fp j2 Go.Pv.hdS k (v::l.drop (j+1))with
  |none=>
   rw[du]at dD eg;simp only at eg;subst eg;clear aX;cases acc with
   |nil=>
    rcases p8 with rfl|rfl|rfl;all_goals
     simp[rC,h0]
     ((with_reducible repeat' first|refine av ?_|simp[hy,fU,pv,gF,aN,oc]|((first|apply dt|apply dx|apply dw)<;>intro h<;>try simp at h))<;>(try exact dQ))
     refine CallDo.ob (dD) kk (fun k cs h=>by simp[Pv.look]at h) (fun k cs h=>by simp[Pv.look]at h) (by simp[kinL,kin]) ?_
     rintro r al bp
     obtain⟨rfl,x,q,rfl⟩:=bp
     refine⟨Same.refl _,?_⟩
     simp[bc]
     (with_reducible repeat' first|refine av ?_|simp)
     refine cO.rd l _ (.agg [.int .i64 0,.str [],.slice 4 .no [],.slice 4 .no []]) 0 false Ψ (pW vV.symm 0) (by simp[kin,kinL]) ?_
     simp[c8,l5,ba,bg,aT]
   |cons a e3=>
    rcases p8 with rfl|rfl|rfl;all_goals
     simp[rC,h0]
     ((with_reducible repeat' first|refine av ?_|simp[hy,fU,pv,gF,aN,oc]|((first|apply dt|apply dx|apply dw)<;>intro h<;>try simp at h))<;>(try exact dQ))
     refine CallDo.ob (dD) kk (fun k cs h=>by simp[Pv.look]at h) (fun k cs h=>by simp[Pv.look]at h) (by simp[kinL,kin]) ?_
     rintro r al bp
     obtain⟨rfl,x,q,rfl⟩:=bp
     refine⟨Same.refl _,?_⟩
     simp[bc]
     (with_reducible repeat' first|refine av ?_|simp)
     refine cO.rd l _ (.agg [.int .i64 0,.str [],.slice 4 .no [],.slice 4 .no []]) 0 false Ψ (pW vV.symm 0) (by simp[kin,kinL]) ?_
     simp[c8,l5,ba,bg,aT]
  |some tr=>
   obtain⟨g,rest⟩:=tr;rw[du]at dD eg;obtain⟨gn,oO⟩:=HY (j:=j) (by rw[fM aN];exact(BV E1 _ _ _ _ du).1);have DN:=(BV E1 _ _ _ _ du).2;have Tg:rest.length<l.length-j:=by simp at DN;omega
   obtain⟨p,aV⟩:∃p,p=l.length-rest.length:=⟨_,rfl⟩;simp only at eg;rw[<-aV]at gn;rw[gn]at eg;clear aX;cases acc with
   |nil=>
    rcases p8 with rfl|rfl|rfl;all_goals
     simp[rC,h0]
     ((with_reducible repeat' first|refine av ?_|simp[hy,fU,pv,gF,aN,oc]|((first|apply dt|apply dx|apply dw)<;>intro h<;>try simp at h))<;>(try exact dQ))
     refine CallDo.ob (dD) kk (fun k cs h=>by simp[Pv.look]at h) (fun k cs h=>by simp[Pv.look]at h) (by simp[kinL,kin]) ?_
     rintro r al bp
     obtain⟨rfl,rfl⟩:=bp
     rw[<-aV]
     refine⟨Same.refl _,?_⟩
     simp[bc]
     (with_reducible repeat' first|refine av ?_|simp)
     refine b1.whl ([g],p,k) (by show l.length-p<l.length-j;omega) ⟨by show p<=l.length;omega,by show 2*(l.length-p)+2<=k;omega,by show k<=n;omega,eg,by simp;omega⟩ (by simp[rC,h0];exact⟨by simp[fresh,kinL,kin,bu,ak,Pv.look,cv],cG (by simp[fresh,kinL,kin,bu,ak,Pv.look,cv]),cI (by simp[fresh,kinL,kin,cw,ak,Pv.look,cv]),Ψ⟩)
   |cons a e3=>
    simp only[gg]at iG;rcases p8 with rfl|rfl|rfl;all_goals
     simp[rC,h0]
     ((with_reducible repeat' first|refine av ?_|simp[hy,fU,pv,gF,aN,oc]|((first|apply dt|apply dx|apply dw)<;>intro h<;>try simp at h))<;>(try exact dQ))
     refine CallDo.ob (dD) kk (fun k cs h=>by simp[Pv.look]at h) (fun k cs h=>by simp[Pv.look]at h) (by simp[kinL,kin]) ?_
     rintro r al bp
     obtain⟨rfl,rfl⟩:=bp
     rw[<-aV]
     refine⟨Same.refl _,?_⟩
     simp[bc]
     (with_reducible repeat' first|refine av ?_|simp[iG])
     refine b1.whl (a::(e3++[g]),p,k) (by show l.length-p<l.length-j;omega) ⟨by show p<=l.length;omega,by show 2*(l.length-p)+2<=k;omega,by show k<=n;omega,eg,by simp at iF⊢;omega⟩ (by simp[rC,h0];exact⟨by simp[fresh,kinL,kin,bu,ak,Pv.look,cv],cG (by simp[fresh,kinL,kin,bu,ak,Pv.look,cv]),cI (by simp[fresh,kinL,kin,cw,ak,Pv.look,cv]),Ψ⟩)
def Aw:C:=(.seq (.block 0 (.loop (.seq (ag [aa 56 0,⟨none,.call (some 57) (.c (.func 177 [])) [.t 56,(.c (.str [41]))]⟩,dK 58 57] (bb 58 .skip (.exit 0))) (.block 1 (.seq (ag [a6 59 0 1 10,a8 60 1 59,a7 61 .eql 60 7,aa 62 61,aO 62 false (a6 63 0 1 10),aO 62 false (a8 64 1 63),aO 62 false (a7 65 .eql 64 8),dA 66 62 65,aa 67 66,aO 67 false (a6 68 0 1 10),aO 67 false (a8 69 1 68),aO 67 false (a7 70 .eql 69 10),dA 71 67 70] (bb 71 (ag [aa 73 0,aa 74 1,eb 75 114 73 74,aa 72 75,dZ 76 0 72,dZ 77 1 72,c7 (.alloc 11 none (.agg [.int .i64 0,.str [],.slice 4 .nil [],.slice 4 .nil []])),bF 4 11 76,aa 12 77] (.seq (ag [aa 78 12,dK 79 78] (bb 79 (ag [bh 80 (.build [.int .i64 0,.str [],.slice 4 .nil [],.slice 4 .nil []] []),bF 4 4 80,bK 5 false] .ret) .skip)) (ag [a6 81 3 1 10,a8 82 1 81,bO 83 4 11,gU 84 4 65 [.t 83],kZ 85 4 65 82 84,a6 86 3 1 10,bF 1 86 85] (.exit 1)))) .skip)) (ag [aa 88 1,⟨none,.callb (some 89) (.t 88)⟩,aa 87 89,dZ 90 0 87,dZ 91 1 87,hv 13 dd,bF 4 13 90,aa 14 91] (.seq (ag [aa 92 14,dK 93 92] (bb 93 (ag [bh 94 (.build [.int .i64 0,.str [],.slice 4 .nil [],.slice 4 .nil []] []),bF 4 4 94,bK 5 false] .ret) .skip)) (.region [a6 95 2 1 10,a8 96 1 95,bO 97 4 13,gU 98 4 40 [.t 97],kZ 99 4 40 96 98,a6 100 2 1 10,bF 1 100 99])))))))) (ag [bO 101 4 10,bF 4 4 101,bK 5 true] .ret))
def xo:C:=(ag [c7 (.alloc 4 none (.agg [.int .i64 0,.str [],.slice 4 .nil [],.slice 4 .nil []])),bK 5 false] (.seq (ag [aa 15 0,⟨none,.call (some 16) (.c (.func 177 [])) [.t 15,(.c (.str [116,114,117,101]))]⟩] (bb 16 (ag [bh 17 (.build [.int .i64 0,.str [],.slice 4 .nil [],.slice 4 .nil []] [(0,1,(de 0))]),bF 4 4 17,bK 5 true] .ret) .skip)) (.seq (ag [aa 18 0,⟨none,.call (some 19) (.c (.func 177 [])) [.t 18,(.c (.str [102,97,105,108]))]⟩] (bb 19 (ag [bh 20 (.build [.int .i64 0,.str [],.slice 4 .nil [],.slice 4 .nil []] [(0,1,(de 1))]),bF 4 4 20,bK 5 true] .ret) .skip)) (.seq (ag [aa 21 0,⟨none,.call (some 22) (.c (.func 177 [])) [.t 21,(.c (.str [40]))]⟩,dK 23 22,aa 24 23,b4 24 false 25 0,aO 24 false (cl 26 83 25),dA 27 24 26] (bb 27 (ag [bh 28 (.build [.int .i64 0,.str [],.slice 4 .nil [],.slice 4 .nil []] []),bF 4 4 28,bK 5 false] .ret) .skip)) (ag [aa 29 0,cl 30 178 29,aa 6 30] (ag [aa 31 0,hD 32 31,a6 33 1 1 32,a8 34 1 33,a7 35 .add 34 1,hD 36 31,a6 37 1 1 36,bF 1 37 35] (ag [c7 (.mkmap 38 none),c7 (.mput .s (.t 38) (.c (.str [61])) (de 2)),c7 (.mput .s (.t 38) (.c (.str [47,61])) (de 3)),c7 (.mput .s (.t 38) (.c (.str [115,121,109,98,111,108])) (de 4)),c7 (.mput .s (.t 38) (.c (.str [110,117,109,98,101,114])) (de 5)),c7 (.mput .s (.t 38) (.c (.str [97,98,115,101,110,116])) (de 6)),c7 (.mput .s (.t 38) (.c (.str [97,110,100])) (de 7)),c7 (.mput .s (.t 38) (.c (.str [111,114])) (de 8)),c7 (.mput .s (.t 38) (.c (.str [110,111,116])) (de 10)),aa 39 38,aa 7 39] (ag [aa 41 7,aa 42 6,bh 43 (.mget .s (.int .i64 0) true (.t 41) (.t 42)),aa 40 43,dZ 44 0 40,dZ 45 1 40,aa 8 44,aa 9 45] (ag [aa 46 8,bh 47 (.build [.int .i64 0,.str [],.slice 4 .nil [],.slice 4 .nil []] [(0,1,(.t 46))]),c7 (.alloc 10 none (.agg [.int .i64 0,.str [],.slice 4 .nil [],.slice 4 .nil []])),bF 4 10 47] (.seq (ag [aa 48 9,dK 49 48] (bb 49 (.seq (ag [aa 50 6,cl 51 103 50,dK 52 51] (bb 52 (ag [bh 53 (.build [.int .i64 0,.str [],.slice 4 .nil [],.slice 4 .nil []] []),bF 4 4 53,bK 5 false] .ret) .skip)) (.region [aa 54 6,bh 55 (.build [.int .i64 0,.str [],.slice 4 .nil [],.slice 4 .nil []] [(0,1,(de 9)),(1,1,(.t 54))]),bF 4 10 55])) .skip)) Aw))))))))))
@[simp] def aiu:List ca:=[.cell 4 true 4,.tmp 5]
def XL:List (Nat×dh):=[
 (3,⟨1,8,.int .i64,.int .i64 0⟩),
 (9,⟨1,16,.str,.str []⟩),
 (38,⟨1,24,.slice 40,.slice 4 .nil []⟩),
 (40,⟨4,56,.struct [(0,3),(1,3),(2,9),(3,38)],.agg [.int .i64 0,.int .i64 0,.str [],.slice 4 .nil []]⟩),
 (63,⟨1,24,.slice 65,.slice 4 .nil []⟩),
 (65,⟨4,72,.struct [(0,3),(1,9),(2,38),(3,63)],.agg [.int .i64 0,.str [],.slice 4 .nil [],.slice 4 .nil []]⟩),
 (70,⟨1,24,.slice 9,.slice 1 .nil []⟩),
 (131,⟨2,32,.struct [(0,70),(1,3)],.agg [.slice 1 .nil [],.int .i64 0]⟩),
 (213,⟨1,8,.map 9 3,.junk⟩)]
theorem Ac:eW aF XL=true:=by kernel_rfl
theorem zL:cJ XL xo aiu 2 Tryz.f114=true:=by kernel_rfl
theorem y7:aF.funcs[(114:Nat)]? =some Tryz.f114:=Tryz.func114
end
end Go.Proofs.YtlnndmgfngfeiaaGreatDoor
namespace Go.Pv
section
open Go Go.RowKit
def l6:List (List aj×ae)->List ae
 |[]=>[]
 |(k,v)::r=>.str k::v::l6 r
def j1(l:List (List aj×ae)):List ae:= .hdm l.length (List.range l.length)::l6 l
def sg(k:List aj):List (List aj×ae)->aW ae
 |[]=>none
 |(i,v)::r=>if k=i then some v else sg k r
def uf(k:List aj)(v:ae):List (List aj×ae)->aW (List (List aj×ae))
 |[]=>none
 |(i,w)::r=>if k=i then some ((k,v)::r)else match uf k v r with|some cZ=>some ((i,w)::cZ)|none=>none
def qp(k:List aj)(v:ae)(l:List (List aj×ae)):List (List aj×ae):=match uf k v l with|some c6=>c6|none=>l++[(k,v)]
theorem WZ:∀a b,l6 (a++b)=l6 a++l6 b
 |[],_=>rfl
 |(k,v)::r,b=>by simp[l6,WZ r b]
theorem Uc(a b:List aj):wF .s (.str a) (.str b)=some (a==b):=rfl
theorem UJ(k:List aj):∀l,vd .s (.str k) (l6 l)=some (sg k l)
 |[]=>rfl
 |(i,v)::r=>by
  simp only[l6,vd,Uc,sg];by_cases h:k=i
  ·simp[h]
  ·have:(k==i)=false:=by simp[h]
   simp[h,UJ k r,this]
theorem W3{k:List aj}{v:ae}:∀{l c6},uf k v l=some c6->c6.length=l.length
 |[],_,h=>by simp[uf]at h
 |(i,w)::r,c6,h=>by
  simp only[uf]at h;split at h
  ·cases h;rfl
  ·split at h
   ·rename_i cZ hr;cases h;simp[W3 hr]
   ·cases h
theorem US(k:List aj)(v:ae):∀l,wL .s (.str k) v (l6 l)=some ((uf k v l).map l6)
 |[]=>rfl
 |(i,w)::r=>by
  simp only[l6,wL,Uc,uf];by_cases h:k=i
  ·subst h;simp[l6]
  ·have:(k==i)=false:=by simp[h]
   simp only[this,h,if_false,US k v r];cases uf k v r<;>simp[l6]
@[simp]theorem agx(k:List aj)(v:ae)(l:List (List aj×ae)):r3 .s (.str k) v (j1 l)=some (j1 (qp k v l)):=by
 simp only[j1,r3,Uf,Bool.true_eq_false,reduceCtorEq,if_false,US,qp];cases h:uf k v l with
 |some c6=>simp[W3 h]
 |none=>simp[WZ,l6,List.range_succ]
@[simp]theorem aoP(k:List aj)(v:ae):r3 .s (.str k) v (mz [])=some (j1 (qp k v [])):=agx k v []
@[simp]theorem wI(f:aC->aW (List ae))(m:aC)(l:List (List aj×ae))(z:ae)(ok:Bool)(k:List aj)(hm:f m=some (j1 l)):pD f .s z ok (.gmap m) (.str k)=(match sg k l with
  |some v=>some (True,if ok then .tuple [v,.bool true]else v)
  |none=>some (True,if ok then .tuple [z,.bool false]else z)):=by
 simp only[UL,hm,j1,Uf,Bool.true_eq_false,reduceCtorEq,if_false,UJ];cases sg k l<;>rfl
@[simp]theorem agv(f:aC->aW (List ae))(m:aC)(l:List (List aj×ae))(hm:f m=some (j1 l)):wK f (.gmap m)=some (True,.int .i64 l.length):=by simp[agu,hm,j1]
@[simp]theorem apb(l:List (List aj×ae)):gO (j1 l)=false:=rfl
end
end Go.Pv
namespace Go.Proofs.YtlnndmgfngfeiaaGreatDoor
section
open Go Go.Pv
variable {ky:Nat}
def ea(ky:Nat):ae:= .func 1000084 [aB ky]
abbrev Xu:List (List aj×ae):=qp [110,111,116] (.int .i64 10) (qp [111,114] (.int .i64 8) (qp [97,110,100] (.int .i64 7) (qp [97,98,115,101,110,116] (.int .i64 6) (qp [110,117,109,98,101,114] (.int .i64 5) (qp [115,121,109,98,111,108] (.int .i64 4) (qp [47,61] (.int .i64 3) (qp [61] (.int .i64 2) [])))))))
theorem L7(f:aC->aW (List ae))(m:aC)(h:List aj)(hm:f m=some (j1 Xu)):pD f .s (.int .i64 0) true (.gmap m) (.str h)=some (True,.tuple [.int .i64 ((oG h).getD 0),.bool (oG h).isSome]):=by
 rw[wI _ _ _ _ true h hm];have e:Xu=[(yH,.int .i64 2),(yG,.int .i64 3),(sD,.int .i64 4),(sB,.int .i64 5),(sx,.int .i64 6),(sy,.int .i64 7),(sC,.int .i64 8),(sA,.int .i64 10)]:=rfl;rw[e];unfold oG;simp only[sg];repeat' split
 all_goals first|rfl|simp_all
theorem ag3{l:List (List aj)}{i p:Nat}{t:T}{rest:List (List aj)}(h:b3 aF 84 [aB ky] (ad ky l i) (vt ky l (some (t,rest))))(aV:l.length-rest.length=p):b3 aF 84 [aB ky] (ad ky l i) fun r al=>r= .tuple [t.e,.bool true]/\al=ad ky l p:=h.mono fun r al bp=>by rw[<-aV];exact bp
end
section
open Go Go.Pv
variable {ky:Nat}
theorem adU{w:List aj}{k:Int}{s:List aj}(h:fI w=some (k,s)):1<k/\(lE k=true->s=[])/\(lE k=false->(k==7)=false/\(k==8)=false/\(k==10)=false):=by
 unfold fI at h;cases ab:oG w with
 |some bn=>
  rw[ab]at h;simp only[ei,gY]at h;obtain⟨rfl,rfl⟩:=h;unfold oG at ab;repeat' split at ab
  all_goals first|cases ab|skip
  all_goals simp[lE]
 |none=>
  rw[ab]at h;simp only at h;split at h
  ·cases h;simp[lE]
  ·cases h
end
section
open Go Go.Pv
variable {ky:Nat}
def OJ(ky:Nat)(l:List (List aj))(i:Nat)(o:aW (T×List (List aj))):Prop:= ∀κ,FnK aF 84 κ [aB ky] (ad ky l i) (yx ky l o κ)
theorem T9(l:List (List aj))(aD:l.length<=100000)(hw:∀w∈l,w≠[]/\w.length<=aR)(i:Nat)(aw:i<=l.length):OJ ky l i (eI (l.drop i)):=by
 intro κ;have az:=bm (ky:=ky) l i;have dD:=afX (ky:=ky) l aD hw (2*(l.length-i)+1) i aw (cc _);cases du:rd eG (2*(l.length-i)+1) (l.drop i)with
 |none=>rw[du]at dD;rw[show eI (l.drop i)=none by unfold eI;rw[hX,du]];simp only[ad]at az;refine FnK.mk mixed mG AQ BH Ψ az.obj rfl fun aG b2=>?_;unfold yX;clear aG b2;simp[aB,ad];refine CallDo.obK (dD _) (bm _ _) (by simp only[ad];exact aA) (by simp only[ad];exact aA) (by simp[ak,Pv.look,ad,aB,ea,kinL,kin]) Ψ ?_;rintro r al ⟨x,iv,bp,rfl,rfl⟩;refine⟨bT _ _ _ _,?_⟩;simp[bc,ad,aB];(with_reducible repeat' first|refine av ?_|simp);refine dG.tm (iv) (.nil) false Ψ (sn bp _) (by simp only[ad];exact aA) ?_;simp[ba,bg,aT,cX,dR,cC,dE,cb,dy,tnL,tn,dO,ed,fold,dV,dU,eH,Pv.look,cY,bC,bD,T.k]
 |some tr=>
  obtain⟨t,rest⟩:=tr;rw[du]at dD;obtain⟨gn,oO⟩:=vl (re _ _ _ _ du).1;have na:=LR dD rfl;have cN:=N7 t;rw[show eI (l.drop i)=if t.fit then some (t,rest)else none by unfold eI;rw[hX,du]];simp only[ad]at az;by_cases aK:t.fit=true
  ·rw[if_pos aK];rw[aK]at cN;refine FnK.mk mixed mG AQ BH Ψ az.obj rfl fun aG b2=>?_;unfold yX;clear aG b2;simp[aB,ad];refine CallDo.obK (na _) (bm _ _) (by simp only[ad];exact aA) (by simp only[ad];exact aA) (by simp[ak,Pv.look,ad,aB,ea,kinL,kin]) Ψ ?_;rintro r al ⟨rfl,rfl⟩;refine⟨bT _ _ _ _,?_⟩;simp[bc,ad,aB];(with_reducible repeat' first|refine av ?_|refine aZ cN ?_|refine a1 cN ?_|simp);refine dG.tm (l.length-rest.length) (t) true Ψ (Ce rfl) (by simp only[ad];exact aA) ?_;simp[ba,bg,aT,cX,dR,cC,dE,cb,dy,tnL,tn,dO,ed,fold,dV,dU,eH,Pv.look,cY,bC,bD,T.k]
  ·rw[br aK];rw[Bool.not_eq_true]at aK;rw[aK]at cN;refine FnK.mk mixed mG AQ BH Ψ az.obj rfl fun aG b2=>?_;unfold yX;clear aG b2;simp[aB,ad];refine CallDo.obK (na _) (bm _ _) (by simp only[ad];exact aA) (by simp only[ad];exact aA) (by simp[ak,Pv.look,ad,aB,ea,kinL,kin]) Ψ ?_;rintro r al ⟨rfl,rfl⟩;refine⟨bT _ _ _ _,?_⟩;simp[bc,ad,aB];(with_reducible repeat' first|refine av ?_|refine aZ cN ?_|refine a1 cN ?_|simp);refine dG.tm (l.length-rest.length) (.nil) false Ψ (sn Ω _) (by simp only[ad];exact aA) ?_;simp[ba,bg,aT,cX,dR,cC,dE,cb,dy,tnL,tn,dO,ed,fold,dV,dU,eH,Pv.look,cY,bC,bD,T.k]
theorem ag1{l:List (List aj)}{i p:Nat}{t:T}{rest:List (List aj)}(h:OJ ky l i (some (t,rest)))(aV:l.length-rest.length=p)(κ:Nat):FnK aF 84 κ [aB ky] (ad ky l i) fun r al=>r= .tuple [t.k κ,.bool true]/\al=ad ky l p:=(h κ).mono fun r al bp=>by rw[<-aV];exact bp
def _root_.Go.Pv.Gm.k(g:Gm)(κ:Nat):ae:= .agg [.int .i64 g.kind,.str g.name,.slice 4 (.tr (.loc κ) 0) (g.ts.map enc),.slice 4 (.tr (.loc κ) 1) (g.gs.map Gm.e)]
@[simp]theorem amw(g:Gm)(n:Nat):cells (g.k n)=[.int .i64 g.kind,.str g.name,.slice 4 (.tr (.loc n) 0) (g.ts.map enc),.slice 4 (.tr (.loc n) 1) (g.gs.map Gm.e)]:=rfl
@[simp]theorem apx(g:Gm)(n:Nat):eV (g.k n)=true:=rfl
theorem ac8(g:Gm)(n:Nat):bD (g.k n)=g.e:=by rw[Gm.e_eq];simp[Gm.k,bD,bC]
theorem Kd:∀l:List (Gm×Nat),ed (dq Gm.k l)
 |[]=>by simp[dq,ed]
 |x::l=>by have:=Kd l;unfold dq at this;exact⟨⟨trivial,trivial,pE _,pE _,trivial⟩,this⟩
theorem Ke:∀l:List (Gm×Nat),bC (dq Gm.k l)=(l.map (·.1)).map Gm.e
 |[]=>by simp[dq,bC]
 |x::l=>by have:=Ke l;unfold dq at this;simp[dq,bC,ac8,this]
theorem Sa:∀(l:List (Gm×Nat)),∀x∈tnL (dq Gm.k l),∃p∈l,x.1= .loc p.2
 |[],x,h=>by simp[dq,tnL]at h
 |p::l,x,h=>by
  have e:tnL (dq Gm.k (p::l))=(.loc p.2,0)::(.loc p.2,1)::tnL (dq Gm.k l):=by simp[dq,tnL,tn,Gm.k]
  rw[e]at h;simp only[gy]at h;rcases h with rfl|rfl|h
  ·exact⟨p,Ψ,rfl⟩
  ·exact⟨p,Ψ,rfl⟩
  ·obtain⟨nb,I,J⟩:=Sa l x h;exact⟨nb,by simp[I],J⟩
theorem Kc:∀{l:List (Gm×Nat)},(l.map (·.2)).Nodup->(tnL (dq Gm.k l)).Nodup
 |[],_=>by simp[dq,tnL]
 |p::l,h=>by
  have e:tnL (dq Gm.k (p::l))=(.loc p.2,0)::(.loc p.2,1)::tnL (dq Gm.k l):=by simp[dq,tnL,tn,Gm.k]
  simp only[fF,List.nodup_cons]at h;have aM:∀j,(aC.loc p.2,j)∉tnL (dq Gm.k l):=fun j ai=>by obtain⟨nb,I,J⟩:=Sa l _ ai;simp only[aC.loc.injEq]at J;exact h.1 (nj.2 ⟨nb,I,J.symm⟩)
  rw[e,List.nodup_cons,List.nodup_cons];exact⟨by simp[aM 0],aM 1,Kc h.2⟩
theorem R8{S:aC->Prop}:∀(l:List (Gm×Nat)),(∀p∈l,S (.loc p.2))->Pv.kinL S (dq Gm.k l)
 |[],_=>by simp[dq,Pv.kinL]
 |x::l,ho=>by have:=R8 l fun p aV=>ho p (by simp[aV]);unfold dq at this;have I:=ho x Ψ;simp only[dq,fF,Pv.kinL];exact⟨by simp[Gm.k,Pv.kin,Pv.kinL,I],this⟩
theorem R9{n m:Nat}{l:List (Gm×Nat)}(aD:ko n l)(hm:n<=m)(o:List aC):Pv.kinL (fun k=> ¬fresh m o k) (dq Gm.k l):=R8 l fun p aV aK=>by have I:=aD.lt p aV;have J:m<=p.2:=aK.1;omega
def xG(ky:Nat)(l:List (List aj))(o:aW (Gm×List (List aj)))(κ:Nat)(r:ae)(al:dJ):Prop:=match o with
 |some (g,rest)=>r= .tuple [g.k κ,.bool true]/\al=ad ky l (l.length-rest.length)
 |none=> ∃(g:Gm) (j:Nat),j<=l.length/\r= .tuple [g.k κ,.bool false]/\al=ad ky l j
theorem s6{l:List (List aj)}{j κ:Nat}(h:j<=l.length)(g:Gm):xG ky l none κ (.tuple [g.k κ,.bool false]) (ad ky l j):=⟨g,j,h,rfl,rfl⟩
theorem AZ{l:List (List aj)}{j κ:Nat}{g:Gm}{rest:List (List aj)}(h:l.length-rest.length=j):xG ky l (some (g,rest)) κ (.tuple [g.k κ,.bool true]) (ad ky l j):=⟨rfl,by rw[h]⟩
def yJ(ky:Nat)(l:List (List aj))(i:Nat)(o:aW (Gm×List (List aj))):Prop:= ∀κ,FnK aF 114 κ [aB ky,ea ky] (ad ky l i) (xG ky l o κ)
theorem dG.gm{l:List (List aj)}{i κ:Nat}{o:aW (Gm×List (List aj))}{st:aU}{e:Exit}(j:Nat)(x:Gm)(b:Bool)(iR:e= .ret\/e= .normal)(jb:xG ky l o κ (.tuple [x.k κ,.bool b]) (ad ky l j))(ah:∀k cs,Pv.look k (ad ky l j).b=some cs->Pv.look k st.b=some cs)
  (h:match ba st [.cell 4 true 4,.tmp 5]with
   |some (c,bj)=>c/\(cX st.e (aT bj)/\(cC st.e (aT bj)).Nodup/\(cb (aT bj)).Nodup)/\fold κ st.e 0 (aT bj)= .tuple [x.k κ,.bool b]
   |none=>dr):dG [.cell 4 true 4,.tmp 5] (ad ky l i) κ (xG ky l o κ) e st:=by
 refine dG.ob iR (bm l j) rfl (bT _ _ _ _) ah ?_;split at h
 ·rename_i c bj hr;(try rw[hr]);exact⟨h.1,h.2.1,by rw[h.2.2];exact jb⟩
 ·exact h.elim
theorem afW(l:List (List aj))(aD:l.length<=100000){i:Nat}(h:l[i]? =some ia):yJ ky l i ((some (.mk 0 [] [] [],l.drop (i+1)))):=by intro κ;have az:=bm (ky:=ky) l i;have aw:=(fo.1 h).1;have cN:=oq (ky:=ky) (show i<=1000000 by omega) h;have aI:=uM h;simp only[ad]at az;simp only[ia]at cN;refine FnK.mk mixed Ac y7 zL Ψ az.obj rfl fun aG b2=>?_;unfold xo;clear aG b2;simp[aB,ad];refine CallDo.ob (cN) (bm _ _) (by simp only[ad];exact aA) (by simp only[ad];exact aA) (by simp[ak,Pv.look,ad,aB,kinL,kin]) ?_;rintro r al ⟨rfl,rfl⟩;refine⟨bT _ _ _ _,?_⟩;simp[bc,ad,aB];(with_reducible repeat' first|refine av ?_|simp);refine dG.gm (i+1) (.mk 0 [] [] []) true Ψ (AZ aI) (by simp only[ad];exact aA) ?_;simp[ba,bg,aT,cX,dR,cC,dE,cb,dy,tnL,tn,dO,ed,fold,dV,dU,eH,Pv.look,cY,bC,bD,Gm.k,Gm.kind,Gm.name,Gm.ts,Gm.gs]
theorem afV(l:List (List aj))(aD:l.length<=100000){i:Nat}(h:l[i]? =some iL):yJ ky l i ((some (.mk 1 [] [] [],l.drop (i+1)))):=by intro κ;have az:=bm (ky:=ky) l i;have aw:=(fo.1 h).1;have eN:=jO (ky:=ky) (show i<=1000000 by omega) (s:=ia) (l:=l) (i:=i) (by rw[h];decide);have cN:=oq (ky:=ky) (show i<=1000000 by omega) h;have aI:=uM h;simp only[ad]at az;simp only[ia]at eN;simp only[iL]at cN;refine FnK.mk mixed Ac y7 zL Ψ az.obj rfl fun aG b2=>?_;unfold xo;clear aG b2;simp[aB,ad];refine CallDo.ob (eN) (bm _ _) (by simp only[ad];exact aA) (by simp only[ad];exact aA) (by simp[ak,Pv.look,ad,aB,kinL,kin]) ?_;rintro r al ⟨rfl,rfl⟩;refine⟨bT _ _ _ _,?_⟩;simp[bc,ad,aB];(with_reducible repeat' first|refine av ?_|simp);refine CallDo.ob (cN) (bm _ _) (by simp only[ad];exact aA) (by simp only[ad];exact aA) (by simp[ak,Pv.look,ad,aB,kinL,kin]) ?_;rintro r al ⟨rfl,rfl⟩;refine⟨bT _ _ _ _,?_⟩;simp[bc,ad,aB];(with_reducible repeat' first|refine av ?_|simp);refine dG.gm (i+1) (.mk 1 [] [] []) true Ψ (AZ aI) (by simp only[ad];exact aA) ?_;simp[ba,bg,aT,cX,dR,cC,dE,cb,dy,tnL,tn,dO,ed,fold,dV,dU,eH,Pv.look,cY,bC,bD,Gm.k,Gm.kind,Gm.name,Gm.ts,Gm.gs]
theorem LF(l:List (List aj))(aD:l.length<=100000){i:Nat}(aw:i<=l.length)(I:l[i]?≠some ia)(J:l[i]?≠some iL)(au:l[i]?≠some [40]):yJ ky l i (none):=by intro κ;have az:=bm (ky:=ky) l i;have eN:=jO (ky:=ky) (show i<=1000000 by omega) I;have cD:=jO (ky:=ky) (show i<=1000000 by omega) J;have dI:=jO (ky:=ky) (show i<=1000000 by omega) au;simp only[ad]at az;simp only[ia]at eN;simp only[iL]at cD;refine FnK.mk mixed Ac y7 zL Ψ az.obj rfl fun aG b2=>?_;unfold xo;clear aG b2;simp[aB,ad];refine CallDo.ob (eN) (bm _ _) (by simp only[ad];exact aA) (by simp only[ad];exact aA) (by simp[ak,Pv.look,ad,aB,kinL,kin]) ?_;rintro r al ⟨rfl,rfl⟩;refine⟨bT _ _ _ _,?_⟩;simp[bc,ad,aB];(with_reducible repeat' first|refine av ?_|simp);refine CallDo.ob (cD) (bm _ _) (by simp only[ad];exact aA) (by simp only[ad];exact aA) (by simp[ak,Pv.look,ad,aB,kinL,kin]) ?_;rintro r al ⟨rfl,rfl⟩;refine⟨bT _ _ _ _,?_⟩;simp[bc,ad,aB];(with_reducible repeat' first|refine av ?_|simp);refine CallDo.ob (dI) (bm _ _) (by simp only[ad];exact aA) (by simp only[ad];exact aA) (by simp[ak,Pv.look,ad,aB,kinL,kin]) ?_;rintro r al ⟨rfl,rfl⟩;refine⟨bT _ _ _ _,?_⟩;simp[bc,ad,aB];(with_reducible repeat' first|refine av ?_|simp);refine dG.gm (i) (.mk 0 [] [] []) false Ψ (s6 aw _) (by simp only[ad];exact aA) ?_;simp[ba,bg,aT,cX,dR,cC,dE,cb,dy,tnL,tn,dO,ed,fold,dV,dU,eH,Pv.look,cY,bC,bD,Gm.k,Gm.kind,Gm.name,Gm.ts,Gm.gs]
theorem afU(l:List (List aj))(aD:l.length<=100000){i:Nat}(h:l[i]? =some [40])(he:i+1=l.length):yJ ky l i (none):=by
 intro κ;have dW:b3 aF 83 [aB ky] (ad ky l (i+1)) fun r al=>r= .bool true/\al=ad ky l (i+1):=by rw[he];exact CW l
 have az:=bm (ky:=ky) l i;have aw:=(fo.1 h).1;have eN:=jO (ky:=ky) (show i<=1000000 by omega) (s:=ia) (l:=l) (i:=i) (by rw[h];decide);have cD:=jO (ky:=ky) (show i<=1000000 by omega) (s:=iL) (l:=l) (i:=i) (by rw[h];decide);have dI:=oq (ky:=ky) (show i<=1000000 by omega) h;simp only[ad]at az;simp only[ia]at eN;simp only[iL]at cD;refine FnK.mk mixed Ac y7 zL Ψ az.obj rfl fun aG b2=>?_;unfold xo;clear aG b2;simp[aB,ad];refine CallDo.ob (eN) (bm _ _) (by simp only[ad];exact aA) (by simp only[ad];exact aA) (by simp[ak,Pv.look,ad,aB,kinL,kin]) ?_;rintro r al ⟨rfl,rfl⟩;refine⟨bT _ _ _ _,?_⟩;simp[bc,ad,aB];(with_reducible repeat' first|refine av ?_|simp);refine CallDo.ob (cD) (bm _ _) (by simp only[ad];exact aA) (by simp only[ad];exact aA) (by simp[ak,Pv.look,ad,aB,kinL,kin]) ?_;rintro r al ⟨rfl,rfl⟩;refine⟨bT _ _ _ _,?_⟩;simp[bc,ad,aB];(with_reducible repeat' first|refine av ?_|simp);refine CallDo.ob (dI) (bm _ _) (by simp only[ad];exact aA) (by simp only[ad];exact aA) (by simp[ak,Pv.look,ad,aB,kinL,kin]) ?_;rintro r al ⟨rfl,rfl⟩;refine⟨bT _ _ _ _,?_⟩;simp[bc,ad,aB];(with_reducible repeat' first|refine av ?_|simp);refine CallDo.ob (dW) (bm _ _) (by simp only[ad];exact aA) (by simp only[ad];exact aA) (by simp[ak,Pv.look,ad,aB,kinL,kin]) ?_;rintro r al ⟨rfl,rfl⟩;refine⟨bT _ _ _ _,?_⟩;simp[bc,ad,aB];(with_reducible repeat' first|refine av ?_|simp);refine dG.gm (i+1) (.mk 0 [] [] []) false Ψ (s6 Ω _) (by simp only[ad];exact aA) ?_;simp[ba,bg,aT,cX,dR,cC,dE,cb,dy,tnL,tn,dO,ed,fold,dV,dU,eH,Pv.look,cY,bC,bD,Gm.k,Gm.kind,Gm.name,Gm.ts,Gm.gs]
end
section
open Go Go.Pv
variable {ky:Nat}
def o2(ky:Nat)(l:List (List aj))(k:Int)(s:List aj)(j q:Nat):List (T×Nat)->aU
 |[]=>⟨[(0,.ptr (.obj ky) 0),(1,ea ky),(4,.ptr (.loc 0) 0),(5,.bool false),(10,.ptr (.loc 2) 0)],[(.loc 0,[.int .i64 0,.str [],.slice 4 .nil [],.slice 4 .nil []]),(.obj ky,[.slice 1 .no (b6 l),.int .i64 j]),(.loc 2,[.int .i64 k,.str s,.slice 4 .nil [],.slice 4 .nil []])],[],3,[.obj ky]⟩
 |x::xs=>⟨[(0,.ptr (.obj ky) 0),(1,ea ky),(4,.ptr (.loc 0) 0),(5,.bool false),(10,.ptr (.loc 2) 0)],[(.loc 0,[.int .i64 0,.str [],.slice 4 .nil [],.slice 4 .nil []]),(.obj ky,[.slice 1 .no (b6 l),.int .i64 j]),(.loc 2,[.int .i64 k,.str s,.slice 4 (.own (.loc 6)) (dq T.k (x::xs)),.slice 4 .nil []])],[(.loc 6,⟨xs.length+1,40,4,none⟩)],q+7,[.obj ky]⟩
theorem afP(l:List (List aj))(aD:l.length<=100000)(hw:∀w∈l,w≠[]/\w.length<=aR){k:Int}{s:List aj}(I:1<k)(eu:(k==7)=false)(gQ:(k==8)=false)(fN:(k==10)=false){R:aW (Gm×List (List aj))}{i0 κ:Nat}(st:aU)(j n:Nat)(ai:j<=l.length)(aM:l.length-j+1<=n)(bt:e2 eI fI n k s [] [] (l.drop j)=R)(mv:il [.obj ky] st (o2 ky l k s j 0 [])):
  cQ aF [.obj ky] Aw (dG [.cell 4 true 4,.tmp 5] (ad ky l i0) κ (xG ky l R κ)) st:=by
 have qb:lE k=false:=by simp[lE,eu,gQ,fN]
 unfold Aw;simp;refine hR (fun x:List (T×Nat)×Nat×Nat×Nat=>o2 ky l k s x.2.1 x.2.2.2 x.1) (fun x=>l.length-x.2.1) (fun x=>x.2.1<=l.length/\l.length-x.2.1+1<=x.2.2.1/\e2 eI fI x.2.2.1 k s (x.1.map (·.1)) [] (l.drop x.2.1)=R/\x.1.length<=x.2.1/\ko (x.2.2.2+7) x.1) ([],j,n,0) mv ⟨ai,aM,bt,pT _,.nil _⟩ ?_;clear mv bt aM ai st;rintro⟨acc,j,n,q⟩ ⟨ai,aM,bt,iF,fV⟩ _;simp only at ai aM bt iF fV;subst bt;obtain⟨n,rfl⟩:∃m,n=m+1:=⟨n-1,Ω⟩;have pt:j<=1000000:=Ω
 rcases jS ai with rfl|fU
 ·have dS:=jO (ky:=ky) (l:=l) (i:=l.length) (s:=[41]) pt Ψ;have ke:=T9 (ky:=ky) l aD hw l.length (cc _);rw[jR]at ke⊢;rw[show eI []=none by simp[eI,rd]]at ke;rw[show e2 eI fI (n+1) k s (acc.map (·.1)) [] []=none by simp[e2]];cases acc with
  |nil=>simp[o2];refine CallDo.ob (dS) (bm _ _) (by simp only[ad];exact aA) (by simp only[ad];exact aA) (by simp[ak,Pv.look,ad,aB,kinL,kin]) ?_;rintro r al ⟨rfl,rfl⟩;refine⟨bT _ _ _ _,?_⟩;simp[bc,ad,aB];(with_reducible repeat' first|refine av ?_|simp[eu,gQ,fN,ea,aB]);refine CallDo.obK (ke _) (bm _ _) (by simp only[ad];exact aA) (by simp only[ad];exact aA) (by simp[ak,Pv.look,ad,aB,ea,kinL,kin]) Ψ ?_;rintro r al ⟨x,iv,bp,rfl,rfl⟩;refine⟨bT _ _ _ _,?_⟩;simp[bc,ad,aB];(with_reducible repeat' first|refine av ?_|simp);refine dG.gm (iv) (.mk 0 [] [] []) false Ψ (s6 bp _) (by simp only[ad];exact aA) ?_;simp[ba,bg,aT,cX,dR,cC,dE,cb,dy,tnL,tn,dO,ed,fold,dV,dU,eH,Pv.look,cY,bC,bD,Gm.k,Gm.kind,Gm.name,Gm.ts,Gm.gs]
  |cons a e3=>simp[o2];refine CallDo.ob (dS) (bm _ _) (by simp only[ad];exact aA) (by simp only[ad];exact aA) (by simp[ak,Pv.look,ad,aB,kinL,kin]) ?_;rintro r al ⟨rfl,rfl⟩;refine⟨bT _ _ _ _,?_⟩;simp[bc,ad,aB];(with_reducible repeat' first|refine av ?_|simp[eu,gQ,fN,ea,aB]);refine CallDo.obK (ke _) (bm _ _) (by simp only[ad];exact aA) (by simp only[ad];exact aA) (by simp[ak,Pv.look,ad,aB,ea,kinL,kin]) Ψ ?_;rintro r al ⟨x,iv,bp,rfl,rfl⟩;refine⟨bT _ _ _ _,?_⟩;simp[bc,ad,aB];(with_reducible repeat' first|refine av ?_|simp);refine dG.gm (iv) (.mk 0 [] [] []) false Ψ (s6 bp _) (by simp only[ad];exact aA) ?_;simp[ba,bg,aT,cX,dR,cC,dE,cb,dy,tnL,tn,dO,ed,fold,dV,dU,eH,Pv.look,cY,bC,bD,Gm.k,Gm.kind,Gm.name,Gm.ts,Gm.gs]
 obtain⟨v,aN⟩:∃v,l[j]? =some v:=⟨_,cL fU⟩;by_cases fa:v=[41]
 ·subst fa;have dS:=oq (ky:=ky) pt aN;have aI:=uM aN;obtain⟨G,qT⟩:∃G,G=Gm.mk k s ((acc.map (·.1)).map T.tm) []:=⟨_,rfl⟩;rw[fM aN,show e2 eI fI (n+1) k s (acc.map (·.1)) [] ([41]::l.drop (j+1))=some (G,l.drop (j+1)) by simp[e2,I,qT]];cases acc with
  |nil=>simp[o2];refine CallDo.ob (dS) (bm _ _) (by simp only[ad];exact aA) (by simp only[ad];exact aA) (by simp[ak,Pv.look,ad,aB,kinL,kin]) ?_;rintro r al ⟨rfl,rfl⟩;refine⟨bT _ _ _ _,?_⟩;simp[bc,ad,aB];(with_reducible repeat' first|refine av ?_|simp);refine dG.gm (j+1) (G) true Ψ (AZ aI) (by simp only[ad];exact aA) ?_;simp[ba,bg,aT,cX,dR,cC,dE,cb,dy,fold,dV,dU,eH,Pv.look,cY,Gm.k,Gm.kind,Gm.name,Gm.ts,Gm.gs,qT,bC]
  |cons a e3=>have wm:=x3.nodup fV;simp[o2];refine CallDo.ob (dS) (bm _ _) (by simp only[ad];exact aA) (by simp only[ad];exact aA) (by simp[ak,Pv.look,ad,aB,kinL,kin]) ?_;rintro r al ⟨rfl,rfl⟩;refine⟨bT _ _ _ _,?_⟩;simp[bc,ad,aB];(with_reducible repeat' first|refine av ?_|simp);refine dG.gm (j+1) (G) true Ψ (AZ aI) (by simp only[ad];exact aA) ?_;simp[ba,bg,aT,cX,dR,cC,dE,cb,dy,fold,dV,dU,eH,Pv.look,cY,Gm.k,Gm.kind,Gm.name,Gm.ts,Gm.gs,qT,x3.okL,wm,x3.stL,sX,bC]
 have dS:=jO (ky:=ky) (l:=l) (i:=j) pt (show l[j]?≠some [41] by rw[aN];simpa using fa);have ke:=T9 (ky:=ky) l aD hw j ai;rw[fM aN]at ke⊢;cases du:eI (v::l.drop (j+1))with
 |none=>
  rw[du]at ke;rw[show e2 eI fI (n+1) k s (acc.map (·.1)) [] (v::l.drop (j+1))=none by simp[e2,fa,qb,du]];cases acc with
  |nil=>simp[o2];refine CallDo.ob (dS) (bm _ _) (by simp only[ad];exact aA) (by simp only[ad];exact aA) (by simp[ak,Pv.look,ad,aB,kinL,kin]) ?_;rintro r al ⟨rfl,rfl⟩;refine⟨bT _ _ _ _,?_⟩;simp[bc,ad,aB];(with_reducible repeat' first|refine av ?_|simp[eu,gQ,fN,ea,aB]);refine CallDo.obK (ke _) (bm _ _) (by simp only[ad];exact aA) (by simp only[ad];exact aA) (by simp[ak,Pv.look,ad,aB,ea,kinL,kin]) Ψ ?_;rintro r al ⟨x,iv,bp,rfl,rfl⟩;refine⟨bT _ _ _ _,?_⟩;simp[bc,ad,aB];(with_reducible repeat' first|refine av ?_|simp);refine dG.gm (iv) (.mk 0 [] [] []) false Ψ (s6 bp _) (by simp only[ad];exact aA) ?_;simp[ba,bg,aT,cX,dR,cC,dE,cb,dy,tnL,tn,dO,ed,fold,dV,dU,eH,Pv.look,cY,bC,bD,Gm.k,Gm.kind,Gm.name,Gm.ts,Gm.gs]
  |cons a e3=>simp[o2];refine CallDo.ob (dS) (bm _ _) (by simp only[ad];exact aA) (by simp only[ad];exact aA) (by simp[ak,Pv.look,ad,aB,kinL,kin]) ?_;rintro r al ⟨rfl,rfl⟩;refine⟨bT _ _ _ _,?_⟩;simp[bc,ad,aB];(with_reducible repeat' first|refine av ?_|simp[eu,gQ,fN,ea,aB]);refine CallDo.obK (ke _) (bm _ _) (by simp only[ad];exact aA) (by simp only[ad];exact aA) (by simp[ak,Pv.look,ad,aB,ea,kinL,kin]) Ψ ?_;rintro r al ⟨x,iv,bp,rfl,rfl⟩;refine⟨bT _ _ _ _,?_⟩;simp[bc,ad,aB];(with_reducible repeat' first|refine av ?_|simp);refine dG.gm (iv) (.mk 0 [] [] []) false Ψ (s6 bp _) (by simp only[ad];exact aA) ?_;simp[ba,bg,aT,cX,dR,cC,dE,cb,dy,tnL,tn,dO,ed,fold,dV,dU,eH,Pv.look,cY,bC,bD,Gm.k,Gm.kind,Gm.name,Gm.ts,Gm.gs]
 |some tr=>
  obtain⟨t,rest⟩:=tr;rw[du]at ke;obtain⟨tA,tB⟩:=NY _ _ _ du;rw[<-fM aN]at tA tB;obtain⟨gn,oO⟩:=vl tA;obtain⟨p,aV⟩:∃p,p=l.length-rest.length:=⟨_,rfl⟩;rw[<-aV]at gn;have wE:=ag1 ke aV.symm;have eM:p<=l.length:=Ω
  have KR:j<p:=by simp at tB;omega
  have e5:acc.length+1<=aR:=by unfold aR;omega
  cases acc with
  |nil=>rw[show e2 eI fI (n+1) k s (([]:List (T×Nat)).map (·.1)) [] (v::l.drop (j+1))=e2 eI fI n k s (([(t,3)]:List (T×Nat)).map (·.1)) [] rest by simp[e2,fa,qb,du]];simp[o2];refine CallDo.ob (dS) (bm _ _) (by simp only[ad];exact aA) (by simp only[ad];exact aA) (by simp[ak,Pv.look,ad,aB,kinL,kin]) ?_;rintro r al ⟨rfl,rfl⟩;refine⟨bT _ _ _ _,?_⟩;simp[bc,ad,aB];(with_reducible repeat' first|refine av ?_|simp[eu,gQ,fN,ea,aB]);refine CallDo.obK (wE _) (bm _ _) (by simp only[ad];exact aA) (by simp only[ad];exact aA) (by simp[ak,Pv.look,ad,aB,ea,kinL,kin]) Ψ ?_;rintro r al ⟨rfl,rfl⟩;refine⟨bT _ _ _ _,?_⟩;simp[bc,ad,aB];(with_reducible repeat' first|refine av ?_|simp[e5]);refine b1.whl ([(t,3)],p,n,0) (by simp;omega) ⟨eM,by simp;omega,by simp[<-gn],by simp;omega,⟨Ψ,Ψ⟩⟩ ?_;simp[o2,dq];exact⟨by simp[fresh,kinL,kin,bu,ak,Pv.look,T.k],cG (by simp[fresh,kinL,kin,bu,ak,Pv.look,T.k]),cI (by simp[fresh,kinL,kin,cw,ak,Pv.look,T.k]),Ψ⟩
  |cons a e3=>simp only[gg]at e5;rw[show e2 eI fI (n+1) k s ((a::e3).map (·.1)) [] (v::l.drop (j+1))=e2 eI fI n k s ((a::e3++[(t,q+7)]).map (·.1)) [] rest by simp[e2,fa,qb,du]];have bA:=fV.snoc t (cc (q+7)) (show q+7<q+3+7 by omega);have eT:=x3.kin bA (cc _) [.obj ky];simp[fresh]at eT;simp[o2];refine CallDo.ob (dS) (bm _ _) (by simp only[ad];exact aA) (by simp only[ad];exact aA) (by simp[ak,Pv.look,ad,aB,kinL,kin]) ?_;rintro r al ⟨rfl,rfl⟩;refine⟨bT _ _ _ _,?_⟩;simp[bc,ad,aB];(with_reducible repeat' first|refine av ?_|simp[eu,gQ,fN,ea,aB]);refine CallDo.obK (wE _) (bm _ _) (by simp only[ad];exact aA) (by simp only[ad];exact aA) (by simp[ak,Pv.look,ad,aB,ea,kinL,kin]) Ψ ?_;rintro r al ⟨rfl,rfl⟩;refine⟨bT _ _ _ _,?_⟩;simp[bc,ad,aB];(with_reducible repeat' first|refine av ?_|simp[e5]);have h3:dq T.k (a::e3)++[.agg [.int .i64 t.kind,.int .i64 t.int,.str t.name,.slice 4 (.tr (.loc (q+7)) 0) (t.args.map T.e)]]=dq T.k (a::(e3++[(t,q+7)])):=(Hp T.k (a::e3) t (q+7)).symm;refine b1.whl (a::e3++[(t,q+7)],p,n,q+3) (by simp;omega) ⟨eM,by simp;omega,by simp[<-gn],by simp at iF⊢;omega,bA⟩ ?_;simp[o2];exact⟨by simp[fresh,kinL,kin,bu,ak,Pv.look,h3,eT],cG (by simp[fresh,kinL,kin,bu,ak,Pv.look,h3,eT]),cI (by simp[fresh,kinL,kin,cw,ak,Pv.look,h3,eT]),Ψ⟩
end
section
open Go Go.Pv
variable {ky:Nat}
def rB(ky:Nat)(l:List (List aj))(k:Int)(j q:Nat):List (Gm×Nat)->aU
 |[]=>⟨[(0,.ptr (.obj ky) 0),(1,ea ky),(4,.ptr (.loc 0) 0),(5,.bool false),(10,.ptr (.loc 2) 0)],[(.loc 0,[.int .i64 0,.str [],.slice 4 .nil [],.slice 4 .nil []]),(.obj ky,[.slice 1 .no (b6 l),.int .i64 j]),(.loc 2,[.int .i64 k,.str [],.slice 4 .nil [],.slice 4 .nil []])],[],3,[.obj ky]⟩
 |x::xs=>⟨[(0,.ptr (.obj ky) 0),(1,ea ky),(4,.ptr (.loc 0) 0),(5,.bool false),(10,.ptr (.loc 2) 0)],[(.loc 0,[.int .i64 0,.str [],.slice 4 .nil [],.slice 4 .nil []]),(.obj ky,[.slice 1 .no (b6 l),.int .i64 j]),(.loc 2,[.int .i64 k,.str [],.slice 4 .nil [],.slice 4 (.own (.loc 6)) (dq Gm.k (x::xs))])],[(.loc 6,⟨xs.length+1,65,4,none⟩)],q+7,[.obj ky]⟩
theorem Sg{l:List (List aj)}{i p:Nat}{g:Gm}{rest:List (List aj)}(h:yJ ky l i (some (g,rest)))(aV:l.length-rest.length=p)(κ:Nat):FnK aF 114 κ [aB ky,ea ky] (ad ky l i) fun r al=>r= .tuple [g.k κ,.bool true]/\al=ad ky l p:=(h κ).mono fun r al bp=>by rw[<-aV];exact bp
theorem afO(l:List (List aj))(aD:l.length<=100000){k:Int}(ab:lE k=true){i0 i1 κ:Nat}(aX:∀j n:Nat,i1<=j->j<=l.length->2*(l.length-j)+1<=n->yJ ky l j (fp eI fI n (l.drop j))){R:aW (Gm×List (List aj))}(st:aU)(j n:Nat)(n1:i1<=j)(ai:j<=l.length)(aM:2*(l.length-j)+2<=n)(bt:e2 eI fI n k [] [] [] (l.drop j)=R)(mv:il [.obj ky] st (rB ky l k j 0 [])):
  cQ aF [.obj ky] Aw (dG [.cell 4 true 4,.tmp 5] (ad ky l i0) κ (xG ky l R κ)) st:=by
 have I:1<k:=by simp[lE]at ab;omega
 have ih:k=7\/k=8\/k=10:=by simp[lE]at ab;omega
 unfold Aw;simp;refine hR (fun x:List (Gm×Nat)×Nat×Nat×Nat=>rB ky l k x.2.1 x.2.2.2 x.1) (fun x=>l.length-x.2.1) (fun x=>i1<=x.2.1/\x.2.1<=l.length/\2*(l.length-x.2.1)+2<=x.2.2.1/\e2 eI fI x.2.2.1 k [] [] (x.1.map (·.1)) (l.drop x.2.1)=R/\x.1.length<=x.2.1/\ko (x.2.2.2+7) x.1) ([],j,n,0) mv ⟨n1,ai,aM,bt,pT _,.nil _⟩ ?_;clear mv bt aM ai n1 st;rintro⟨acc,j,n,q⟩ ⟨n1,ai,aM,bt,iF,fV⟩ _;simp only at n1 ai aM bt iF fV;subst bt;obtain⟨n,rfl⟩:∃m,n=m+1:=⟨n-1,Ω⟩;have pt:j<=1000000:=Ω
 have ke:=aX j n n1 ai Ω;clear aX;rcases jS ai with rfl|fU
 ·have dS:=jO (ky:=ky) (l:=l) (i:=l.length) (s:=[41]) pt Ψ;rw[jR]at ke⊢;rw[show fp eI fI n []=none by cases n<;>simp[fp]]at ke;rw[show e2 eI fI (n+1) k [] [] (acc.map (·.1)) []=none by simp[e2]];rcases ih with rfl|rfl|rfl;all_goals cases acc with
  |nil=>simp[rB];refine CallDo.ob (dS) (bm _ _) (by simp only[ad];exact aA) (by simp only[ad];exact aA) (by simp[ak,Pv.look,ad,aB,kinL,kin]) ?_;rintro r al ⟨rfl,rfl⟩;refine⟨bT _ _ _ _,?_⟩;simp[bc,ad,aB];(with_reducible repeat' first|refine av ?_|simp);refine CallDo.obK (ke _) (bm _ _) (by simp only[ad];exact aA) (by simp only[ad];exact aA) (by simp[ak,Pv.look,ad,aB,ea,kinL,kin]) Ψ ?_;rintro r al ⟨x,iv,bp,rfl,rfl⟩;refine⟨bT _ _ _ _,?_⟩;simp[bc,ad,aB];(with_reducible repeat' first|refine av ?_|simp);refine dG.gm (iv) (.mk 0 [] [] []) false Ψ (s6 bp _) (by simp only[ad];exact aA) ?_;simp[ba,bg,aT,cX,dR,cC,dE,cb,dy,tnL,tn,dO,ed,fold,dV,dU,eH,Pv.look,cY,bC,bD,Gm.k,Gm.kind,Gm.name,Gm.ts,Gm.gs]
  |cons a e3=>simp[rB];refine CallDo.ob (dS) (bm _ _) (by simp only[ad];exact aA) (by simp only[ad];exact aA) (by simp[ak,Pv.look,ad,aB,kinL,kin]) ?_;rintro r al ⟨rfl,rfl⟩;refine⟨bT _ _ _ _,?_⟩;simp[bc,ad,aB];(with_reducible repeat' first|refine av ?_|simp);refine CallDo.obK (ke _) (bm _ _) (by simp only[ad];exact aA) (by simp only[ad];exact aA) (by simp[ak,Pv.look,ad,aB,ea,kinL,kin]) Ψ ?_;rintro r al ⟨x,iv,bp,rfl,rfl⟩;refine⟨bT _ _ _ _,?_⟩;simp[bc,ad,aB];(with_reducible repeat' first|refine av ?_|simp);refine dG.gm (iv) (.mk 0 [] [] []) false Ψ (s6 bp _) (by simp only[ad];exact aA) ?_;simp[ba,bg,aT,cX,dR,cC,dE,cb,dy,tnL,tn,dO,ed,fold,dV,dU,eH,Pv.look,cY,bC,bD,Gm.k,Gm.kind,Gm.name,Gm.ts,Gm.gs]
 obtain⟨v,aN⟩:∃v,l[j]? =some v:=⟨_,cL fU⟩;by_cases fa:v=[41]
 ·subst fa;have dS:=oq (ky:=ky) pt aN;have aI:=uM aN;obtain⟨G,qT⟩:∃G,G=Gm.mk k [] [] (acc.map (·.1)):=⟨_,rfl⟩;rw[fM aN,show e2 eI fI (n+1) k [] [] (acc.map (·.1)) ([41]::l.drop (j+1))=some (G,l.drop (j+1)) by simp[e2,I,qT]];cases acc with
  |nil=>simp[rB];refine CallDo.ob (dS) (bm _ _) (by simp only[ad];exact aA) (by simp only[ad];exact aA) (by simp[ak,Pv.look,ad,aB,kinL,kin]) ?_;rintro r al ⟨rfl,rfl⟩;refine⟨bT _ _ _ _,?_⟩;simp[bc,ad,aB];(with_reducible repeat' first|refine av ?_|simp);refine dG.gm (j+1) (G) true Ψ (AZ aI) (by simp only[ad];exact aA) ?_;simp[ba,bg,aT,cX,dR,cC,dE,cb,dy,fold,dV,dU,eH,Pv.look,cY,Gm.k,Gm.kind,Gm.name,Gm.ts,Gm.gs,qT,bC]
  |cons a e3=>have wm:=Kc fV.nd;simp[rB];refine CallDo.ob (dS) (bm _ _) (by simp only[ad];exact aA) (by simp only[ad];exact aA) (by simp[ak,Pv.look,ad,aB,kinL,kin]) ?_;rintro r al ⟨rfl,rfl⟩;refine⟨bT _ _ _ _,?_⟩;simp[bc,ad,aB];(with_reducible repeat' first|refine av ?_|simp);refine dG.gm (j+1) (G) true Ψ (AZ aI) (by simp only[ad];exact aA) ?_;simp[ba,bg,aT,cX,dR,cC,dE,cb,dy,fold,dV,dU,eH,Pv.look,cY,Gm.k,Gm.kind,Gm.name,Gm.ts,Gm.gs,qT,Kd,wm,Ke,bC]
 have dS:=jO (ky:=ky) (l:=l) (i:=j) pt (show l[j]?≠some [41] by rw[aN];simpa using fa);rw[fM aN]at ke⊢;cases du:fp eI fI n (v::l.drop (j+1))with
 |none=>
  rw[du]at ke;rw[show e2 eI fI (n+1) k [] [] (acc.map (·.1)) (v::l.drop (j+1))=none by simp[e2,fa,ab,du]];clear ab;rcases ih with rfl|rfl|rfl;all_goals cases acc with
  |nil=>simp[rB];refine CallDo.ob (dS) (bm _ _) (by simp only[ad];exact aA) (by simp only[ad];exact aA) (by simp[ak,Pv.look,ad,aB,kinL,kin]) ?_;rintro r al ⟨rfl,rfl⟩;refine⟨bT _ _ _ _,?_⟩;simp[bc,ad,aB];(with_reducible repeat' first|refine av ?_|simp);refine CallDo.obK (ke _) (bm _ _) (by simp only[ad];exact aA) (by simp only[ad];exact aA) (by simp[ak,Pv.look,ad,aB,ea,kinL,kin]) Ψ ?_;rintro r al ⟨x,iv,bp,rfl,rfl⟩;refine⟨bT _ _ _ _,?_⟩;simp[bc,ad,aB];(with_reducible repeat' first|refine av ?_|simp);refine dG.gm (iv) (.mk 0 [] [] []) false Ψ (s6 bp _) (by simp only[ad];exact aA) ?_;simp[ba,bg,aT,cX,dR,cC,dE,cb,dy,tnL,tn,dO,ed,fold,dV,dU,eH,Pv.look,cY,bC,bD,Gm.k,Gm.kind,Gm.name,Gm.ts,Gm.gs]
  |cons a e3=>simp[rB];refine CallDo.ob (dS) (bm _ _) (by simp only[ad];exact aA) (by simp only[ad];exact aA) (by simp[ak,Pv.look,ad,aB,kinL,kin]) ?_;rintro r al ⟨rfl,rfl⟩;refine⟨bT _ _ _ _,?_⟩;simp[bc,ad,aB];(with_reducible repeat' first|refine av ?_|simp);refine CallDo.obK (ke _) (bm _ _) (by simp only[ad];exact aA) (by simp only[ad];exact aA) (by simp[ak,Pv.look,ad,aB,ea,kinL,kin]) Ψ ?_;rintro r al ⟨x,iv,bp,rfl,rfl⟩;refine⟨bT _ _ _ _,?_⟩;simp[bc,ad,aB];(with_reducible repeat' first|refine av ?_|simp);refine dG.gm (iv) (.mk 0 [] [] []) false Ψ (s6 bp _) (by simp only[ad];exact aA) ?_;simp[ba,bg,aT,cX,dR,cC,dE,cb,dy,tnL,tn,dO,ed,fold,dV,dU,eH,Pv.look,cY,bC,bD,Gm.k,Gm.kind,Gm.name,Gm.ts,Gm.gs]
 |some tr=>
  obtain⟨g,rest⟩:=tr;rw[du]at ke;obtain⟨tA,tB⟩:=BV NY _ _ _ _ du;rw[<-fM aN]at tA tB;obtain⟨gn,oO⟩:=vl tA;obtain⟨p,aV⟩:∃p,p=l.length-rest.length:=⟨_,rfl⟩;rw[<-aV]at gn;have wE:=Sg ke aV.symm;have eM:p<=l.length:=Ω
  have KR:j<p:=by simp at tB;omega
  have e5:acc.length+1<=aR:=by unfold aR;omega
  have e7:∀L,e2 eI fI (n+1) k [] [] L (v::l.drop (j+1))=e2 eI fI n k [] [] (L++[g]) rest:=fun L=>by simp[e2,fa,ab,du]
  clear ab;cases acc with
  |nil=>
   rw[show e2 eI fI (n+1) k [] [] (([]:List (Gm×Nat)).map (·.1)) (v::l.drop (j+1))=e2 eI fI n k [] [] (([(g,3)]:List (Gm×Nat)).map (·.1)) rest from e7 _];clear e7;rcases ih with rfl|rfl|rfl;all_goals
    simp[rB]
    refine CallDo.ob (dS) (bm _ _) (by simp only[ad];exact aA) (by simp only[ad];exact aA) (by simp[ak,Pv.look,ad,aB,kinL,kin]) ?_
    rintro r al ⟨rfl,rfl⟩
    refine⟨bT _ _ _ _,?_⟩
    simp[bc,ad,aB]
    (with_reducible repeat' first|refine av ?_|simp)
    refine CallDo.obK (wE _) (bm _ _) (by simp only[ad];exact aA) (by simp only[ad];exact aA) (by simp[ak,Pv.look,ad,aB,ea,kinL,kin]) Ψ ?_
    rintro r al ⟨rfl,rfl⟩
    refine⟨bT _ _ _ _,?_⟩
    simp[bc,ad,aB]
    (with_reducible repeat' first|refine av ?_|simp[e5])
    refine b1.whl ([(g,3)],p,n,0) (by simp;omega) ⟨by simp;omega,eM,by simp;omega,by simp[<-gn],by simp;omega,⟨Ψ,Ψ⟩⟩ ?_
    simp[rB,dq]
    exact⟨by simp[fresh,kinL,kin,bu,ak,Pv.look,ea,aB,Gm.k],cG (by simp[fresh,kinL,kin,bu,ak,Pv.look,ea,aB,Gm.k]),cI (by simp[fresh,kinL,kin,cw,ak,Pv.look,ea,aB,Gm.k]),Ψ⟩
  |cons a e3=>
   simp only[gg]at e5;rw[show e2 eI fI (n+1) k [] [] ((a::e3).map (·.1)) (v::l.drop (j+1))=e2 eI fI n k [] [] ((a::e3++[(g,q+7)]).map (·.1)) rest by rw[e7];simp];clear e7;have bA:=fV.snoc g (cc (q+7)) (show q+7<q+3+7 by omega);have eT:=R9 bA (cc _) [.obj ky];simp[fresh]at eT;have h3:dq Gm.k (a::e3)++[.agg [.int .i64 g.kind,.str g.name,.slice 4 (.tr (.loc (q+7)) 0) (g.ts.map enc),.slice 4 (.tr (.loc (q+7)) 1) (g.gs.map Gm.e)]]=dq Gm.k (a::(e3++[(g,q+7)])):=(Hp Gm.k (a::e3) g (q+7)).symm;rcases ih with rfl|rfl|rfl;all_goals
    simp[rB]
    refine CallDo.ob (dS) (bm _ _) (by simp only[ad];exact aA) (by simp only[ad];exact aA) (by simp[ak,Pv.look,ad,aB,kinL,kin]) ?_
    rintro r al ⟨rfl,rfl⟩
    refine⟨bT _ _ _ _,?_⟩
    simp[bc,ad,aB]
    (with_reducible repeat' first|refine av ?_|simp)
    refine CallDo.obK (wE _) (bm _ _) (by simp only[ad];exact aA) (by simp only[ad];exact aA) (by simp[ak,Pv.look,ad,aB,ea,kinL,kin]) Ψ ?_
    rintro r al ⟨rfl,rfl⟩
    refine⟨bT _ _ _ _,?_⟩
    simp[bc,ad,aB]
    (with_reducible repeat' first|refine av ?_|simp[e5])
    refine b1.whl (a::e3++[(g,q+7)],p,n,q+3) (by simp;omega) ⟨by simp;omega,eM,by simp;omega,by simp[<-gn],by simp at iF⊢;omega,bA⟩ ?_
    simp[rB]
    exact⟨by simp[fresh,kinL,kin,bu,ak,Pv.look,h3,eT,ea,aB],cG (by simp[fresh,kinL,kin,bu,ak,Pv.look,h3,eT,ea,aB]),cI (by simp[fresh,kinL,kin,cw,ak,Pv.look,h3,eT,ea,aB]),Ψ⟩
theorem afT(l:List (List aj))(aD:l.length<=100000)(hw:∀w∈l,w≠[]/\w.length<=aR):∀m i n:Nat,l.length-i<=m->i<=l.length->2*(l.length-i)+1<=n->yJ ky l i (fp eI fI n (l.drop i)):=by
 intro m;induction m with
 |zero=>
  intro i n hm aw aM;obtain rfl:i=l.length:=Ω
  rw[jR,show fp eI fI n []=none by cases n<;>simp[fp]];exact LF l aD (cc _) Ψ Ψ Ψ
 |succ m aX=>
 intro i n hm aw aM;obtain⟨n,rfl⟩:∃m,n=m+1:=⟨n-1,Ω⟩;rcases jS aw with rfl|hH
 ·rw[jR,show fp eI fI (n+1) []=none by simp[fp]];exact LF l aD (cc _) Ψ Ψ Ψ
 obtain⟨v,h⟩:∃v,l[i]? =some v:=⟨_,cL hH⟩;rw[fM h];by_cases h1:v=ia
 ·subst h1;rw[show fp eI fI (n+1) (ia::l.drop (i+1))=some (.mk 0 [] [] [],l.drop (i+1)) by simp[fp]];exact afW l aD h
 by_cases fO:v=iL
 ·subst fO;rw[show fp eI fI (n+1) (iL::l.drop (i+1))=some (.mk 1 [] [] [],l.drop (i+1)) by simp[fp,h1]];exact afV l aD h
 by_cases aP:v=[40];rotate_left
 ·rw[show fp eI fI (n+1) (v::l.drop (i+1))=none by simp[fp,h1,fO,aP]];exact LF l aD aw (by rw[h];simpa using h1) (by rw[h];simpa using fO) (by rw[h];simpa using aP)
 subst aP;clear h1 fO;have aab:∀r,fp eI fI (n+1) ([40]::r)=(match r with
   |[]=>none
   |h::cZ=>match fI h with
    |some (k,s)=>e2 eI fI n k s [] [] cZ
    |none=>none):=fun r=>by
  rcases r with _|⟨h,r⟩
  ·simp[fp,ia,iL]
  ·simp[fp,ia,iL];split<;>simp_all
 rw[aab];rcases jS (show i+1<=l.length by omega)with he|Gv
 ·rw[he,jR];exact afU l aD h he
 obtain⟨w,bR⟩:∃w,l[i+1]? =some w:=⟨_,cL Gv⟩;rw[fM bR];simp only;intro κ;have c1:=N5 w;cases aI:fI w with
 |none=>
  simp only;obtain⟨ab,hr⟩:oG w=none/\gG w=false:=by
   unfold fI at aI;cases ab:oG w with
   |some k=>rw[ab]at aI;simp at aI
   |none=>rw[ab]at aI;refine⟨rfl,?_⟩;cases hr:gG w with
    |true=>simp[hr]at aI
    |false=>rfl
  rw[hr]at c1;clear aX;have az:=bm (ky:=ky) l i;have aw:=(fo.1 h).1;have eN:=jO (ky:=ky) (show i<=1000000 by omega) (s:=ia) (l:=l) (i:=i) (by rw[h];decide);have cD:=jO (ky:=ky) (show i<=1000000 by omega) (s:=iL) (l:=l) (i:=i) (by rw[h];decide);have dI:=oq (ky:=ky) (show i<=1000000 by omega) h;have dW:=lP (ky:=ky) (fo.1 bR).1;have oa:=js (ky:=ky) bR;have bZ:aY ((i:Int)+1+1):=by unfold aY;omega
  simp only[ad]at az;simp only[ia]at eN;simp only[iL]at cD;refine FnK.mk mixed Ac y7 zL Ψ az.obj rfl fun aG b2=>?_;unfold xo;clear aG b2;simp[aB,ad];refine CallDo.ob (eN) (bm _ _) (by simp only[ad];exact aA) (by simp only[ad];exact aA) (by simp[ak,Pv.look,ad,aB,kinL,kin]) ?_;rintro r al ⟨rfl,rfl⟩;refine⟨bT _ _ _ _,?_⟩;simp[bc,ad,aB];(with_reducible repeat' first|refine av ?_|simp);refine CallDo.ob (cD) (bm _ _) (by simp only[ad];exact aA) (by simp only[ad];exact aA) (by simp[ak,Pv.look,ad,aB,kinL,kin]) ?_;rintro r al ⟨rfl,rfl⟩;refine⟨bT _ _ _ _,?_⟩;simp[bc,ad,aB];(with_reducible repeat' first|refine av ?_|simp);refine CallDo.ob (dI) (bm _ _) (by simp only[ad];exact aA) (by simp only[ad];exact aA) (by simp[ak,Pv.look,ad,aB,kinL,kin]) ?_;rintro r al ⟨rfl,rfl⟩;refine⟨bT _ _ _ _,?_⟩;simp[bc,ad,aB];(with_reducible repeat' first|refine av ?_|simp);refine CallDo.ob (dW) (bm _ _) (by simp only[ad];exact aA) (by simp only[ad];exact aA) (by simp[ak,Pv.look,ad,aB,kinL,kin]) ?_;rintro r al ⟨rfl,rfl⟩;refine⟨bT _ _ _ _,?_⟩;simp[bc,ad,aB];(with_reducible repeat' first|refine av ?_|simp);refine CallDo.ob (oa) (bm _ _) (by simp only[ad];exact aA) (by simp only[ad];exact aA) (by simp[ak,Pv.look,ad,aB,kinL,kin]) ?_;rintro r al ⟨rfl,rfl⟩;refine⟨bT _ _ _ _,?_⟩;simp[bc,ad,aB];(with_reducible repeat' first|refine av ?_|refine aZ c1 ?_|refine a1 c1 ?_|simp[bZ,L7,ab,-wI]);refine dG.gm (i+1+1) (.mk 0 [] [] []) false Ψ (s6 Ω _) (by simp only[ad];exact aA) ?_;simp[ba,bg,aT,cX,dR,cC,dE,cb,dy,tnL,tn,dO,ed,fold,dV,dU,eH,Pv.look,cY,bC,bD,Gm.k,Gm.kind,Gm.name,Gm.ts,Gm.gs]
 |some x=>
  obtain⟨k,s⟩:=x;simp only;obtain⟨I,J,au⟩:=adU aI;have done:∀st,il [.obj ky] st (o2 ky l k s (i+2) 0 [])->cQ aF [.obj ky] Aw (dG [.cell 4 true 4,.tmp 5] (ad ky l i) κ (xG ky l (e2 eI fI n k s [] [] (l.drop (i+1+1))) κ)) st:=by
   intro st e7;cases qa:lE k with
   |false=>obtain⟨eu,gQ,fN⟩:=au qa;exact afP l aD hw I eu gQ fN st (i+2) n Ω Ω rfl e7
   |true=>obtain rfl:=J qa;exact afO l aD qa (i1:=i+2) (fun j n lV ig Dt=>aX j n Ω ig Dt) st (i+2) n (cc _) Ω Ω rfl e7
  clear aX I J au;cases ab:oG w with
  |some bn=>
   obtain⟨rfl,rfl⟩:bn=k/\([]:List aj)=s:=by unfold fI at aI;rw[ab]at aI;simpa using aI
   have az:=bm (ky:=ky) l i;have aw:=(fo.1 h).1;have eN:=jO (ky:=ky) (show i<=1000000 by omega) (s:=ia) (l:=l) (i:=i) (by rw[h];decide);have cD:=jO (ky:=ky) (show i<=1000000 by omega) (s:=iL) (l:=l) (i:=i) (by rw[h];decide);have dI:=oq (ky:=ky) (show i<=1000000 by omega) h;have dW:=lP (ky:=ky) (fo.1 bR).1;have oa:=js (ky:=ky) bR;have bZ:aY ((i:Int)+1+1):=by unfold aY;omega
   simp only[ad]at az;simp only[ia]at eN;simp only[iL]at cD;refine FnK.mk mixed Ac y7 zL Ψ az.obj rfl fun aG b2=>?_;unfold xo;clear aG b2;simp[aB,ad];refine CallDo.ob (eN) (bm _ _) (by simp only[ad];exact aA) (by simp only[ad];exact aA) (by simp[ak,Pv.look,ad,aB,kinL,kin]) ?_;rintro r al ⟨rfl,rfl⟩;refine⟨bT _ _ _ _,?_⟩;simp[bc,ad,aB];(with_reducible repeat' first|refine av ?_|simp);refine CallDo.ob (cD) (bm _ _) (by simp only[ad];exact aA) (by simp only[ad];exact aA) (by simp[ak,Pv.look,ad,aB,kinL,kin]) ?_;rintro r al ⟨rfl,rfl⟩;refine⟨bT _ _ _ _,?_⟩;simp[bc,ad,aB];(with_reducible repeat' first|refine av ?_|simp);refine CallDo.ob (dI) (bm _ _) (by simp only[ad];exact aA) (by simp only[ad];exact aA) (by simp[ak,Pv.look,ad,aB,kinL,kin]) ?_;rintro r al ⟨rfl,rfl⟩;refine⟨bT _ _ _ _,?_⟩;simp[bc,ad,aB];(with_reducible repeat' first|refine av ?_|simp);refine CallDo.ob (dW) (bm _ _) (by simp only[ad];exact aA) (by simp only[ad];exact aA) (by simp[ak,Pv.look,ad,aB,kinL,kin]) ?_;rintro r al ⟨rfl,rfl⟩;refine⟨bT _ _ _ _,?_⟩;simp[bc,ad,aB];(with_reducible repeat' first|refine av ?_|simp);refine CallDo.ob (oa) (bm _ _) (by simp only[ad];exact aA) (by simp only[ad];exact aA) (by simp[ak,Pv.look,ad,aB,kinL,kin]) ?_;rintro r al ⟨rfl,rfl⟩;refine⟨bT _ _ _ _,?_⟩;simp[bc,ad,aB];(with_reducible repeat' first|refine av ?_|simp[bZ,L7,ab,-wI]);refine done _ ?_;simp[o2,show(i:Int)+2=i+1+1 by omega];exact⟨by simp[fresh,kinL,kin,bu,ak,Pv.look,j1,l6,ea,aB],cG (by simp[fresh,kinL,kin,bu,ak,Pv.look,j1,l6,ea,aB]),cI (by simp[fresh,kinL,kin,cw,ak,Pv.look,j1,l6,ea,aB]),Ψ⟩
  |none=>
   obtain⟨hr,rfl,rfl⟩:gG w=true/\k=9/\s=w:=by
    unfold fI at aI;rw[ab]at aI;cases hr:gG w with
    |false=>simp[hr]at aI
    |true=>simp[hr]at aI;exact⟨rfl,aI.1.symm,aI.2.symm⟩
   rw[hr]at c1;have az:=bm (ky:=ky) l i;have aw:=(fo.1 h).1;have eN:=jO (ky:=ky) (show i<=1000000 by omega) (s:=ia) (l:=l) (i:=i) (by rw[h];decide);have cD:=jO (ky:=ky) (show i<=1000000 by omega) (s:=iL) (l:=l) (i:=i) (by rw[h];decide);have dI:=oq (ky:=ky) (show i<=1000000 by omega) h;have dW:=lP (ky:=ky) (fo.1 bR).1;have oa:=js (ky:=ky) bR;have bZ:aY ((i:Int)+1+1):=by unfold aY;omega
   simp only[ad]at az;simp only[ia]at eN;simp only[iL]at cD;refine FnK.mk mixed Ac y7 zL Ψ az.obj rfl fun aG b2=>?_;unfold xo;clear aG b2;simp[aB,ad];refine CallDo.ob (eN) (bm _ _) (by simp only[ad];exact aA) (by simp only[ad];exact aA) (by simp[ak,Pv.look,ad,aB,kinL,kin]) ?_;rintro r al ⟨rfl,rfl⟩;refine⟨bT _ _ _ _,?_⟩;simp[bc,ad,aB];(with_reducible repeat' first|refine av ?_|simp);refine CallDo.ob (cD) (bm _ _) (by simp only[ad];exact aA) (by simp only[ad];exact aA) (by simp[ak,Pv.look,ad,aB,kinL,kin]) ?_;rintro r al ⟨rfl,rfl⟩;refine⟨bT _ _ _ _,?_⟩;simp[bc,ad,aB];(with_reducible repeat' first|refine av ?_|simp);refine CallDo.ob (dI) (bm _ _) (by simp only[ad];exact aA) (by simp only[ad];exact aA) (by simp[ak,Pv.look,ad,aB,kinL,kin]) ?_;rintro r al ⟨rfl,rfl⟩;refine⟨bT _ _ _ _,?_⟩;simp[bc,ad,aB];(with_reducible repeat' first|refine av ?_|simp);refine CallDo.ob (dW) (bm _ _) (by simp only[ad];exact aA) (by simp only[ad];exact aA) (by simp[ak,Pv.look,ad,aB,kinL,kin]) ?_;rintro r al ⟨rfl,rfl⟩;refine⟨bT _ _ _ _,?_⟩;simp[bc,ad,aB];(with_reducible repeat' first|refine av ?_|simp);refine CallDo.ob (oa) (bm _ _) (by simp only[ad];exact aA) (by simp only[ad];exact aA) (by simp[ak,Pv.look,ad,aB,kinL,kin]) ?_;rintro r al ⟨rfl,rfl⟩;refine⟨bT _ _ _ _,?_⟩;simp[bc,ad,aB];(with_reducible repeat' first|refine av ?_|refine aZ c1 ?_|refine a1 c1 ?_|simp[bZ,L7,ab,-wI]);refine done _ ?_;simp[o2,show(i:Int)+2=i+1+1 by omega];exact⟨by simp[fresh,kinL,kin,bu,ak,Pv.look,j1,l6,ea,aB],cG (by simp[fresh,kinL,kin,bu,ak,Pv.look,j1,l6,ea,aB]),cI (by simp[fresh,kinL,kin,cw,ak,Pv.look,j1,l6,ea,aB]),Ψ⟩
end
section
open Go Go.Pv
end
section
end
section
open Go Go.Pv
end
end Go.Proofs.YtlnndmgfngfeiaaGreatDoor
namespace Go.Proofs
section
open Go.Shelf
end
section
open Go.Shelf Go.RowKit Go.Lib Go.Sort
def OL:Type:={x:List Value//x.length=4/\∀v∈x,v.oneCell'=true}
instance:Inhabited OL:=⟨⟨[.int .i64 0,.int .i64 0,.int .i64 0,.int .i64 0],rfl,by intro v aN;simp at aN;subst aN;rfl⟩⟩
def YE:Type:=Int×OL
instance:Inhabited YE:=⟨(0,default)⟩
end
end Go.Proofs
namespace Go.Proofs.YtlnndmgfngfeiaaGreatDoor
section
open Go Go.Pv Go.Sort Go.RowKit
end
section
open Go Go.Pv
theorem akv(s:List aj)(az:s.length<=aR):bW aF 82 [.str s] (nf (jw s)):=by
 by_cases I:s.length<=100000;rotate_left
 ·have:jw s=none:=by unfold jw;rw[br (fun h=>I h.1)]
  rw[this,nf];have A0:(100000:Int)<s.length:=Ω
  refine bI kF Re Vc fun aG=>?_;unfold I0;simp[A0];simp[cn,BR,ba,bg,aT]
 have A0:¬(100000:Int)<s.length:=Ω
 generalize bt:nf (jw s)=R;have qU:kin (fun _=>dr) R:=by rw[<-bt];unfold nf;split<;>simp[kin,kinL]
 refine bI kF Re Vc (fun aG=>?_) (hr:=qU);unfold I0;clear aG;simp[A0];refine hR (fun i:Nat=>⟨[(0,.str s),(4,.int .i64 i)],[],[],0,[]⟩) (fun i=>s.length-i) (fun i=>i<=s.length/\∀c∈s.take i,tU c=true) 0 cW ⟨Ω,Ψ⟩ ?_;rintro i ⟨aw,dM⟩ _;rcases jS aw with rfl|b5
 ·rw[hE]at dM;have mm:∀c∈s,tU c=true:=dM;simp;refine hR (fun x:List (List aj)×Nat=>⟨[(0,.str s),(5,.slice 1 (.own (.loc 0)) (b6 x.1)),(6,.int .i64 x.2)],[],[(.loc 0,⟨x.1.length,9,1,none⟩)],1,[]⟩) (fun x=>s.length-x.2) (fun x=>x.2<=s.length/\x.1++hO (s.drop x.2)=hO s/\x.1.length<=x.2) ([],0) (by simp[b6];exact cW) ⟨Ψ,Ψ,Ψ⟩ ?_;rintro⟨out,i⟩ ⟨aw,hinv,uZ⟩ _;simp only at aw hinv uZ;rcases jS aw with rfl|b5
  ·rw[jR,Il,List.append_nil]at hinv;subst hinv;by_cases aM:(hO s).length<=20000
   ·have hz:¬(20000:Int)<(hO s).length:=Ω
    have aE:jw s=some (hO s):=by unfold jw;rw[if_pos ⟨I,mm,aM⟩]
    simp[hz];rw[<-bt,aE,nf];simp[cn,BR,ba,bg,aT]
   ·have hz:(20000:Int)<(hO s).length:=Ω
    have aE:jw s=none:=by unfold jw;rw[br fun h=>aM h.2.2]
    simp[hz];rw[<-bt,aE,nf];simp[cn,BR,ba,bg,aT]
  ·obtain⟨c,aH,fT⟩:=fQ b5;have bZ:aY ((i:Int)+1):=by unfold aY;omega
   have zu:out.length+1<=aR:=by unfold aR;omega
   rw[fM aH,Ik]at hinv;by_cases mu:c=32\/c=10
   ·rw[if_pos mu]at hinv;rcases mu with rfl|rfl;all_goals
     simp[b5,fT,aH,bZ]
     refine b1.whl (out,i+1) (by simp;omega) ⟨b5,hinv,by simp;omega⟩ cW
   rw[br mu]at hinv;have n32:((c.toNat:Int)==32)=false:=qw (d:=32) fun h=>mu (.inl h);have n10:((c.toNat:Int)==10)=false:=qw (d:=10) fun h=>mu (.inr h);by_cases tc:c=59
   ·rw[if_pos tc]at hinv;subst tc;simp[b5,fT,aH,bZ];refine hR (fun k:Nat=>⟨[(0,.str s),(5,.slice 1 (.own (.loc 0)) (b6 out)),(6,.int .i64 k)],[],[(.loc 0,⟨out.length,9,1,none⟩)],1,[]⟩) (fun k=>s.length-k) (fun k=>i<=k/\k<=s.length/\∀c∈(s.drop i).take (k-i),qk c=true) i cW ⟨cc _,aw,Ψ⟩ ?_;rintro k ⟨hI,gj,ih⟩ _;have jG:(∀c,s[k]? =some c->qk c=false)->i<k->k<=s.length/\out++hO (s.drop k)=hO s/\out.length<=k:=by intro he lU;refine⟨gj,?_,Ω⟩;have aI:=(H6 hI gj ih he).2;rw[fM aH]at aI;rw[<-hinv,<-aI];rfl
    have lU:(∀c,s[k]? =some c->qk c=false)->i<k:=by
     intro he;rcases mc i k with h|h
     ·exact h
     ·have:k=i:=Ω
      subst this;exact absurd (he 59 aH) (by decide)
    rcases jS gj with rfl|jm
    ·have he:∀c,s[s.length]? =some c->qk c=false:=fun c h=>by simp at h
     simp;refine b1.whl (out,s.length) (by simp;omega) (jG he (lU he)) cW
    ·obtain⟨d,aI,hdi⟩:=fQ jm;have lW:aY ((k:Int)+1):=by unfold aY;omega
     by_cases fN:d=10
     ·subst fN;have he:∀c,s[k]? =some c->qk c=false:=fun c h=>by rw[aI]at h;cases h;rfl
      simp[jm,hdi,aI];refine b1.whl (out,k) (by have:=lU he;simp;omega) (jG he (lU he)) cW
     ·have aM:((d.toNat:Int) !=10)=true:=yD (d:=10) fN;simp[jm,hdi,aI,aM,lW];refine b1.whl (k+1) Ω ⟨Ω,jm,fun x af=>?_⟩ cW;rw[show k+1-i=(k-i)+1 by omega,k3,mb,show i+(k-i)=k by omega,aI]at af;rcases hl.1 af with af|af
      ·exact ih x af
      ·simp at af;subst af;simp[qk,fN]
   rw[br tc]at hinv;have Mh:((c.toNat:Int)==59)=false:=qw (d:=59) tc;by_cases tz:c=40\/c=41
   ·rw[if_pos tz]at hinv;have u2:(s.take (i+1)).drop i=[c]:=by rw[List.drop_take,fM aH];simp
    have hle:(i:Int)<=i+1:=Ω
    rcases tz with rfl|rfl;all_goals
     simp[b5,fT,aH,bZ,u2,hle,zu]
     refine⟨Ω,?_⟩
     refine b1.whl (out++[[_]],i+1) (by simp;omega) ⟨b5,(by simpa using hinv),by simp;omega⟩ (by simp[b6];exact⟨by simp[fresh,kinL,kin,bu,ak,Pv.look,cv,e8],cG (by simp[fresh,kinL,kin,bu,ak,Pv.look,cv,e8]),cI (by simp[fresh,kinL,kin,cw,ak,Pv.look,cv,e8]),Ψ⟩)
   rw[br tz]at hinv;have tR:((c.toNat:Int)==40)=false:=qw (d:=40) fun h=>tz (.inl h);have r4:((c.toNat:Int)==41)=false:=qw (d:=41) fun h=>tz (.inr h);have Dm:iT c=true:=(Bl c).2 ⟨mu,tc,tz⟩;simp[b5,fT,aH,n32,n10,Mh,tR,r4];refine hR (fun k:Nat=>⟨[(0,.str s),(5,.slice 1 (.own (.loc 0)) (b6 out)),(6,.int .i64 i),(8,.int .i64 k)],[],[(.loc 0,⟨out.length,9,1,none⟩)],1,[]⟩) (fun k=>s.length-k) (fun k=>i<=k/\k<=s.length/\∀c∈(s.drop i).take (k-i),iT c=true) i cW ⟨cc _,aw,Ψ⟩ ?_;rintro k ⟨hI,gj,ih⟩ _;have lU:(∀c,s[k]? =some c->iT c=false)->i<k:=by
    intro he;rcases mc i k with h|h
    ·exact h
    ·have:k=i:=Ω
     subst this;have:=he _ aH;rw[Dm]at this;cases this
   have jG:(∀c,s[k]? =some c->iT c=false)->k<=s.length/\(out++[(s.take k).drop i])++hO (s.drop k)=hO s/\(out++[(s.take k).drop i]).length<=k:=by intro he;have anE:=lU he;refine⟨gj,?_,by simp;omega⟩;obtain⟨aE,aI⟩:=H6 hI gj ih he;rw[fM aH,List.takeWhile_cons,if_pos Dm]at aE;rw[fM aH,List.dropWhile_cons,if_pos Dm]at aI;rw[aE,aI,<-fM aH]at hinv;rw[List.drop_take,lr];exact hinv
   have S8:out.length+1<=aR:=zu;have eT:(i:Int)<=k:=Ω
   have wj:(k:Int)<=s.length:=Ω
   rcases jS gj with rfl|jm
   ·have he:∀c,s[s.length]? =some c->iT c=false:=fun c h=>by simp at h
    have wz:=lU he;simp[eT,wj,S8];refine b1.whl (out++[(s.take s.length).drop i],s.length) (by simp;omega) (jG he) (by simp[b6];exact⟨by simp[fresh,kinL,kin,bu,ak,Pv.look,cv,e8],cG (by simp[fresh,kinL,kin,bu,ak,Pv.look,cv,e8]),cI (by simp[fresh,kinL,kin,cw,ak,Pv.look,cv,e8]),Ψ⟩)
   ·obtain⟨d,aI,hdi⟩:=fQ jm;have lW:aY ((k:Int)+1):=by unfold aY;omega
    by_cases hw:iT d=true
    ·obtain⟨Cj,Ae,vz⟩:=(Bl d).1 hw;have m32:((d.toNat:Int) !=32)=true:=yD (d:=32) fun h=>Cj (.inl h);have m10:((d.toNat:Int) !=10)=true:=yD (d:=10) fun h=>Cj (.inr h);have agj:((d.toNat:Int) !=59)=true:=yD (d:=59) Ae;have agi:((d.toNat:Int) !=40)=true:=yD (d:=40) fun h=>vz (.inl h);have oc:((d.toNat:Int) !=41)=true:=yD (d:=41) fun h=>vz (.inr h);simp[jm,hdi,aI,m32,m10,agj,agi,oc,lW];refine b1.whl (k+1) Ω ⟨Ω,jm,fun x af=>?_⟩ cW;rw[show k+1-i=(k-i)+1 by omega,k3,mb,show i+(k-i)=k by omega,aI]at af;rcases hl.1 af with af|af
     ·exact ih x af
     ·simp at af;subst af;exact hw
    ·rw[Bool.not_eq_true]at hw;have he:∀c,s[k]? =some c->iT c=false:=fun c h=>by rw[aI]at h;cases h;exact hw
     have gv:d=32\/d=10\/d=40\/d=41\/d=59:=by
      unfold iT o8 at hw;simp at hw;by_cases bH:d=32
      ·exact .inl bH
      by_cases a2:d=10
      ·exact .inr (.inl a2)
      by_cases a3:d=40
      ·exact .inr (.inr (.inl a3))
      by_cases a4:d=41
      ·exact .inr (.inr (.inr (.inl a4)))
      exact .inr (.inr (.inr (.inr (hw bH a2 a3 a4))))
     have cH:=jG he;have wz:=lU he;rcases gv with rfl|rfl|rfl|rfl|rfl;all_goals
      simp[jm,hdi,aI,eT,wj,S8]
      refine b1.whl (out++[(s.take k).drop i],k) (by simp;omega) cH (by simp[b6];exact⟨by simp[fresh,kinL,kin,bu,ak,Pv.look,cv,e8],cG (by simp[fresh,kinL,kin,bu,ak,Pv.look,cv,e8]),cI (by simp[fresh,kinL,kin,cw,ak,Pv.look,cv,e8]),Ψ⟩)
 ·obtain⟨c,aH,fT⟩:=fQ b5;have bZ:aY ((i:Int)+1):=by unfold aY;omega
  have la:=U3 c;by_cases fN:(c.toNat:Int)=10
  ·have oJ:((c.toNat:Int) !=10)=false:=by simpa using fN
   simp[b5,fT,aH,oJ,bZ];refine b1.whl (i+1) Ω ⟨b5,fun x af=>?_⟩ cW;rw[k3,aH]at af;rcases hl.1 af with af|af
   ·exact dM x af
   ·simp at af;subst af;rw[la];omega
  ·have oJ:((c.toNat:Int) !=10)=true:=by simpa using fN
   by_cases Dc:(c.toNat:Int)<32
   ·have Di:tU c=false:=by rw[Bool.eq_false_iff];intro h;rw[la]at h;omega
    simp[b5,fT,aH,oJ,Dc,bZ];have aE:jw s=none:=by unfold jw;rw[br];intro h;have:=h.2.1 c (e1 aH);rw[Di]at this;cases this
    rw[<-bt,aE,nf];simp[cn,BR,ba,bg,aT]
   ·by_cases Sl:126<(c.toNat:Int)
    ·have Di:tU c=false:=by rw[Bool.eq_false_iff];intro h;rw[la]at h;omega
     simp[b5,fT,aH,oJ,Dc,Sl,bZ];have aE:jw s=none:=by unfold jw;rw[br];intro h;have:=h.2.1 c (e1 aH);rw[Di]at this;cases this
     rw[<-bt,aE,nf];simp[cn,BR,ba,bg,aT]
    ·simp[b5,fT,aH,oJ,Dc,Sl,bZ];refine b1.whl (i+1) Ω ⟨b5,fun x af=>?_⟩ cW;rw[k3,aH]at af;rcases hl.1 af with af|af
     ·exact dM x af
     ·simp at af;subst af;rw[la];omega
theorem E0:∀(n:Nat) (s:List aj),s.length<=n->∀t∈hO s,t.length<=s.length
 |_,[],_=>by rw[Il];simp
 |0,_::_,h=>by simp at h
 |n+1,c::r,h=>by
  simp only[gg]at h;have aI:(r.dropWhile qk).length<=r.length:=(List.dropWhile_suffix _).length_le;have hw:(r.dropWhile iT).length<=r.length:=(List.dropWhile_suffix _).length_le;have aE:(r.takeWhile iT).length<=r.length:=(List.takeWhile_prefix _).length_le;rw[Ik];split
  ·intro t aE;have:=E0 n r Ω t aE;simp;omega
  ·split
   ·intro t aE;have:=E0 n _ Ω t aE;simp;omega
   ·split
    ·intro t aE;simp only[gy]at aE;rcases aE with rfl|aE
     ·simp
     ·have:=E0 n r Ω t aE;simp;omega
    ·intro t aE;simp only[gy]at aE;rcases aE with rfl|aE
     ·simp;omega
     ·have:=E0 n _ Ω t aE;simp;omega
theorem akh{s:List aj}{l:List (List aj)}(h:jw s=some l):l.length<=20000/\∀w∈l,w≠[]/\w.length<=aR:=by
 unfold jw at h;split at h
 ·rename_i aH;cases h;refine⟨aH.2.2,fun w hw=>⟨Cc _ s (cc _) w hw,?_⟩⟩;have:=E0 _ s (cc _) w hw;unfold aR;omega
 ·cases h
def IY:C:=(ag [c7 (.alloc 2 none (.agg [.slice 7 .nil []])),bK 3 false] (ag [aa 11 0,cl 12 82 11,aa 10 12,dZ 13 0 10,dZ 14 1 10,aa 4 13,aa 5 14] (.seq (ag [aa 15 5,dK 16 15] (bb 16 (ag [bh 17 (.build [.slice 7 .nil []] []),bF 1 2 17,bK 3 false] .ret) .skip)) (ag [aa 18 4,bh 19 (.build [.slice 1 .nil [],.int .i64 0] [(0,1,(.t 18))]),c7 (.box 20 (some 871) (.t 19)),aa 6 20] (ag [bh 21 (.build [.slice 7 .nil []] []),c7 (.alloc 7 none (.agg [.slice 7 .nil []])),bF 1 7 21] (.seq (.block 0 (.loop (.seq (ag [aa 22 6,cl 23 83 22,dK 24 23] (bb 24 .skip (.exit 0))) (.block 1 (ag [aa 26 6,cl 27 110 26,aa 25 27,dZ 28 0 25,dZ 29 1 25,c7 (.alloc 8 none (.agg [.str [],.int .i64 0,.int .i64 0,.int .i64 0,.str [],.slice 4 .nil [],.slice 4 .nil []])),bF 7 8 28,aa 9 29] (.seq (ag [aa 30 9,dK 31 30] (bb 31 (ag [bh 32 (.build [.slice 7 .nil []] []),bF 1 2 32,bK 3 false] .ret) .skip)) (.region [a6 33 0 1 7,a8 34 1 33,bO 35 7 8,gU 36 7 86 [.t 35],kZ 37 7 86 34 36,a6 38 0 1 7,bF 1 38 37]))))))) (.seq (ag [bO 39 1 7,cl 40 50 39,dK 41 40] (bb 41 (ag [bh 42 (.build [.slice 7 .nil []] []),bF 1 2 42,bK 3 false] .ret) .skip)) (ag [bO 43 1 7,bF 1 2 43,bK 3 true] .ret))))))))
@[simp] def yl:List ca:=[.cell 2 true 1,.tmp 3]
def IX:C:=(ag [fm 1 0,c7 (.alloc 2 none (.agg [.slice 7 .nil []])),bK 3 false] (.seq (ag [bO 6 1 1,cl 7 50 6,dK 8 7] (bb 8 (ag [bh 9 (.build [.slice 7 .nil []] []),bF 1 2 9,bK 3 false] .ret) .skip)) (ag [bO 11 1 1,cl 12 43 11,cl 13 38 12,aa 10 13,dZ 14 0 10,dZ 15 1 10,c7 (.alloc 4 none (.agg [.slice 7 .nil []])),bF 1 4 14,aa 5 15] (ag [bO 16 1 4,aa 17 5,bF 1 2 16,aa 3 17] .ret))))
@[simp] def ML:List ca:=[.cell 2 true 1,.tmp 3]
def Pk:C:=(ag [fm 1 0,bh 2 (.mov (.c (.str [])))] (.seq (ag [bO 8 1 1,cl 9 50 8,dK 10 9] (bb 10 (ag [bh 2 (.mov (.c (.str [])))] .ret) .skip)) (ag [bh 3 (.mov (.c (.str [])))] (.seq (ag [a6 11 0 1 1,a8 12 1 11,cT 13 12,bU 14 0] (k0 15 14 13 (.seq (.block 1 (ag [cP 16 7 12 14,bO 17 7 16,c7 (.alloc 5 none (.agg [.str [],.int .i64 0,.int .i64 0,.int .i64 0,.str [],.slice 4 .nil [],.slice 4 .nil []])),bF 7 5 17] (ag [a6 18 0 1 5,a8 19 1 18,gU 20 1 9 [.t 19],aa 6 20] (.seq (ag [bU 7 0] (.block 2 (.loop (.seq (ag [aa 21 7,a6 22 1 1 5,a8 23 1 22,cj 24 .lss 21 23] (bb 24 .skip (.exit 2))) (.seq (.block 3 (.region [aa 27 6,aa 28 7,cl 29 86 28,cl 30 85 29,gU 31 1 9 [.t 30],kZ 32 1 9 27 31,aa 6 32])) (.region [aa 25 7,a7 26 .add 25 1,aa 7 26])))))) (.drawn true 46 [aa 33 3,bh 34 (.bin .add false (.t 33) (.c (.str [40,100,101,102,105,110,101,32,40]))),aa 35 6,⟨none,.call (some 36) (.c (.func 87 [])) [.t 35,(.c (.str [32]))]⟩,cj 37 .add 34 36,bh 38 (.bin .add false (.t 37) (.c (.str [41,32]))),lG 39 3 4 5,bO 40 4 39,cl 41 65 40,cj 42 .add 38 41,bh 43 (.bin .add false (.t 42) (.c (.str [41,10]))),aa 3 43]))))) (.region [a7 44 .add 14 1,aa 14 44])))) (ag [aa 45 3,aa 2 45] .ret)))))
@[simp] def ail:List ca:=[.tmp 2]
def I4:C:=(ag [aa 228 16,aa 229 16,bh 230 (.mkf 1000084 [.t 229]),eb 231 114 228 230,aa 227 231,dZ 232 0 227,dZ 233 1 227,c7 (.alloc 19 none (.agg [.int .i64 0,.str [],.slice 4 .nil [],.slice 4 .nil []])),bF 4 19 232,aa 20 233] (.seq (ag [aa 234 20,dK 235 234,aa 236 235,b4 236 false 237 16,⟨(some (236,false)),.call (some 238) (.c (.func 177 [])) [.t 237,(.c (.str [41]))]⟩,aO 236 false (dK 239 238),dA 240 236 239] (bb 240 (ag [bh 241 (.build [.str [],.int .i64 0,.int .i64 0,.int .i64 0,.str [],.slice 4 .nil [],.slice 4 .nil []] []),bF 7 2 241,bK 3 false] .ret) .skip)) (ag [aa 242 9,bh 243 (.mlen (.t 242)),a6 244 1 1 4,a8 245 1 244,cj 246 .sub 243 245,a6 247 2 1 4,bF 1 247 246] (ag [bO 248 4 19,lG 249 3 4 4,bF 4 249 248] (ag [aa 250 0,aa 251 16,hD 252 251,a6 253 1 1 252,a8 254 1 253,hD 255 250,a6 256 1 1 255,bF 1 256 254] (ag [bO 257 7 4,bF 7 2 257,bK 3 true] .ret))))))
def I3:C:=(.seq (.pub 10 (.fg false 10 (.region [aa 196 10,aa 197 5,bh 198 (.build [.slice 1 .nil [],.int .i64 0] [(0,1,(.t 196)),(1,1,(.t 197))]),c7 (.box 199 (some 872) (.t 198)),aa 16 199]))) (.seq (.block 6 (.loop (.seq (ag [aa 200 16,⟨none,.call (some 201) (.c (.func 177 [])) [.t 200,(.c (.str [41]))]⟩,dK 202 201] (bb 202 .skip (.exit 6))) (.block 7 (ag [aa 204 16,cl 205 84 204,aa 203 205,dZ 206 0 203,dZ 207 1 203,hv 17 dd,bF 4 17 206,aa 18 207] (.seq (ag [aa 208 18,dK 209 208,aa 210 209,aO 210 false (a6 211 0 1 17),aO 210 false (a8 212 1 211),aO 210 false (a7 213 .neq 212 1),dA 214 210 213,aa 215 214,aO 215 false (a6 216 1 1 17),aO 215 false (a8 217 1 216),aO 215 false (a6 218 1 1 4),aO 215 false (a8 219 1 218),aO 215 false (cj 220 .neq 217 219),dA 221 215 220] (bb 221 (ag [bh 222 (.build [.str [],.int .i64 0,.int .i64 0,.int .i64 0,.str [],.slice 4 .nil [],.slice 4 .nil []] []),bF 7 2 222,bK 3 false] .ret) .skip)) (.region [a6 223 1 1 4,a8 224 1 223,a7 225 .add 224 1,a6 226 1 1 4,bF 1 226 225]))))))) I4))
def Fw:C:=(.seq (ag [aa 130 5,aa 11 130] (.block 4 (.loop (.seq (ag [aa 131 11,aa 132 8,cj 133 .lss 131 132] (bb 133 .skip (.exit 4))) (.seq (.block 5 (.seq (ag [aa 136 10,aa 137 11,cP 138 1 136 137,a8 139 1 138,bh 140 (.sidx (.t 139) (de 0)),bh 141 (.bin .neq false (.t 140) (.c (.int .u8 63)))] (bb 141 (.exit 5) .skip)) (ag [aa 143 10,aa 144 11,cP 145 1 143 144,a8 146 1 145,bh 147 (.ssl (.t 146) (some (de 1)) none),cl 148 179 147,aa 142 148,dZ 149 0 142,dZ 150 1 142,aa 12 149,aa 13 150] (.seq (ag [aa 151 10,aa 152 11,cP 153 1 151 152,a8 154 1 153,bh 155 (.ssl (.t 154) (some (de 1)) none),cl 156 170 155,dK 157 156,aa 158 157,b4 158 true 159 13,aO 158 true (dK 160 159),b4 158 true 161 160,b4 161 false 162 12,aO 161 false (a7 163 .lss 162 0),aO 158 true (dA 164 161 163),b4 158 true 165 164,b4 165 false 166 12,aO 165 false (a7 167 .gtr 166 100000),aO 158 true (dA 168 165 167),fx 169 158 168] (bb 169 (ag [bh 170 (.build [.str [],.int .i64 0,.int .i64 0,.int .i64 0,.str [],.slice 4 .nil [],.slice 4 .nil []] []),bF 7 2 170,bK 3 false] .ret) .skip)) (ag [aa 172 9,aa 173 10,aa 174 11,cP 175 1 173 174,a8 176 1 175,bh 177 (.mget .s (.int .i64 0) true (.t 172) (.t 176)),aa 171 177,dZ 178 0 171,dZ 179 1 171,aa 14 178,aa 15 179] (.seq (ag [aa 180 15,dK 181 180] (bb 181 (ag [aa 182 9,bh 183 (.mlen (.t 182)),aa 14 183] (.region [aa 184 9,aa 185 10,aa 186 11,cP 187 1 185 186,a8 188 1 187,aa 189 14,c7 (.mput .s (.t 184) (.t 188) (.t 189))])) .skip)) (.region [aa 190 10,aa 191 11,aa 192 14,cl 193 63 192,bh 194 (.bin .add false (.c (.str [63])) (.t 193)),cP 195 1 190 191,c7 (.storeE 1 (.t 195) (.t 194))]))))))) (.region [aa 134 11,a7 135 .add 134 1,aa 11 135])))))) I3)
def Fv:C:=(ag [aa 87 7,aa 8 87] (ag [bU 6 0] (.seq (.block 2 (.loop (.seq (ag [aa 88 8,aa 89 0,hD 90 89,a6 91 0 1 90,a8 92 1 91,cT 93 92,cj 94 .lss 88 93,aa 95 94,b4 95 true 96 6,aO 95 true (a7 97 .geq 96 0),fx 98 95 97] (bb 98 .skip (.exit 2))) (.block 3 (.seq (ag [aa 99 0,hD 100 99,a6 101 0 1 100,a8 102 1 101,aa 103 8,cP 104 1 102 103,a8 105 1 104,bh 106 (.bin .eql false (.t 105) (.c (.str [40])))] (bb 106 (.region [aa 107 6,a7 108 .add 107 1,aa 6 108]) .skip)) (.seq (ag [aa 109 0,hD 110 109,a6 111 0 1 110,a8 112 1 111,aa 113 8,cP 114 1 112 113,a8 115 1 114,bh 116 (.bin .eql false (.t 115) (.c (.str [41])))] (bb 116 (.region [aa 117 6,a7 118 .sub 117 1,aa 6 118]) .skip)) (.region [aa 119 8,a7 120 .add 119 1,aa 8 120]))))))) (ag [c7 (.mkmap 121 none),aa 9 121] (ag [c7 (.bslm 122 (some 873) 1 9 []),aa 123 0,hD 124 123,a6 125 0 1 124,a8 126 1 125,aa 127 8,bh 128 (.lsl 1 (.t 126) none (some (.t 127))),c7 (.appm 129 none 1 9 (.t 122) (.t 128)),aa 10 129] Fw)))))
def I2:C:=(ag [aa 53 5,aa 7 53] (.seq (.block 0 (.loop (.seq (ag [aa 54 7,aa 55 0,hD 56 55,a6 57 0 1 56,a8 58 1 57,cT 59 58,cj 60 .lss 54 59,aa 61 60,b4 61 true 62 6,aO 61 true (a7 63 .geq 62 0),fx 64 61 63] (bb 64 .skip (.exit 0))) (.block 1 (.seq (ag [aa 65 0,hD 66 65,a6 67 0 1 66,a8 68 1 67,aa 69 7,cP 70 1 68 69,a8 71 1 70,bh 72 (.bin .eql false (.t 71) (.c (.str [40])))] (bb 72 (.region [aa 73 6,a7 74 .add 73 1,aa 6 74]) .skip)) (.seq (ag [aa 75 0,hD 76 75,a6 77 0 1 76,a8 78 1 77,aa 79 7,cP 80 1 78 79,a8 81 1 80,bh 82 (.bin .eql false (.t 81) (.c (.str [41])))] (bb 82 (.region [aa 83 6,a7 84 .sub 83 1,aa 6 84]) .skip)) (.region [aa 85 7,a7 86 .add 85 1,aa 7 86]))))))) Fv))
def Av:C:=(ag [c7 (.alloc 2 none (.agg [.str [],.int .i64 0,.int .i64 0,.int .i64 0,.str [],.slice 4 .nil [],.slice 4 .nil []])),bK 3 false] (.seq (ag [aa 21 0,⟨none,.call (some 22) (.c (.func 177 [])) [.t 21,(.c (.str [40]))]⟩,dK 23 22,aa 24 23,b4 24 false 25 0,⟨(some (24,false)),.call (some 26) (.c (.func 177 [])) [.t 25,(.c (.str [100,101,102,105,110,101]))]⟩,aO 24 false (dK 27 26),dA 28 24 27,aa 29 28,b4 29 false 30 0,⟨(some (29,false)),.call (some 31) (.c (.func 177 [])) [.t 30,(.c (.str [40]))]⟩,aO 29 false (dK 32 31),dA 33 29 32,aa 34 33,b4 34 false 35 0,aO 34 false (cl 36 83 35),dA 37 34 36] (bb 37 (ag [bh 38 (.build [.str [],.int .i64 0,.int .i64 0,.int .i64 0,.str [],.slice 4 .nil [],.slice 4 .nil []] []),bF 7 2 38,bK 3 false] .ret) .skip)) (ag [aa 39 0,cl 40 178 39,bh 41 (.build [.str [],.int .i64 0,.int .i64 0,.int .i64 0,.str [],.slice 4 .nil [],.slice 4 .nil []] [(0,1,(.t 40))]),c7 (.alloc 4 none (.agg [.str [],.int .i64 0,.int .i64 0,.int .i64 0,.str [],.slice 4 .nil [],.slice 4 .nil []])),bF 7 4 41] (ag [aa 42 0,hD 43 42,a6 44 1 1 43,a8 45 1 44,a7 46 .add 45 1,hD 47 42,a6 48 1 1 47,bF 1 48 46] (ag [aa 49 0,hD 50 49,a6 51 1 1 50,a8 52 1 51,aa 5 52] (ag [bU 6 0] I2))))))
@[simp] def ait:List ca:=[.cell 2 true 7,.tmp 3]
def E5:List (Nat×dh):=[
 (3,⟨1,8,.int .i64,.int .i64 0⟩),
 (9,⟨1,16,.str,.str []⟩),
 (40,⟨4,56,.struct [(0,3),(1,3),(2,9),(3,38)],.agg [.int .i64 0,.int .i64 0,.str [],.slice 4 .nil []]⟩),
 (59,⟨1,24,.slice 86,.slice 7 .nil []⟩),
 (61,⟨1,24,.struct [(0,59)],.agg [.slice 7 .nil []]⟩),
 (65,⟨4,72,.struct [(0,3),(1,9),(2,38),(3,63)],.agg [.int .i64 0,.str [],.slice 4 .nil [],.slice 4 .nil []]⟩),
 (70,⟨1,24,.slice 9,.slice 1 .nil []⟩),
 (86,⟨7,104,.struct [(0,9),(1,3),(2,3),(3,65)],.agg [.str [],.int .i64 0,.int .i64 0,.int .i64 0,.str [],.slice 4 .nil [],.slice 4 .nil []]⟩),
 (131,⟨2,32,.struct [(0,70),(1,3)],.agg [.slice 1 .nil [],.int .i64 0]⟩),
 (213,⟨1,8,.map 9 3,.junk⟩)]
theorem vw:eW aF E5=true:=by kernel_rfl
theorem Va:cJ E5 IY yl 1 Tryz.f38=true:=by kernel_rfl
theorem Rb:aF.funcs[(38:Nat)]? =some Tryz.f38:=Tryz.func38
theorem U9:cJ E5 IX ML 1 Tryz.f42=true:=by kernel_rfl
theorem Ra:aF.funcs[(42:Nat)]? =some Tryz.f42:=Tryz.func42
theorem ag5:cJ E5 Pk ail 1 Tryz.f43=true:=by kernel_rfl
theorem abr:aF.funcs[(43:Nat)]? =some Tryz.f43:=Tryz.func43
theorem Ek:cJ E5 Av ait 1 Tryz.f110=true:=by kernel_rfl
theorem CZ:aF.funcs[(110:Nat)]? =some Tryz.f110:=Tryz.func110
def _root_.Go.Pv.Ix.e(x:Ix):ae:= .agg [.int .i64 x.op,.int .i64 x.a,.int .i64 x.b,.int .i64 x.g.kind,.str x.g.name,.slice 4 .no (x.g.ts.map enc),.slice 4 .no (x.g.gs.map Gm.e)]
@[simp]theorem apB(x:Ix):eV x.e=true:=rfl
@[simp]theorem amA(x:Ix):cells x.e=[.int .i64 x.op,.int .i64 x.a,.int .i64 x.b,.int .i64 x.g.kind,.str x.g.name,.slice 4 .no (x.g.ts.map enc),.slice 4 .no (x.g.gs.map Gm.e)]:=rfl
@[simp]theorem alT(x:Ix):ae.agg [.int .i64 x.op,.int .i64 x.a,.int .i64 x.b,.int .i64 x.g.kind,.str x.g.name,.slice 4 .no (x.g.ts.map enc),.slice 4 .no (x.g.gs.map Gm.e)]=x.e:=rfl
@[simp]theorem ane(off:Nat)(fi:Bool)(sz:Nat)(x:Ix):s3 off fi sz x.e=if fi then some (off+sz<=7,.agg (([.int .i64 x.op,.int .i64 x.a,.int .i64 x.b,.int .i64 x.g.kind,.str x.g.name,.slice 4 .no (x.g.ts.map enc),.slice 4 .no (x.g.gs.map Gm.e)].drop off).take sz))else(([.int .i64 x.op,.int .i64 x.a,.int .i64 x.b,.int .i64 x.g.kind,.str x.g.name,.slice 4 .no (x.g.ts.map enc),.slice 4 .no (x.g.gs.map Gm.e)]:List ae)[off]?).map fun p=>(True,p):=rfl
@[simp]theorem am3(off:Nat)(fi:Bool)(sz:Nat)(x:Ix):pf off fi sz (.eptr x.e)=if fi then some (off+sz<=7,.eptr (.agg (([.int .i64 x.op,.int .i64 x.a,.int .i64 x.b,.int .i64 x.g.kind,.str x.g.name,.slice 4 .no (x.g.ts.map enc),.slice 4 .no (x.g.gs.map Gm.e)].drop off).take sz)))else(([.int .i64 x.op,.int .i64 x.a,.int .i64 x.b,.int .i64 x.g.kind,.str x.g.name,.slice 4 .no (x.g.ts.map enc),.slice 4 .no (x.g.gs.map Gm.e)]:List ae)[off]?).map fun p=>(eV p=true/\cells p=[p],.eptr p):=rfl
def _root_.Go.Pv.Ey.e(x:Ey):ae:= .agg [.str x.name,.int .i64 x.pos,.int .i64 x.ar,.int .i64 x.vars]
@[simp]theorem apu(x:Ey):eV x.e=true:=rfl
@[simp]theorem amt(x:Ey):cells x.e=[.str x.name,.int .i64 x.pos,.int .i64 x.ar,.int .i64 x.vars]:=rfl
@[simp]theorem alR(x:Ey):ae.agg [.str x.name,.int .i64 x.pos,.int .i64 x.ar,.int .i64 x.vars]=x.e:=rfl
@[simp]theorem anc(off:Nat)(fi:Bool)(sz:Nat)(x:Ey):s3 off fi sz x.e=if fi then some (off+sz<=4,.agg (([.str x.name,.int .i64 x.pos,.int .i64 x.ar,.int .i64 x.vars].drop off).take sz))else(([.str x.name,.int .i64 x.pos,.int .i64 x.ar,.int .i64 x.vars]:List ae)[off]?).map fun p=>(True,p):=rfl
@[simp]theorem am1(off:Nat)(fi:Bool)(sz:Nat)(x:Ey):pf off fi sz (.eptr x.e)=if fi then some (off+sz<=4,.eptr (.agg (([.str x.name,.int .i64 x.pos,.int .i64 x.ar,.int .i64 x.vars].drop off).take sz)))else(([.str x.name,.int .i64 x.pos,.int .i64 x.ar,.int .i64 x.vars]:List ae)[off]?).map fun p=>(eV p=true/\cells p=[p],.eptr p):=rfl
def _root_.Go.Pv.Cd.e(c:Cd):ae:= .agg [.slice 7 .no (c.is.map Ix.e),.slice 4 .no (c.es.map Ey.e)]
@[simp]theorem apn(c:Cd):eV c.e=true:=rfl
@[simp]theorem amq(c:Cd):cells c.e=[.slice 7 .no (c.is.map Ix.e),.slice 4 .no (c.es.map Ey.e)]:=rfl
@[simp]theorem alO(c:Cd):ae.agg [.slice 7 .no (c.is.map Ix.e),.slice 4 .no (c.es.map Ey.e)]=c.e:=rfl
@[simp]theorem anb(off:Nat)(fi:Bool)(sz:Nat)(c:Cd):s3 off fi sz c.e=if fi then some (off+sz<=2,.agg (([.slice 7 .no (c.is.map Ix.e),.slice 4 .no (c.es.map Ey.e)].drop off).take sz))else(([.slice 7 .no (c.is.map Ix.e),.slice 4 .no (c.es.map Ey.e)]:List ae)[off]?).map fun p=>(True,p):=rfl
@[simp]theorem amZ(off:Nat)(fi:Bool)(sz:Nat)(c:Cd):pf off fi sz (.eptr c.e)=if fi then some (off+sz<=2,.eptr (.agg (([.slice 7 .no (c.is.map Ix.e),.slice 4 .no (c.es.map Ey.e)].drop off).take sz)))else(([.slice 7 .no (c.is.map Ix.e),.slice 4 .no (c.es.map Ey.e)]:List ae)[off]?).map fun p=>(eV p=true/\cells p=[p],.eptr p):=rfl
theorem alg{g:Gm}(az:g.shape=true)(vars:Int):su g vars=true↔iI g.vs []=[]\/ ∃u m,iI g.vs []=u++[m]/\m<vars:=by
 rw[Ye];have bL:=Ty g.vs (l:=[]) .nil;have hm:∀v,v∈iI g.vs []↔v∈g.vs:=fun v=>by simp[Tz]
 constructor
 ·intro h;rcases List.eq_nil_or_concat (iI g.vs [])with e|⟨u,m,e⟩
  ·exact .inl e
  ·right;rw[List.concat_eq_append]at e;exact⟨u,m,e,h m ((hm m).1 (by rw[e];simp))⟩
 ·rintro(e|⟨u,m,e,b5⟩) v aN
  ·rw[<-hm,e]at aN;cases aN
  ·rw[<-hm,e]at aN;rw[e]at bL;rcases hl.1 aN with h|h
   ·have:=(List.pairwise_append.1 bL).2.2 v h m Ψ;omega
   ·simp at h;omega
theorem TB{u:List Int}{m:Int}:∀h,(eP (u++[m]))[u.length]'h= .int .i64 m:=fun h=>by simp[eP]
def Jk:C:=(ag [c7 (.alloc 2 none (.agg [.slice 7 .nil []])),bK 3 false] (ag [aa 14 0,cl 15 107 14,aa 13 15,dZ 16 0 13,dZ 17 1 13,aa 4 16,aa 5 17] (.seq (ag [aa 18 5,dK 19 18] (bb 19 (ag [bh 20 (.build [.slice 7 .nil []] []),bF 1 2 20,bK 3 false] .ret) .skip)) (ag [bh 21 (.build [.slice 7 .nil []] []),c7 (.alloc 6 none (.agg [.slice 7 .nil []])),bF 1 6 21] (ag [bU 7 0] (ag [bU 8 0] (.seq (ag [aa 22 4,cT 23 22,bU 24 0] (k0 25 24 23 (.seq (.block 1 (ag [aa 26 24,cP 27 1 22 24,a8 28 1 27,aa 9 26,aa 10 28] (.seq (ag [aa 29 10,bh 30 (.bin .eql false (.t 29) (.c (.str [40])))] (bb 30 (.region [aa 31 8,a7 32 .add 31 1,aa 8 32]) .skip)) (.seq (ag [aa 33 10,bh 34 (.bin .eql false (.t 33) (.c (.str [41])))] (bb 34 (.region [aa 35 8,a7 36 .sub 35 1,aa 8 36]) .skip)) (.seq (ag [aa 37 8,a7 38 .gtr 37 0] (bb 38 (.exit 1) .skip)) (ag [aa 40 4,aa 41 7,aa 42 9,a7 43 .add 42 1,bh 44 (.lsl 1 (.t 40) (some (.t 41)) (some (.t 43))),cl 45 108 44,aa 39 45,dZ 46 0 39,dZ 47 1 39,c7 (.alloc 11 none (.agg [.str [],.int .i64 0,.int .i64 0,.int .i64 0,.str [],.slice 4 .nil [],.slice 4 .nil []])),bF 7 11 46,aa 12 47] (.seq (ag [aa 48 12,dK 49 48] (bb 49 (ag [bh 50 (.build [.slice 7 .nil []] []),bF 1 2 50,bK 3 false] .ret) .skip)) (ag [a6 51 0 1 6,a8 52 1 51,bO 53 7 11,gU 54 7 86 [.t 53],kZ 55 7 86 52 54,a6 56 0 1 6,bF 1 56 55] (.region [aa 57 9,a7 58 .add 57 1,aa 7 58]))))))))) (.region [a7 59 .add 24 1,aa 24 59])))) (.seq (ag [aa 60 8,a7 61 .neq 60 0,aa 62 61,aO 62 false (bO 63 1 6),aO 62 false (cl 64 109 63),aO 62 false (dK 65 64),dA 66 62 65] (bb 66 (ag [bh 67 (.build [.slice 7 .nil []] []),bF 1 2 67,bK 3 false] .ret) .skip)) (ag [bO 68 1 6,bF 1 2 68,bK 3 true] .ret)))))))))
@[simp] def r9:List ca:=[.cell 2 true 1,.tmp 3]
def Jj:C:=(ag [fm 1 0,c7 (.alloc 2 none (.agg [.slice 7 .nil []])),bK 3 false] (.seq (ag [bO 4 1 1,cl 5 109 4,dK 6 5] (bb 6 (ag [bh 7 (.build [.slice 7 .nil []] []),bF 1 2 7,bK 3 false] .ret) .skip)) (ag [bO 8 1 1,cl 9 123 8,cl 10 37 9,dZ 11 0 10,dZ 12 1 10,bF 1 2 11,aa 3 12] .ret)))
@[simp] def aiP:List ca:=[.cell 2 true 1,.tmp 3]
def AB:C:=(ag [c7 (.alloc 2 none (.agg [.str [],.int .i64 0,.int .i64 0,.int .i64 0,.str [],.slice 4 .nil [],.slice 4 .nil []])),bK 3 false] (ag [aa 13 0,cl 14 173 13,aa 12 14,dZ 15 0 12,dZ 16 1 12,dZ 17 2 12,aa 4 15,aa 5 16,aa 6 17] (.seq (ag [aa 18 6,dK 19 18,aa 20 19,b4 20 false 21 4,aO 20 false (cT 22 21),aO 20 false (a7 23 .lss 22 6),dA 24 20 23,aa 25 24,b4 25 false 26 4,aO 25 false (ma 27 1 26 1),aO 25 false (a8 28 1 27),mI 25 false 29 (.bin .neq false (.t 28) (.c (.str [100,101,102,105,110,101]))),dA 30 25 29,aa 31 30,b4 31 false 32 4,aO 31 false (ma 33 1 32 2),aO 31 false (a8 34 1 33),mI 31 false 35 (.bin .neq false (.t 34) (.c (.str [40]))),dA 36 31 35] (bb 36 (ag [bh 37 (.build [.str [],.int .i64 0,.int .i64 0,.int .i64 0,.str [],.slice 4 .nil [],.slice 4 .nil []] []),bF 7 2 37,bK 3 false] .ret) .skip)) (ag [aa 38 4,ma 39 1 38 3,a8 40 1 39,bh 41 (.build [.str [],.int .i64 0,.int .i64 0,.int .i64 0,.str [],.slice 4 .nil [],.slice 4 .nil []] [(0,1,(.t 40))]),c7 (.alloc 7 none (.agg [.str [],.int .i64 0,.int .i64 0,.int .i64 0,.str [],.slice 4 .nil [],.slice 4 .nil []])),bF 7 7 41] (ag [bU 8 4] (.seq (.block 0 (.loop (.seq (.seq (.drawn true 99 [aa 42 8,aa 43 4,cT 44 43,cj 45 .lss 42 44,aa 46 45,b4 46 true 47 4,b4 46 true 48 8,aO 46 true (cP 49 1 47 48),aO 46 true (a8 50 1 49),aO 46 true (a6 51 1 1 7),aO 46 true (a8 52 1 51),aO 46 true (cl 53 57 52),mI 46 true 54 (.bin .add false (.c (.str [63])) (.t 53)),aO 46 true (cj 55 .eql 50 54),fx 56 46 55]) (bb 56 .skip (.exit 0))) (.block 1 (ag [a6 57 1 1 7,a8 58 1 57,a7 59 .add 58 1,a6 60 1 1 7,bF 1 60 59] (.region [aa 61 8,a7 62 .add 61 1,aa 8 62])))))) (.seq (ag [aa 63 8,aa 64 4,cT 65 64,cj 66 .geq 63 65,aa 67 66,b4 67 false 68 4,b4 67 false 69 8,aO 67 false (cP 70 1 68 69),aO 67 false (a8 71 1 70),mI 67 false 72 (.bin .neq false (.t 71) (.c (.str [41]))),dA 73 67 72] (bb 73 (ag [bh 74 (.build [.str [],.int .i64 0,.int .i64 0,.int .i64 0,.str [],.slice 4 .nil [],.slice 4 .nil []] []),bF 7 2 74,bK 3 false] .ret) .skip)) (ag [aa 76 4,aa 77 8,a7 78 .add 77 1,eb 79 154 76 78,aa 75 79,dZ 80 0 75,dZ 81 1 75,dZ 82 2 75,c7 (.alloc 9 none (.agg [.int .i64 0,.str [],.slice 4 .nil [],.slice 4 .nil []])),bF 4 9 80,aa 10 81,aa 11 82] (ag [aa 83 5,a6 84 1 1 7,a8 85 1 84,cj 86 .sub 83 85,a6 87 2 1 7,bF 1 87 86] (ag [bO 88 4 9,lG 89 3 4 7,bF 4 89 88] (ag [bO 90 7 7,aa 91 11,aa 92 91,b4 92 true 93 10,b4 92 true 94 4,aO 92 true (cT 95 94),aO 92 true (a7 96 .sub 95 1),aO 92 true (cj 97 .eql 93 96),fx 98 92 97,bF 7 2 90,aa 3 98] .ret)))))))))))
@[simp] def vi:List ca:=[.cell 2 true 7,.tmp 3]
def Jl:C:=(ag [fm 1 0,bK 2 false] (.seq (ag [a6 5 0 1 1,a8 6 1 5,cT 7 6,a7 8 .gtr 7 8] (bb 8 (ag [bK 2 false] .ret) .skip)) (.seq (ag [a6 9 0 1 1,a8 10 1 9,cT 11 10,bU 12 0] (k0 13 12 11 (.seq (.block 1 (ag [aa 14 12,cP 15 7 10 12,bO 16 7 15,c7 (.alloc 4 none (.agg [.str [],.int .i64 0,.int .i64 0,.int .i64 0,.str [],.slice 4 .nil [],.slice 4 .nil []])),aa 3 14,bF 7 4 16] (ag (bO 17 1 1::a6 18 0 1 4::a8 19 1 18::eb 20 174 17 19::aa 21 3::cj 22 .neq 20 21::aa 23 22::aO 23 false (a6 24 0 1 4)::aO 23 false (a8 25 1 24)::aO 23 false (cl 26 128 25)::aO 23 false (dK 27 26)::dA 28 23 27::aa 29 28::aO 29 false (a6 30 1 1 4)::aO 29 false (a8 31 1 30)::aO 29 false (lq 32 127 [.t 31,(de 0),(de 4)])::aO 29 false (dK 33 32)::dA 34 29 33::aa 35 34::aO 35 false (a6 36 2 1 4)::aO 35 false (a8 37 1 36)::aO 35 false (lq 38 127 [.t 37,(de 0),(de 8)])::aO 35 false (dK 39 38)::dA 40 35 39::aa 41 40::aO 41 false (bO 42 1 1)::aO 41 false (lG 43 3 4 4)::aO 41 false (bO 44 4 43)::aO 41 false (a6 45 1 1 4)::aO 41 false (a8 46 1 45)::aO 41 false (a6 47 2 1 4)::aO 41 false (a8 48 1 47)::aO 41 false (cj 49 .add 46 48)::aO 41 false (lq 50 175 [.t 42,.t 44,.t 49])::aO 41 false (dK 51 50)::dA 52 41 51::aa 53 52::aO 53 false (lG 54 3 4 4)::aO 53 false (bO 55 4 54)::aO 53 false (cl 56 176 55)::aO 53 false (a7 57 .gtr 56 60)::dA 58 53 57::[]) (bb 58 (ag [bK 2 false] .ret) .skip)))) (.region [a7 59 .add 12 1,aa 12 59])))) (ag [bK 2 true] .ret))))
@[simp] def aiQ:List ca:=[.tmp 2]
def PY:C:=(ag [fm 1 0,bh 2 (.mov (.c (.str [])))] (.seq (ag [bO 8 1 1,cl 9 109 8,dK 10 9] (bb 10 (ag [bh 2 (.mov (.c (.str [])))] .ret) .skip)) (ag [bh 3 (.mov (.c (.str [])))] (.seq (ag [a6 11 0 1 1,a8 12 1 11,cT 13 12,bU 14 0] (k0 15 14 13 (.seq (.block 1 (ag [cP 16 7 12 14,bO 17 7 16,c7 (.alloc 5 none (.agg [.str [],.int .i64 0,.int .i64 0,.int .i64 0,.str [],.slice 4 .nil [],.slice 4 .nil []])),bF 7 5 17] (ag [a6 18 0 1 5,a8 19 1 18,aa 6 19] (.seq (ag [bU 7 0] (.block 2 (.loop (.seq (ag [aa 20 7,a6 21 1 1 5,a8 22 1 21,cj 23 .lss 20 22] (bb 23 .skip (.exit 2))) (.seq (.block 3 (.region [aa 26 6,bh 27 (.bin .add false (.t 26) (.c (.str [32,63]))),aa 28 7,cl 29 57 28,cj 30 .add 27 29,aa 6 30])) (.region [aa 24 7,a7 25 .add 24 1,aa 7 25])))))) (.drawn true 46 [aa 31 3,bh 32 (.bin .add false (.t 31) (.c (.str [40,100,101,102,105,110,101,32,40]))),aa 33 6,cj 34 .add 32 33,bh 35 (.bin .add false (.t 34) (.c (.str [41,32]))),lG 36 3 4 5,bO 37 4 36,cl 38 58 37,cj 39 .add 35 38,bh 40 (.bin .add false (.t 39) (.c (.str [41]))),gU 41 1 5 [(.c (.int .u8 10))],bh 42 (.b2s (.t 41)),cj 43 .add 40 42,aa 3 43]))))) (.region [a7 44 .add 14 1,aa 14 44])))) (ag [aa 45 3,aa 2 45] .ret)))))
@[simp] def aiL:List ca:=[.tmp 2]
def Qe:C:=(ag [ng 2 1,bU 3 0,bK 4 false] (ag [gU 12 1 9 [],aa 5 12] (ag [gU 13 1 9 [],aa 6 13] (.seq (ag [aa 14 0,cT 15 14,bU 16 0] (k0 17 16 15 (.seq (.block 1 (ag [cP 18 1 14 16,a8 19 1 18,aa 8 19] (.seq (ag [aa 20 8,bh 21 (.sidx (.t 20) (de 0)),bh 22 (.bin .neq false (.t 21) (.c (.int .u8 63)))] (bb 22 (ag [aa 23 6,aa 24 8,gU 25 1 9 [.t 24],kZ 26 1 9 23 25,aa 6 26] (.exit 1)) .skip)) (ag [aa 28 8,bh 29 (.ssl (.t 28) (some (de 1)) none),cl 30 221 29,aa 27 30,dZ 31 0 27,dZ 32 1 27,aa 9 31,aa 10 32] (.seq (ag [aa 33 8,bh 34 (.ssl (.t 33) (some (de 1)) none),cl 35 188 34,dK 36 35,aa 37 36,b4 37 true 38 10,b4 37 true 39 38,b4 39 true 40 9,aO 39 true (lq 41 127 [.t 40,(de 0),(de 100000)]),aO 37 true (fx 42 39 41),aO 37 true (dK 43 42),fx 44 37 43] (bb 44 (ag [ng 2 1,bU 3 0,bK 4 false] .ret) .skip)) (ag [bU 11 0] (.seq (.block 2 (.loop (.seq (ag [aa 45 11,aa 46 5,cT 47 46,cj 48 .lss 45 47,aa 49 48,b4 49 true 50 5,b4 49 true 51 11,aO 49 true (cP 52 1 50 51),aO 49 true (a8 53 1 52),b4 49 true 54 8,aO 49 true (cj 55 .neq 53 54),fx 56 49 55] (bb 56 .skip (.exit 2))) (.block 3 (.region [aa 57 11,a7 58 .add 57 1,aa 11 58]))))) (.seq (ag [aa 59 11,aa 60 5,cT 61 60,cj 62 .eql 59 61] (bb 62 (.region [aa 63 5,aa 64 8,gU 65 1 9 [.t 64],kZ 66 1 9 63 65,aa 5 66]) .skip)) (.region [aa 67 6,aa 68 11,cl 69 57 68,bh 70 (.bin .add false (.c (.str [63])) (.t 69)),gU 71 1 9 [.t 70],kZ 72 1 9 67 71,aa 6 72]))))))))) (.region [a7 73 .add 16 1,aa 16 73])))) (ag [aa 74 6,aa 75 5,cT 76 75,aa 2 74,aa 3 76,bK 4 true] .ret)))))
@[simp] def ai1:List ca:=[.tmp 2,.tmp 3,.tmp 4]
def Qc:C:=(ag [fm 2 0,bU 4 0] (.seq (ag [a6 7 0 1 2,a8 8 1 7,cT 9 8,bU 10 0] (k0 11 10 9 (.seq (.block 1 (ag [aa 12 10,cP 13 7 8 10,bO 14 7 13,c7 (.alloc 6 none (.agg [.str [],.int .i64 0,.int .i64 0,.int .i64 0,.str [],.slice 4 .nil [],.slice 4 .nil []])),aa 5 12,bF 7 6 14] (ag [a6 15 0 1 6,a8 16 1 15,aa 17 1,cj 18 .eql 16 17] (bb 18 (ag [aa 19 5,aa 4 19] .ret) .skip)))) (.region [a7 20 .add 10 1,aa 10 20])))) (ag [bU 4 (-1)] .ret)))
@[simp] def aiZ:List ca:=[.tmp 4]
def AA:C:=(ag [fm 3 0,fm 4 1,bK 6 false] (.seq (ag [bO 8 4 4,cl 9 155 8,dK 10 9,aa 11 10,aO 11 false (bO 12 1 3),aO 11 false (bO 13 4 4),aO 11 false (eb 14 222 12 13),aO 11 false (dK 15 14),dA 16 11 15] (bb 16 (ag [bK 6 false] .ret) .skip)) (ag [bO 17 4 4,lq 18 89 [.t 17,(.c (.slice 1 .nil []))],aa 7 18] (ag [aa 19 7,cT 20 19,a7 21 .eql 20 0,aa 22 21,b4 22 false 23 7,b4 22 false 24 7,aO 22 false (cT 25 24),aO 22 false (a7 26 .sub 25 1),aO 22 false (cP 27 1 23 26),aO 22 false (a8 28 1 27),b4 22 false 29 2,aO 22 false (cj 30 .lss 28 29),dA 31 22 30,aa 6 31] .ret))))
@[simp] def MV:List ca:=[.tmp 6]
def Ji:C:=(ag [fm 1 0,bU 2 0] (.seq (ag [bO 3 4 1,cl 4 155 3,dK 5 4] (bb 5 (ag [bU 2 0] .ret) .skip)) (ag [bO 6 4 1,lq 7 210 [.t 6,(de 80)],aa 2 7] .ret)))
@[simp] def aiM:List ca:=[.tmp 2]
def Fy:C:=(ag [fm 2 0,fm 3 1,bK 4 false] (.seq (ag [a6 8 0 1 3,a8 9 1 8,a7 10 .eql 9 9] (bb 10 (ag [bO 11 1 2,a6 12 1 1 3,a8 13 1 12,eb 14 174 11 13,aa 5 14] (.seq (.drawn true 41 [aa 15 5,a7 16 .geq 15 0,aa 17 16,aO 17 true (a6 18 0 1 2),aO 17 true (a8 19 1 18),b4 17 true 20 5,aO 17 true (cP 21 7 19 20),aO 17 true (a6 22 1 1 21),aO 17 true (a8 23 1 22),aO 17 true (a6 24 2 1 3),aO 17 true (a8 25 1 24),aO 17 true (cT 26 25),aO 17 true (cj 27 .eql 23 26),fx 28 17 27,aa 4 28]) .ret)) .skip)) (.seq (ag [a6 29 3 1 3,a8 30 1 29,cT 31 30,bU 32 0] (k0 33 32 31 (.seq (.block 1 (ag [cP 34 4 30 32,bO 35 4 34,c7 (.alloc 7 none (.agg [.int .i64 0,.str [],.slice 4 .nil [],.slice 4 .nil []])),bF 4 7 35] (ag [bO 36 1 2,bO 37 4 7,eb 38 222 36 37,dK 39 38] (bb 39 (ag [bK 4 false] .ret) .skip)))) (.region [a7 40 .add 32 1,aa 32 40])))) (ag [bK 4 true] .ret))))
@[simp] def aiY:List ca:=[.tmp 4]
def uk:List (Nat×dh):=[
 (3,⟨1,8,.int .i64,.int .i64 0⟩),
 (5,⟨1,1,.int .u8,.int .u8 0⟩),
 (9,⟨1,16,.str,.str []⟩),
 (35,⟨1,24,.slice 5,.slice 1 .nil []⟩),
 (38,⟨1,24,.slice 40,.slice 4 .nil []⟩),
 (59,⟨1,24,.slice 86,.slice 7 .nil []⟩),
 (61,⟨1,24,.struct [(0,59)],.agg [.slice 7 .nil []]⟩),
 (63,⟨1,24,.slice 65,.slice 4 .nil []⟩),
 (65,⟨4,72,.struct [(0,3),(1,9),(2,38),(3,63)],.agg [.int .i64 0,.str [],.slice 4 .nil [],.slice 4 .nil []]⟩),
 (70,⟨1,24,.slice 9,.slice 1 .nil []⟩),
 (86,⟨7,104,.struct [(0,9),(1,3),(2,3),(3,65)],.agg [.str [],.int .i64 0,.int .i64 0,.int .i64 0,.str [],.slice 4 .nil [],.slice 4 .nil []]⟩),
 (136,⟨1,24,.slice 3,.slice 1 .nil []⟩)]
theorem kX:eW aF uk=true:=by kernel_rfl
theorem Vt:cJ uk Jk r9 1 Tryz.f37=true:=by kernel_rfl
theorem Rw:aF.funcs[(37:Nat)]? =some Tryz.f37:=Tryz.func37
theorem Vs:cJ uk Jj aiP 1 Tryz.f52=true:=by kernel_rfl
theorem Rv:aF.funcs[(52:Nat)]? =some Tryz.f52:=Tryz.func52
theorem Ep:cJ uk AB vi 1 Tryz.f108=true:=by kernel_rfl
theorem C4:aF.funcs[(108:Nat)]? =some Tryz.f108:=Tryz.func108
theorem Vu:cJ uk Jl aiQ 1 Tryz.f109=true:=by kernel_rfl
theorem Rx:aF.funcs[(109:Nat)]? =some Tryz.f109:=Tryz.func109
theorem ahH:cJ uk PY aiL 1 Tryz.f123=true:=by kernel_rfl
theorem ab4:aF.funcs[(123:Nat)]? =some Tryz.f123:=Tryz.func123
theorem ahX:cJ uk Qe ai1 1 Tryz.f173=true:=by kernel_rfl
theorem acm:aF.funcs[(173:Nat)]? =some Tryz.f173:=Tryz.func173
theorem ahV:cJ uk Qc aiZ 2 Tryz.f174=true:=by kernel_rfl
theorem acj:aF.funcs[(174:Nat)]? =some Tryz.f174:=Tryz.func174
theorem Eo:cJ uk AA MV 3 Tryz.f175=true:=by kernel_rfl
theorem C3:aF.funcs[(175:Nat)]? =some Tryz.f175:=Tryz.func175
theorem Vr:cJ uk Ji aiM 1 Tryz.f176=true:=by kernel_rfl
theorem Ru:aF.funcs[(176:Nat)]? =some Tryz.f176:=Tryz.func176
theorem MC:cJ uk Fy aiY 2 Tryz.f222=true:=by kernel_rfl
theorem J5:aF.funcs[(222:Nat)]? =some Tryz.f222:=Tryz.func222
def _root_.Go.Pv.Rl.e(x:Rl):ae:= .agg [.str x.name,.int .i64 x.ar,.int .i64 x.loc,.int .i64 x.body.kind,.str x.body.name,.slice 4 .no (x.body.ts.map enc),.slice 4 .no (x.body.gs.map Gm.e)]
theorem Rl.e_eq(x:Rl):x.e= .agg [.str x.name,.int .i64 x.ar,.int .i64 x.loc,.int .i64 x.body.kind,.str x.body.name,.slice 4 .no (x.body.ts.map enc),.slice 4 .no (x.body.gs.map Gm.e)]:=rfl
@[simp]theorem af3(S:aC->Prop)(x:Rl):kin S x.e=True:=by simp[Rl.e_eq,kin,kinL]
theorem Ui(S:aC->Prop):∀l:List Rl,kinL S (l.map Rl.e)
 |[]=>trivial
 |x::l=>by simp only[fF,kinL,af3,true_and];exact Ui S l
@[simp]theorem af0(S:aC->Prop)(l:List Rl):kinL S (l.map Rl.e)=True:=eq_true (Ui S l)
@[simp]theorem ajT(x:Rl):bD x.e=x.e:=by simp[Rl.e_eq,bD,bC]
@[simp]theorem ajQ:∀l:List Rl,bC (l.map Rl.e)=l.map Rl.e
 |[]=>rfl
 |x::l=>by simp only[fF,bC,ajT,ajQ l]
@[simp]theorem apI(x:Rl):eV x.e=true:=rfl
@[simp]theorem amI(x:Rl):cells x.e=[.str x.name,.int .i64 x.ar,.int .i64 x.loc,.int .i64 x.body.kind,.str x.body.name,.slice 4 .no (x.body.ts.map enc),.slice 4 .no (x.body.gs.map Gm.e)]:=rfl
@[simp]theorem alZ(x:Rl):ae.agg [.str x.name,.int .i64 x.ar,.int .i64 x.loc,.int .i64 x.body.kind,.str x.body.name,.slice 4 .no (x.body.ts.map enc),.slice 4 .no (x.body.gs.map Gm.e)]=x.e:=rfl
@[simp]theorem anf(off:Nat)(fi:Bool)(sz:Nat)(x:Rl):s3 off fi sz x.e=if fi then some (off+sz<=7,.agg (([.str x.name,.int .i64 x.ar,.int .i64 x.loc,.int .i64 x.body.kind,.str x.body.name,.slice 4 .no (x.body.ts.map enc),.slice 4 .no (x.body.gs.map Gm.e)].drop off).take sz))else(([.str x.name,.int .i64 x.ar,.int .i64 x.loc,.int .i64 x.body.kind,.str x.body.name,.slice 4 .no (x.body.ts.map enc),.slice 4 .no (x.body.gs.map Gm.e)]:List ae)[off]?).map fun p=>(True,p):=rfl
@[simp]theorem am5(off:Nat)(fi:Bool)(sz:Nat)(x:Rl):pf off fi sz (.eptr x.e)=if fi then some (off+sz<=7,.eptr (.agg (([.str x.name,.int .i64 x.ar,.int .i64 x.loc,.int .i64 x.body.kind,.str x.body.name,.slice 4 .no (x.body.ts.map enc),.slice 4 .no (x.body.gs.map Gm.e)].drop off).take sz)))else(([.str x.name,.int .i64 x.ar,.int .i64 x.loc,.int .i64 x.body.kind,.str x.body.name,.slice 4 .no (x.body.ts.map enc),.slice 4 .no (x.body.gs.map Gm.e)]:List ae)[off]?).map fun p=>(eV p=true/\cells p=[p],.eptr p):=rfl
@[simp]theorem an5(x:Rl):Pv.isAgg 7 x.e:=⟨_,rfl,rfl⟩
def gI(P:List Rl):ae:= .agg [.slice 7 .no (P.map Rl.e)]
@[simp]theorem aor(S:aC->Prop)(P:List Rl):kin S (gI P)=True:=by simp[gI,kin,kinL]
@[simp]theorem apY(P:List Rl):bD (gI P)=gI P:=by simp[gI,bD,bC]
@[simp]theorem apE(P:List Rl):eV (gI P)=true:=rfl
@[simp]theorem amE(P:List Rl):cells (gI P)=[.slice 7 .no (P.map Rl.e)]:=rfl
@[simp]theorem lN(P:List Rl):ae.agg [.slice 7 .no (P.map Rl.e)]=gI P:=rfl
def oo(P:List Rl)(s:List aj):Int:=match P.findIdx? fun r=>r.name==s with
 |some i=>i
 |none=> -1
theorem M4{P:List Rl}{s:List aj}{k:Nat}{e:Rl}(h:P[k]? =some e)(he:e.name=s)(aM:∀(j:Nat) (f:Rl),j<k->P[j]? =some f->f.name≠s):oo P s=(k:Nat):=by
 have ab:=(fo.1 h).1;have:P.findIdx? (fun e=>e.name==s)=some k:=by
  rw[List.findIdx?_eq_some_iff_getElem];refine⟨ab,?_,fun j ai=>?_⟩
  ·rw[cL ab]at h;cases h;simp[he]
  ·have:=aM j _ ai (cL Ω);simp[this]
 unfold oo;rw[this]
theorem Wn{P:List Rl}{s:List aj}(aM:∀(j:Nat) (f:Rl),P[j]? =some f->f.name≠s):oo P s= -1:=by
 have:P.findIdx? (fun e=>e.name==s)=none:=by rw[List.findIdx?_eq_none_iff];intro x af;obtain⟨j,ai⟩:=List.getElem?_of_mem af;simp[aM j x ai]
 unfold oo;rw[this]
theorem Wm(P:List Rl)(s:List aj):oo P s= -1/\P.find? (fun r=>r.name==s)=none\/ ∃(k:Nat) (r:Rl),oo P s=(k:Nat)/\P[k]? =some r/\P.find? (fun r=>r.name==s)=some r:=by
 cases aK:P.findIdx? fun e=>e.name==s with
 |none=>left;refine⟨by unfold oo;rw[aK],?_⟩;rw[List.findIdx?_eq_none_iff]at aK;exact List.find?_eq_none.2 fun x af=>by simpa using aK x af
 |some i=>
  right;obtain⟨I,J,au⟩:=List.findIdx?_eq_some_iff_getElem.1 aK;refine⟨i,P[i],by unfold oo;rw[aK],cL I,?_⟩;rw[List.find?_eq_some_iff_append];refine⟨J,P.take i,P.drop (i+1),?_,fun a bL=>?_⟩
  ·rw[<-pR I,ry]
  ·obtain⟨j,ai,rfl⟩:=List.mem_iff_getElem.1 bL;rw[pS]at ai;rw[List.getElem_take];simpa using au j Ω
def G2(P:List Rl)(s:List aj)(i:Nat):Prop:= ∀(k:Nat) (e:Rl),k<i->P[k]? =some e->e.name≠s
theorem X3(P:List Rl)(s:List aj):bW aF 174 [gI P,.str s] (.int .i64 (oo P s)):=by
 generalize bt:oo P s=R;refine bI kX acj ahV fun aG=>?_;unfold Qc;have e5:P.length<=68719476736:=by simp[gI,-lN,gr,gz,gu,aR]at aG;exact aG.1
 clear aG;simp;(with_reducible repeat' first|refine av ?_|simp);refine fA (fun i (_:Unit)=>⟨[(1,.str s),(8,.slice 7 .no (P.map Rl.e)),(9,.int .i64 P.length),(10,.int .i64 i)],[],[],0,[]⟩) P.length (fun i _=>G2 P s i) () (by simp;exact cW) (fun k b ab=>Ω) (fun _ ai _=>?_) (fun i _ aw ai _=>?_)
 ·have:R= -1:=by rw[<-bt];exact Wn fun j f aK=>ai j f (fo.1 aK).1 aK
  subst this;clear ai bt;exact bY
 ·obtain⟨e,he,ad7⟩:=fQ aw;have bZ:aY ((i:Int)+1):=by unfold aY;omega
  by_cases aM:e.name=s
  ·have:R=i:=by rw[<-bt];exact M4 he aM ai
   subst this;clear ai bt;subst aM;exact bY
  ·have hz:(e.name==s)=false:=by simpa using aM
   have jk:G2 P s (i+1):=fun k f ab aK=>by
    rcases mc k i with h|h
    ·exact ai k f h aK
    ·obtain rfl:k=i:=Ω
     rw[he]at aK;cases aK;exact aM
   clear ai bt;exact tZ
theorem Qo(P:List Rl)(g:Gm):g.cf P=if g.kind=9 then(match P.find? fun r=>r.name==g.name with|some r=>r.ar==(g.ts.length:Int)|none=>false)else Gm.cfL P g.gs:=by cases g;rfl
theorem Jo(P:List Rl):∀l:List Gm,Gm.cfL P l=l.all fun x=>x.cf P
 |[]=>rfl
 |x::l=>by simp[Gm.cfL,Jo P l]
theorem akS(P:List Rl):∀(n:Nat) (g:Gm),g.sz<=n->bW aF 222 [gI P,g.e] (.bool (g.cf P)):=by
 intro n;induction n with
 |zero=>intro g aS;have:=g.sz_pos;omega
 |succ n aX=>
 intro g aS;rw[Qo];by_cases ec:g.kind=9
 ·rw[if_pos ec];have dp:=X3 P g.name;clear aX;rcases Wm P g.name with⟨I,J⟩|⟨k,r,I,J,au⟩
  ·rw[I]at dp;rw[J];refine bI kX J5 MC fun aG=>?_;unfold Fy;clear aG;exact bY
  ·rw[I]at dp;rw[au];have ab:=(fo.1 J).1;have eT:∀h,(P[k]'h)=r:=fun h=>by rw[cL ab]at J;exact gB J
   refine bI kX J5 MC fun aG=>?_;unfold Fy;clear aG;exact bY
 ·rw[br ec,Jo];have zg:(g.kind==9)=false:=jj.2 ec;generalize bt:(g.gs.all fun x=>x.cf P)=R;refine bI kX J5 MC fun aG=>?_;unfold Fy;have e5:g.gs.length<=68719476736:=by rw[Gm.e_eq]at aG;simp[gr,gz,gu,aR]at aG;omega
  clear aG;simp;(with_reducible repeat' first|refine av ?_|simp[zg]);refine fA (fun i (_:Unit)=>⟨[(2,.ptr (.loc 0) 0),(30,.slice 4 .no (g.gs.map Gm.e)),(31,.int .i64 g.gs.length),(32,.int .i64 i)],[(.loc 0,[.slice 7 .no (P.map Rl.e)])],[],2,[]⟩) g.gs.length (fun i _=> ∀(k:Nat) x,k<i->g.gs[k]? =some x->x.cf P=true) () (by simp;exact cW) (fun k b ab=>Ω) (fun _ ai _=>?_) (fun i _ aw ai _=>?_)
  ·have:R=true:=by rw[<-bt,ji];intro x af;obtain⟨k,ab⟩:=List.getElem?_of_mem af;exact ai k x (fo.1 ab).1 ab
   subst this;clear ai bt aX;exact bY
  ·obtain⟨x,af⟩:∃e,g.gs[i]? =some e:=⟨_,cL aw⟩;have db:∀h,(g.gs[i]'h)=x:=fun h=>by rw[cL aw]at af;exact gB af
   have bZ:aY ((i:Int)+1):=by unfold aY;omega
   have nE:=e1 af;have eY:=aX x (by have:=g.gs_lt nE;omega);clear aX;cases aH:x.cf P
   ·have:R=false:=by rw[<-bt,Bool.eq_false_iff];intro h;have:=ji.1 h x nE;rw[aH]at this;cases this
    subst this;rw[aH]at eY;clear ai bt;have tM:=eY;exact bY
   ·rw[aH]at eY;have jk:∀(k:Nat) y,k<i+1->g.gs[k]? =some y->y.cf P=true:=fun k y ab bG=>by
     rcases mc k i with h|h
     ·exact ai k y h bG
     ·obtain rfl:k=i:=Ω
      rw[af]at bG;cases bG;exact aH
    clear ai bt;have tM:=eY;exact tZ
theorem ak2(g:Gm):bW aF 176 [g.e] (.int .i64 (if g.fits 80 then g.sz else 0)):=by
 have kC:=X7 g;cases aK:g.fits 80
 ·rw[aK]at kC;refine bI kX Ru Vr fun aG=>?_;unfold Ji;clear aG;exact bY
 ·rw[aK]at kC;have kA:=X2 g.sz g (cc _) 80 Ω Ω;rw[(JA g 80 Ω).2 (by simp only[Gm.fits,bJ,fs]at aK;omega)]at kA;rw[if_pos rfl];refine bI kX Ru Vr fun aG=>?_;unfold Ji;clear aG;have tM:=kA;exact bY
theorem akT(P:List Rl)(g:Gm)(n:Int):bW aF 175 [gI P,g.e,.int .i64 n] (.bool (g.fits 80&&g.cf P&&su g n)):=by
 have kC:=X7 g;have kA:=akS P g.sz g (cc _);cases aK:g.fits 80
 ·rw[aK]at kC;simp only[Bool.false_and];refine bI kX C3 Eo fun aG=>?_;unfold AA;clear aG;exact bY
 rw[aK]at kC;simp only[Bool.true_and];cases aH:g.cf P
 ·rw[aH]at kA;simp only[Bool.false_and];refine bI kX C3 Eo fun aG=>?_;unfold AA;clear aG;have tM:=kA;exact bY
 rw[aH]at kA;simp only[Bool.true_and];have az:g.shape=true:=by unfold Gm.fits at aK;rw[bJ]at aK;exact aK.1
 have jJ:bW aF 89 [g.e,.slice 1 .no []] (.slice 1 .no (eP (iI g.vs []))):=akR g.sz g (cc _) az [] ⟨.nil,Ψ⟩;have nD:=alg az n;have hlen:=(qf.ins (l:=[]) ⟨.nil,Ψ⟩ (Gf g.sz g (cc _) az)).len;generalize su g n=R at nD⊢;generalize iI g.vs []=U at jJ nD hlen;rcases List.eq_nil_or_concat U with e|⟨u,m,e⟩
 ·subst e;have aoa:bW aF 89 [g.e,.slice 1 .no []] (.slice 1 .no []):=jJ;have:R=true:=nD.2 (.inl rfl);subst this;clear jJ nD hlen;refine bI kX C3 Eo fun aG=>?_;unfold AA;clear aG;have tM:=kA;exact bY
 ·rw[List.concat_eq_append]at e;subst e;have rW:u.length<=100000:=by rw[gx,List.length_singleton]at hlen;omega
  have Tl:aY ((u.length:Int)+1-1):=by unfold aY;omega
  have b7:((u.length:Int)+1==0)=false:=jj.2 Ω;by_cases hm:m<n
  ·have:R=true:=nD.2 (.inr ⟨u,m,rfl,hm⟩);subst this;clear nD hlen;refine bI kX C3 Eo fun aG=>?_;unfold AA;clear aG;simp;(with_reducible repeat' first|refine av ?_|refine aZ kC ?_|refine a1 kC ?_|refine aZ kA ?_|refine a1 kA ?_|refine aZ jJ ?_|refine a1 jJ ?_|simp[az,Tl,b7,TB,hm]);simp[cn,MV,ba,bg,aT]
  ·have:R=false:=by
    cases h:R with
    |false=>rfl
    |true=>
     rcases nD.1 h with e|⟨eJ,m',e,cu⟩
     ·simp at e
     ·obtain⟨-,aL⟩:=List.append_inj' e rfl;simp at aL;subst aL;exact absurd cu hm
   subst this;clear nD hlen;refine bI kX C3 Eo fun aG=>?_;unfold AA;clear aG;simp;(with_reducible repeat' first|refine av ?_|refine aZ kC ?_|refine a1 kC ?_|refine aZ kA ?_|refine a1 kA ?_|refine aZ jJ ?_|refine a1 jJ ?_|simp[az,Tl,b7,TB,hm]);simp[cn,MV,ba,bg,aT]
def ez:List ae:=[.str [],.int .i64 0,.int .i64 0,.int .i64 0,.str [],.slice 4 .nil [],.slice 4 .nil []]
def ep(name:List aj)(k:Int):List ae:=[.str name,.int .i64 k,.int .i64 0,.int .i64 0,.str [],.slice 4 .nil [],.slice 4 .nil []]
def ix:Rl:=⟨[],0,0,.mk 0 [] [] []⟩
def nI(ns:List (List aj)):List (List aj×ae):=ns.zipIdx.map fun x=>(x.1,.int .i64 x.2)
theorem agJ(ns:List (List aj)):(nI ns).length=ns.length:=by simp[nI]
@[simp]theorem aok(S:aC->Prop)(ns:List (List aj)):kinL S (j1 (nI ns))=True:=by
 have:∀l:List (List aj×Nat),kinL S (l6 (l.map fun x=>(x.1,.int .i64 x.2))):=by
  intro l;induction l with
  |nil=>trivial
  |cons x l aX=>exact⟨trivial,trivial,aX⟩
 exact eq_true ⟨trivial,this _⟩
theorem UQ(ns:List (List aj)):∀(f:aC->aW (List ae)) (m:aC),f m=some (j1 (nI ns))->wK f (.gmap m)=some (True,.int .i64 ns.length):=fun f m h=>by rw[agv f m _ h,agJ]
def Ct(l cR:List (List aj))(f p:Nat)(name:List aj)(k:Int)(ns:List (List aj)):aU:=⟨[(0,.ptr (.obj 871) 0),(2,.ptr (.loc 0) 0),(3,.bool false),(4,.ptr (.loc 1) 0),(9,.gmap (.loc 2)),(16,.ptr (.obj 872) 0),(200,.ptr (.obj 872) 0),(201,.bool true),(202,.bool false)],[(.loc 0,ez),(.loc 1,ep name k),(.loc 2,j1 (nI ns)),(.obj 871,[.slice 1 .no (b6 l),.int .i64 f]),(.obj 872,[.slice 1 .no (b6 cR),.int .i64 p])],[],3,[.obj 871,.obj 872,.obj 873,.obj 872]⟩
def Ar(l cR:List (List aj))(name:List aj)(k:Int)(c:Nat)(r:List (List aj)):aW (Rl×List (List aj)):=match fp eI fI (2*r.length+1) r with
 |some (g,[41]::ey)=>some (⟨name,k,c-k,g⟩,l.drop (cR.length-ey.length))
 |_=>none
theorem NZ{k:Int}(h:0<=k/\k<=100000)(r:List (List aj)):eI ((63::Lib.itoa k)::r)=some (.var k,r):=by have:=akk (t:= .var k) (Yc h) r;simpa[iM]using this
theorem UA(a:List T)(t:T)(h:(fD a t).kind=1):a=[]/\t.kind=1:=by
 cases a with
 |nil=>exact⟨rfl,h⟩
 |cons x a=>simp[fD,T.kind]at h
theorem TO:∀(n:Nat) (l:List (List aj)) (acc:List T) (t:T) (r:List (List aj)),bM eG n l acc=some (t,r)->t.kind≠1
 |0,_,_,_,_,h=>by simp[bM]at h
 |_+1,[],_,_,_,h=>by simp[bM]at h
 |n+1,w::l,acc,t,r,h=>by
  simp only[bM]at h;split at h
  ·cases h;intro ab;have:=(UA _ _ ab).2;simp[T.kind]at this
  ·split at h
   ·split at h
    ·cases h
    ·rename_i b7;split at h
     ·split at h
      ·cases h;intro ab;exact b7 (UA _ _ ab).1
      ·cases h
     ·cases h
   ·split at h
    ·exact TO n _ _ t r h
    ·cases h
theorem akj{w:List aj}{r cZ:List (List aj)}{t:T}(h:eI (w::r)=some (t,cZ))(ab:t.kind=1):w=63::Lib.itoa t.int/\cZ=r/\0<=t.int/\t.int<=100000:=by
 unfold eI at h;rw[show 2*(w::r).length+1=(2*r.length+2)+1 by simp;omega]at h;simp only[rd]at h;by_cases aP:w=[40]
 ·rw[if_pos aP]at h;split at h
  ·rename_i t1 eZ I;split at h
   ·cases h;exact absurd ab (TO _ _ _ _ _ I)
   ·cases h
  ·cases h
 ·rw[br aP]at h;by_cases bA:w=[41]\/w=[46]
  ·rw[if_pos bA]at h;simp at h
  ·rw[br bA]at h;cases bL:eG w with
   |none=>rw[bL]at h;simp at h
   |some t1=>
    rw[bL]at h;simp only[lM]at h;split at h
    ·cases h;unfold eG at bL;split at bL
     ·rename_i s;split at bL
      ·rename_i n aM;split at bL
       ·rename_i hr;cases bL;exact⟨by rw[<-(zO.1 aM).2];rfl,rfl,hr⟩
       ·cases bL
      ·cases bL
     ·split at bL
      ·cases bL;simp[T.kind]at ab
      ·cases aV:gH w with
       |none=>rw[aV]at bL;cases bL
       |some n=>rw[aV]at bL;cases bL;simp[T.kind]at ab
    ·cases h
def IE(l cR:List (List aj))(f:Nat)(name:List aj)(ns:List (List aj)):aU:=⟨[(0,.ptr (.obj 871) 0),(2,.ptr (.loc 0) 0),(3,.bool false),(4,.ptr (.loc 1) 0),(5,.int .i64 f),(8,.int .i64 cR.length),(9,.gmap (.loc 2)),(10,.row 1 (.obj 873) cR.length),(11,.int .i64 cR.length),(131,.int .i64 cR.length),(132,.int .i64 cR.length),(133,.bool false)],[(.loc 0,ez),(.loc 1,ep name 0),(.obj 871,[.slice 1 .no (b6 l),.int .i64 f]),(.loc 2,j1 (nI ns))],[(.obj 873,⟨cR.length,9,1,some (b6 cR)⟩)],3,[.obj 873,.obj 871]⟩
def vF(l cR:List (List aj))(f:Nat)(name:List aj)(ns:List (List aj))(k p:Nat):aU:=⟨[(0,.ptr (.obj 871) 0),(2,.ptr (.loc 0) 0),(3,.bool false),(4,.ptr (.loc 1) 0),(9,.gmap (.loc 2)),(16,.ptr (.obj 872) 0)],[(.loc 0,ez),(.loc 1,ep name k),(.loc 2,j1 (nI ns)),(.obj 871,[.slice 1 .no (b6 l),.int .i64 f]),(.obj 872,[.slice 1 .no (b6 cR),.int .i64 p])],[],3,[.obj 871,.obj 872,.obj 873]⟩
def ra(l cR:List (List aj))(name:List aj)(c:Nat)(x:aW (Int×List (List aj))):aW (Rl×List (List aj)):=match x with
 |some (k,r)=>Ar l cR name k c r
 |none=>none
def oy(l:List (List aj))(f e:Nat)(name:List aj)(row ns:List (List aj))(k:Nat):aU:=⟨[(0,.ptr (.obj 871) 0),(2,.ptr (.loc 0) 0),(3,.bool false),(4,.ptr (.loc 1) 0),(5,.int .i64 f),(8,.int .i64 e),(9,.gmap (.loc 2)),(10,.row 1 (.obj 873) e),(11,.int .i64 ((f+k:Nat):Int))],[(.loc 0,ez),(.loc 1,ep name 0),(.obj 871,[.slice 1 .no (b6 l),.int .i64 f]),(.loc 2,j1 (nI ns))],[(.obj 873,⟨e,9,1,some (b6 row)⟩)],3,[.obj 873,.obj 871]⟩
def BG(l:List (List aj))(f:Nat)(name:List aj)(x:aW (List (List aj)×List (List aj))):aW (Rl×List (List aj)):=match x with
 |some (c6,ms)=>ra l (l.take f++c6) name ms.length (iV 0 c6)
 |none=>none
theorem W1(w:List aj)(ns:List (List aj)):sg w (nI ns)=if w∈ns then some (.int .i64 (ns.idxOf w:Nat))else none:=by
 have:∀(l:List (List aj)) (k:Nat),sg w ((l.zipIdx k).map fun x=>(x.1,ae.int .i64 x.2))=if w∈l then some (.int .i64 ((l.idxOf w+k:Nat):Int))else none:=by
  intro l;induction l with
  |nil=>intro k;rfl
  |cons x l aX=>
   intro k;simp only[List.zipIdx_cons,fF,sg];by_cases h:w=x
   ·subst h;simp
   ·rw[br h,aX];have cu:¬x=w:=fun e=>h e.symm;have af:(x==w)=false:=by simpa using cu
    by_cases hm:w∈l
    ·rw[if_pos hm,if_pos (List.mem_cons_of_mem _ hm),List.idxOf_cons,af];simp only[cond_false,ei,ae.int.injEq,true_and];push_cast;omega
    ·rw[br hm,br (by simp[h,hm])]
 simpa[nI]using this ns 0
theorem ajK:∀(w:List aj) (v:ae) (l:List (List aj×ae)),sg w l=none->qp w v l=l++[(w,v)]:=by
 intro w v l h;have:∀l:List (List aj×ae),sg w l=none->uf w v l=none:=by
  intro l;induction l with
  |nil=>intro _;rfl
  |cons x l aX=>
   obtain⟨y,u⟩:=x;intro h;simp only[sg]at h;split at h
   ·cases h
   ·rename_i b7;simp only[uf,br b7,aX h]
 simp only[qp,this l h]
theorem ajL{w:List aj}{ns:List (List aj)}(h:w∉ns):qp w (.int .i64 ns.length) (nI ns)=nI (ns++[w]):=by rw[ajK _ _ _ (by rw[W1,br h])];simp[nI,List.zipIdx_append]
theorem UM(f:aC->aW (List ae))(m:aC)(w:List aj)(ns:List (List aj))(hm:f m=some (j1 (nI ns))):pD f .s (.int .i64 0) true (.gmap m) (.str w)=some (True,if w∈ns then .tuple [.int .i64 (ns.idxOf w:Nat),.bool true]else .tuple [.int .i64 0,.bool false]):=by
 rw[wI _ _ _ _ true w hm,W1];by_cases h:w∈ns
 ·rw[if_pos h,if_pos h];rfl
 ·rw[br h,br h];rfl
structure Lx (jN:List (List aj)) (x:List (List aj)×List (List aj)):Prop where
 le:x.1.length<=jN.length
 eq:num [] jN=(num x.2 (jN.drop x.1.length)).map fun y=>(x.1++y.1,y.2)
 ns:x.2.length<=x.1.length
 ok:∀w∈x.1,w≠[]/\w.length<=aR
theorem ajk{l jN d:List (List aj)}{f:Nat}{w:List aj}(aK:f<=l.length)(af:jN[d.length]? =some w):(b6 (l.take f++(d++jN.drop d.length)))[f+d.length]? =some (.str w):=by rw[b6,List.getElem?_map,List.getElem?_append_right (by simp;omega),List.getElem?_append_right (by simp;omega)];rw[mb];simp only[pS];rw[show d.length+(f+d.length-min f l.length-d.length)=d.length by omega,af];rfl
end
end Go.Proofs.YtlnndmgfngfeiaaGreatDoor
