/- The closed facts of a card, one theorem each. -/
import Derived.Test.YtlnndmgfngfeiaaGreatDoorProg
import Derived.Shelf.SlSortFuncK.WholeK
import Derived.Shelf.GgSortFunc.Tiny
import Derived.Ground.GgsProg
import Derived.Deep.QuietTactic
import Derived.Lib.OwnBridge
import Derived.ProofKit
import Derived.Carry
import Derived.WalkKit
import Derived.Deep.Slices
import Derived.Lib.LaidTab
import Derived.Stop.LaidErr
import Derived.Lib.ItoaNum
import Derived.Test.YtlnndmgfngfeiaaGreatDoorRows
import Derived.Test.YtlnndmgfngfeiaaGreatDoorTie
import Derived.Test.YtlnndmgfngfeiaaGreatDoorCards
import Derived.LaidMore
import Derived.SevenTiedAt
import Derived.Test.YtlnndmgfngfeiaaGreatDoorZf7
set_option linter.all false
set_option maxHeartbeats 4000000
set_option maxRecDepth 4000
open Bool renaming and_eq_true->bA,false_eq_true->ia
open Go renaming TypeId->eU
open Go.Proofs.Tryz renaming f5->ic,prog->aS
open Go.Proofs.YtlnndmgfngfeiaaGreatDoor.Rows renaming fnExactParseFactRow->hO,fnExactParseFactSpec->nR
open Go.Value renaming int->lM
open List renaming drop_length->ml,getElem?_eq_getElem->eh,getElem?_eq_some_iff->fG,length_cons->lN,length_drop->lp,length_pos_iff->nT,map_cons->gZ,mem_append->ha,mem_cons->gp,mem_map->lO,mem_of_getElem?->gB,take_add_one->lq,take_length->kQ
open Nat renaming eq_or_lt_of_le->jB,le_refl->cE
open Option.some renaming inj->iN
open _root_ renaming ByteArray->ib,False->cw,Option->aV,UInt8->aC,if_neg->be
namespace Go.Proofs.YtlnndmgfngfeiaaGreatDoor
section
open Go Go.Pv
variable {ky:Nat}
def Gs(ky:Nat)(l:List (List aC))(i:Nat)(o:aV (T×List (List aC))):Prop:= ∀κ,FnK aS 84 κ [aJ ky] (ai ky l i) (tp ky l o κ)
theorem J9(l:List (List aC))(aA:l.length<=100000)(hw:∀w∈l,w≠[]/\w.length<=bX)(i:Nat)(aB:i<=l.length):Gs ky l i (eo (l.drop i)):=by
 intro κ;have ao:=br (ky:=ky) l i;have cU:=SY (ky:=ky) l aA hw (2*(l.length-i)+1) i aB (cE _);cases dS:rd fR (2*(l.length-i)+1) (l.drop i)with
 |none=>rw[dS]at cU;rw[show eo (l.drop i)=none by unfold eo;rw[lp,dS]];simp only[ai]at ao;refine FnK.mk mixed rO CT ES Ψ ao.obj rfl fun aQ c7=>?_;unfold zt;clear aQ c7;simp[aJ,ai];refine CallDo.obK (cU _) (br _ _) (by simp only[ai];exact aO) (by simp only[ai];exact aO) (by simp[aG,Pv.look,ai,aJ,eX,kinL,kin]) Ψ ?_;rintro r aj ⟨x,gx,bj,rfl,rfl⟩;refine⟨cc _ _ _ _,?_⟩;simp[bs,ai,aJ];(with_reducible repeat' first|refine aI ?_|simp);refine dL.tm (gx) (.nil) false Ψ (oH bj _) (by simp only[ai];exact aO) ?_;simp[ba,bc,a1,cC,dN,b8,dd,bW,db,tnL,tn,dk,dW,fold,dV,dU,eJ,Pv.look,cV,bz,bC,T.k]
 |some tr=>
  obtain⟨t,rest⟩:=tr;rw[dS]at cU;obtain⟨gg,ot⟩:=yT (qt _ _ _ _ dS).1;have rk:=El cU rfl;have cd:=VU t;rw[show eo (l.drop i)=if t.fit then some (t,rest)else none by unfold eo;rw[lp,dS]];simp only[ai]at ao;by_cases aH:t.fit=true
  ·rw[if_pos aH];rw[aH]at cd;refine FnK.mk mixed rO CT ES Ψ ao.obj rfl fun aQ c7=>?_;unfold zt;clear aQ c7;simp[aJ,ai];refine CallDo.obK (rk _) (br _ _) (by simp only[ai];exact aO) (by simp only[ai];exact aO) (by simp[aG,Pv.look,ai,aJ,eX,kinL,kin]) Ψ ?_;rintro r aj ⟨rfl,rfl⟩;refine⟨cc _ _ _ _,?_⟩;simp[bs,ai,aJ];(with_reducible repeat' first|refine aI ?_|refine bn cd ?_|refine bo cd ?_|simp);refine dL.tm (l.length-rest.length) (t) true Ψ (wT rfl) (by simp only[ai];exact aO) ?_;simp[ba,bc,a1,cC,dN,b8,dd,bW,db,tnL,tn,dk,dW,fold,dV,dU,eJ,Pv.look,cV,bz,bC,T.k]
  ·rw[be aH];rw[Bool.not_eq_true]at aH;rw[aH]at cd;refine FnK.mk mixed rO CT ES Ψ ao.obj rfl fun aQ c7=>?_;unfold zt;clear aQ c7;simp[aJ,ai];refine CallDo.obK (rk _) (br _ _) (by simp only[ai];exact aO) (by simp only[ai];exact aO) (by simp[aG,Pv.look,ai,aJ,eX,kinL,kin]) Ψ ?_;rintro r aj ⟨rfl,rfl⟩;refine⟨cc _ _ _ _,?_⟩;simp[bs,ai,aJ];(with_reducible repeat' first|refine aI ?_|refine bn cd ?_|refine bo cd ?_|simp);refine dL.tm (l.length-rest.length) (.nil) false Ψ (oH Ω _) (by simp only[ai];exact aO) ?_;simp[ba,bc,a1,cC,dN,b8,dd,bW,db,tnL,tn,dk,dW,fold,dV,dU,eJ,Pv.look,cV,bz,bC,T.k]
theorem TM{l:List (List aC)}{i p:Nat}{t:T}{rest:List (List aC)}(h:Gs ky l i (some (t,rest)))(aY:l.length-rest.length=p)(κ:Nat):FnK aS 84 κ [aJ ky] (ai ky l i) fun r aj=>r= .tuple [t.k κ,.bool true]/\aj=ai ky l p:=(h κ).mono fun r aj bj=>by rw[<-aY];exact bj
def _root_.Go.Pv.Gm.k(g:Gm)(κ:Nat):ab:= .agg [.int .i64 g.kind,.str g.name,.slice 4 (.tr (.loc κ) 0) (g.ts.map enc),.slice 4 (.tr (.loc κ) 1) (g.gs.map Gm.e)]
@[simp]theorem XA(g:Gm)(n:Nat):cells (g.k n)=[.int .i64 g.kind,.str g.name,.slice 4 (.tr (.loc n) 0) (g.ts.map enc),.slice 4 (.tr (.loc n) 1) (g.gs.map Gm.e)]:=rfl
@[simp]theorem Z2(g:Gm)(n:Nat):dP (g.k n)=true:=rfl
theorem QC(g:Gm)(n:Nat):bC (g.k n)=g.e:=by rw[Gm.e_eq];simp[Gm.k,bC,bz]
theorem IP:∀l:List (Gm×Nat),dW (dt Gm.k l)
 |[]=>by simp[dt,dW]
 |x::l=>by have:=IP l;unfold dt at this;exact⟨⟨trivial,trivial,nF _,nF _,trivial⟩,this⟩
theorem IQ:∀l:List (Gm×Nat),bz (dt Gm.k l)=(l.map (·.1)).map Gm.e
 |[]=>by simp[dt,bz]
 |x::l=>by have:=IQ l;unfold dt at this;simp[dt,bz,QC,this]
theorem IS:∀(l:List (Gm×Nat)),∀x∈tnL (dt Gm.k l),∃p∈l,x.1= .loc p.2
 |[],x,h=>by simp[dt,tnL]at h
 |p::l,x,h=>by
  have e:tnL (dt Gm.k (p::l))=(.loc p.2,0)::(.loc p.2,1)::tnL (dt Gm.k l):=by simp[dt,tnL,tn,Gm.k]
  rw[e]at h;simp only[gp]at h;rcases h with rfl|rfl|h
  ·exact⟨p,Ψ,rfl⟩
  ·exact⟨p,Ψ,rfl⟩
  ·obtain⟨ma,I,aa⟩:=IS l x h;exact⟨ma,by simp[I],aa⟩
theorem IN:∀{l:List (Gm×Nat)},(l.map (·.2)).Nodup->(tnL (dt Gm.k l)).Nodup
 |[],_=>by simp[dt,tnL]
 |p::l,h=>by
  have e:tnL (dt Gm.k (p::l))=(.loc p.2,0)::(.loc p.2,1)::tnL (dt Gm.k l):=by simp[dt,tnL,tn,Gm.k]
  simp only[gZ,List.nodup_cons]at h;have aR:∀j,(aq.loc p.2,j)∉tnL (dt Gm.k l):=fun j av=>by obtain⟨ma,I,aa⟩:=IS l _ av;simp only[aq.loc.injEq]at aa;exact h.1 (lO.2 ⟨ma,I,aa.symm⟩)
  rw[e,List.nodup_cons,List.nodup_cons];exact⟨by simp[aR 0],aR 1,IN h.2⟩
theorem IM{S:aq->Prop}:∀(l:List (Gm×Nat)),(∀p∈l,S (.loc p.2))->Pv.kinL S (dt Gm.k l)
 |[],_=>by simp[dt,Pv.kinL]
 |x::l,fT=>by have:=IM l fun p aY=>fT p (by simp[aY]);unfold dt at this;have I:=fT x Ψ;simp only[dt,gZ,Pv.kinL];exact⟨by simp[Gm.k,Pv.kin,Pv.kinL,I],this⟩
theorem QB{n m:Nat}{l:List (Gm×Nat)}(aA:ls n l)(hm:n<=m)(o:List aq):Pv.kinL (fun k=> ¬fresh m o k) (dt Gm.k l):=IM l fun p aY aH=>by have I:=aA.lt p aY;have aa:m<=p.2:=aH.1;omega
def sr(ky:Nat)(l:List (List aC))(o:aV (Gm×List (List aC)))(κ:Nat)(r:ab)(aj:cZ):Prop:=match o with
 |some (g,rest)=>r= .tuple [g.k κ,.bool true]/\aj=ai ky l (l.length-rest.length)
 |none=> ∃(g:Gm) (j:Nat),j<=l.length/\r= .tuple [g.k κ,.bool false]/\aj=ai ky l j
theorem o3{l:List (List aC)}{j κ:Nat}(h:j<=l.length)(g:Gm):sr ky l none κ (.tuple [g.k κ,.bool false]) (ai ky l j):=⟨g,j,h,rfl,rfl⟩
theorem vB{l:List (List aC)}{j κ:Nat}{g:Gm}{rest:List (List aC)}(h:l.length-rest.length=j):sr ky l (some (g,rest)) κ (.tuple [g.k κ,.bool true]) (ai ky l j):=⟨rfl,by rw[h]⟩
def tw(ky:Nat)(l:List (List aC))(i:Nat)(o:aV (Gm×List (List aC))):Prop:= ∀κ,FnK aS 114 κ [aJ ky,eX ky] (ai ky l i) (sr ky l o κ)
theorem dL.gm{l:List (List aC)}{i κ:Nat}{o:aV (Gm×List (List aC))}{st:aN}{e:Exit}(j:Nat)(x:Gm)(b:Bool)(iC:e= .ret\/e= .normal)(oi:sr ky l o κ (.tuple [x.k κ,.bool b]) (ai ky l j))(af:∀k cs,Pv.look k (ai ky l j).b=some cs->Pv.look k st.b=some cs)
  (h:match ba st [.cell 4 true 4,.tmp 5]with
   |some (c,aZ)=>c/\(cC st.e (a1 aZ)/\(b8 st.e (a1 aZ)).Nodup/\(bW (a1 aZ)).Nodup)/\fold κ st.e 0 (a1 aZ)= .tuple [x.k κ,.bool b]
   |none=>cw):dL [.cell 4 true 4,.tmp 5] (ai ky l i) κ (sr ky l o κ) e st:=by
 refine dL.ob iC (br l j) rfl (cc _ _ _ _) af ?_;split at h
 ·rename_i c aZ hr;(try rw[hr]);exact⟨h.1,h.2.1,by rw[h.2.2];exact oi⟩
 ·exact h.elim
theorem SX(l:List (List aC))(aA:l.length<=100000){i:Nat}(h:l[i]? =some gX):tw ky l i ((some (.mk 0 [] [] [],l.drop (i+1)))):=by intro κ;have ao:=br (ky:=ky) l i;have aB:=(fG.1 h).1;have cd:=qz (ky:=ky) (show i<=1000000 by omega) h;have aF:=tL h;simp only[ai]at ao;simp only[gX]at cd;refine FnK.mk mixed oJ tP uG Ψ ao.obj rfl fun aQ c7=>?_;unfold r6;clear aQ c7;simp[aJ,ai];refine CallDo.ob (cd) (br _ _) (by simp only[ai];exact aO) (by simp only[ai];exact aO) (by simp[aG,Pv.look,ai,aJ,kinL,kin]) ?_;rintro r aj ⟨rfl,rfl⟩;refine⟨cc _ _ _ _,?_⟩;simp[bs,ai,aJ];(with_reducible repeat' first|refine aI ?_|simp);refine dL.gm (i+1) (.mk 0 [] [] []) true Ψ (vB aF) (by simp only[ai];exact aO) ?_;simp[ba,bc,a1,cC,dN,b8,dd,bW,db,tnL,tn,dk,dW,fold,dV,dU,eJ,Pv.look,cV,bz,bC,Gm.k,Gm.kind,Gm.name,Gm.ts,Gm.gs]
theorem SV(l:List (List aC))(aA:l.length<=100000){i:Nat}(h:l[i]? =some hN):tw ky l i ((some (.mk 1 [] [] [],l.drop (i+1)))):=by intro κ;have ao:=br (ky:=ky) l i;have aB:=(fG.1 h).1;have et:=kg (ky:=ky) (show i<=1000000 by omega) (s:=gX) (l:=l) (i:=i) (by rw[h];decide);have cd:=qz (ky:=ky) (show i<=1000000 by omega) h;have aF:=tL h;simp only[ai]at ao;simp only[gX]at et;simp only[hN]at cd;refine FnK.mk mixed oJ tP uG Ψ ao.obj rfl fun aQ c7=>?_;unfold r6;clear aQ c7;simp[aJ,ai];refine CallDo.ob (et) (br _ _) (by simp only[ai];exact aO) (by simp only[ai];exact aO) (by simp[aG,Pv.look,ai,aJ,kinL,kin]) ?_;rintro r aj ⟨rfl,rfl⟩;refine⟨cc _ _ _ _,?_⟩;simp[bs,ai,aJ];(with_reducible repeat' first|refine aI ?_|simp);refine CallDo.ob (cd) (br _ _) (by simp only[ai];exact aO) (by simp only[ai];exact aO) (by simp[aG,Pv.look,ai,aJ,kinL,kin]) ?_;rintro r aj ⟨rfl,rfl⟩;refine⟨cc _ _ _ _,?_⟩;simp[bs,ai,aJ];(with_reducible repeat' first|refine aI ?_|simp);refine dL.gm (i+1) (.mk 1 [] [] []) true Ψ (vB aF) (by simp only[ai];exact aO) ?_;simp[ba,bc,a1,cC,dN,b8,dd,bW,db,tnL,tn,dk,dW,fold,dV,dU,eJ,Pv.look,cV,bz,bC,Gm.k,Gm.kind,Gm.name,Gm.ts,Gm.gs]
theorem Eb(l:List (List aC))(aA:l.length<=100000){i:Nat}(aB:i<=l.length)(I:l[i]?≠some gX)(aa:l[i]?≠some hN)(ak:l[i]?≠some [40]):tw ky l i (none):=by intro κ;have ao:=br (ky:=ky) l i;have et:=kg (ky:=ky) (show i<=1000000 by omega) I;have cu:=kg (ky:=ky) (show i<=1000000 by omega) aa;have cI:=kg (ky:=ky) (show i<=1000000 by omega) ak;simp only[ai]at ao;simp only[gX]at et;simp only[hN]at cu;refine FnK.mk mixed oJ tP uG Ψ ao.obj rfl fun aQ c7=>?_;unfold r6;clear aQ c7;simp[aJ,ai];refine CallDo.ob (et) (br _ _) (by simp only[ai];exact aO) (by simp only[ai];exact aO) (by simp[aG,Pv.look,ai,aJ,kinL,kin]) ?_;rintro r aj ⟨rfl,rfl⟩;refine⟨cc _ _ _ _,?_⟩;simp[bs,ai,aJ];(with_reducible repeat' first|refine aI ?_|simp);refine CallDo.ob (cu) (br _ _) (by simp only[ai];exact aO) (by simp only[ai];exact aO) (by simp[aG,Pv.look,ai,aJ,kinL,kin]) ?_;rintro r aj ⟨rfl,rfl⟩;refine⟨cc _ _ _ _,?_⟩;simp[bs,ai,aJ];(with_reducible repeat' first|refine aI ?_|simp);refine CallDo.ob (cI) (br _ _) (by simp only[ai];exact aO) (by simp only[ai];exact aO) (by simp[aG,Pv.look,ai,aJ,kinL,kin]) ?_;rintro r aj ⟨rfl,rfl⟩;refine⟨cc _ _ _ _,?_⟩;simp[bs,ai,aJ];(with_reducible repeat' first|refine aI ?_|simp);refine dL.gm (i) (.mk 0 [] [] []) false Ψ (o3 aB _) (by simp only[ai];exact aO) ?_;simp[ba,bc,a1,cC,dN,b8,dd,bW,db,tnL,tn,dk,dW,fold,dV,dU,eJ,Pv.look,cV,bz,bC,Gm.k,Gm.kind,Gm.name,Gm.ts,Gm.gs]
theorem SU(l:List (List aC))(aA:l.length<=100000){i:Nat}(h:l[i]? =some [40])(he:i+1=l.length):tw ky l i (none):=by
 intro κ;have dr:cS aS 83 [aJ ky] (ai ky l (i+1)) fun r aj=>r= .bool true/\aj=ai ky l (i+1):=by rw[he];exact CB l
 have ao:=br (ky:=ky) l i;have aB:=(fG.1 h).1;have et:=kg (ky:=ky) (show i<=1000000 by omega) (s:=gX) (l:=l) (i:=i) (by rw[h];decide);have cu:=kg (ky:=ky) (show i<=1000000 by omega) (s:=hN) (l:=l) (i:=i) (by rw[h];decide);have cI:=qz (ky:=ky) (show i<=1000000 by omega) h;simp only[ai]at ao;simp only[gX]at et;simp only[hN]at cu;refine FnK.mk mixed oJ tP uG Ψ ao.obj rfl fun aQ c7=>?_;unfold r6;clear aQ c7;simp[aJ,ai];refine CallDo.ob (et) (br _ _) (by simp only[ai];exact aO) (by simp only[ai];exact aO) (by simp[aG,Pv.look,ai,aJ,kinL,kin]) ?_;rintro r aj ⟨rfl,rfl⟩;refine⟨cc _ _ _ _,?_⟩;simp[bs,ai,aJ];(with_reducible repeat' first|refine aI ?_|simp);refine CallDo.ob (cu) (br _ _) (by simp only[ai];exact aO) (by simp only[ai];exact aO) (by simp[aG,Pv.look,ai,aJ,kinL,kin]) ?_;rintro r aj ⟨rfl,rfl⟩;refine⟨cc _ _ _ _,?_⟩;simp[bs,ai,aJ];(with_reducible repeat' first|refine aI ?_|simp);refine CallDo.ob (cI) (br _ _) (by simp only[ai];exact aO) (by simp only[ai];exact aO) (by simp[aG,Pv.look,ai,aJ,kinL,kin]) ?_;rintro r aj ⟨rfl,rfl⟩;refine⟨cc _ _ _ _,?_⟩;simp[bs,ai,aJ];(with_reducible repeat' first|refine aI ?_|simp);refine CallDo.ob (dr) (br _ _) (by simp only[ai];exact aO) (by simp only[ai];exact aO) (by simp[aG,Pv.look,ai,aJ,kinL,kin]) ?_;rintro r aj ⟨rfl,rfl⟩;refine⟨cc _ _ _ _,?_⟩;simp[bs,ai,aJ];(with_reducible repeat' first|refine aI ?_|simp);refine dL.gm (i+1) (.mk 0 [] [] []) false Ψ (o3 Ω _) (by simp only[ai];exact aO) ?_;simp[ba,bc,a1,cC,dN,b8,dd,bW,db,tnL,tn,dk,dW,fold,dV,dU,eJ,Pv.look,cV,bz,bC,Gm.k,Gm.kind,Gm.name,Gm.ts,Gm.gs]
end
section
open Go Go.Pv
variable {ky:Nat}
def lR(ky:Nat)(l:List (List aC))(k:Int)(s:List aC)(j q:Nat):List (T×Nat)->aN
 |[]=>⟨[(0,.ptr (.obj ky) 0),(1,eX ky),(4,.ptr (.loc 0) 0),(5,.bool false),(10,.ptr (.loc 2) 0)],[(.loc 0,[.int .i64 0,.str [],.slice 4 .nil [],.slice 4 .nil []]),(.obj ky,[.slice 1 .no (dz l),.int .i64 j]),(.loc 2,[.int .i64 k,.str s,.slice 4 .nil [],.slice 4 .nil []])],[],3,[.obj ky]⟩
 |x::xs=>⟨[(0,.ptr (.obj ky) 0),(1,eX ky),(4,.ptr (.loc 0) 0),(5,.bool false),(10,.ptr (.loc 2) 0)],[(.loc 0,[.int .i64 0,.str [],.slice 4 .nil [],.slice 4 .nil []]),(.obj ky,[.slice 1 .no (dz l),.int .i64 j]),(.loc 2,[.int .i64 k,.str s,.slice 4 (.own (.loc 6)) (dt T.k (x::xs)),.slice 4 .nil []])],[(.loc 6,⟨xs.length+1,40,4,none⟩)],q+7,[.obj ky]⟩
theorem SP(l:List (List aC))(aA:l.length<=100000)(hw:∀w∈l,w≠[]/\w.length<=bX){k:Int}{s:List aC}(I:1<k)(dZ:(k==7)=false)(hS:(k==8)=false)(e6:(k==10)=false){R:aV (Gm×List (List aC))}{i0 κ:Nat}(st:aN)(j n:Nat)(av:j<=l.length)(aR:l.length-j+1<=n)(bF:dO eo eA n k s [] [] (l.drop j)=R)(qh:hQ [.obj ky] st (lR ky l k s j 0 [])):
  b3 aS [.obj ky] vf (dL [.cell 4 true 4,.tmp 5] (ai ky l i0) κ (sr ky l R κ)) st:=by
 have mF:jb k=false:=by simp[jb,dZ,hS,e6]
 unfold vf;simp;refine jI (fun x:List (T×Nat)×Nat×Nat×Nat=>lR ky l k s x.2.1 x.2.2.2 x.1) (fun x=>l.length-x.2.1) (fun x=>x.2.1<=l.length/\l.length-x.2.1+1<=x.2.2.1/\dO eo eA x.2.2.1 k s (x.1.map (·.1)) [] (l.drop x.2.1)=R/\x.1.length<=x.2.1/\ls (x.2.2.2+7) x.1) ([],j,n,0) qh ⟨av,aR,bF,Nat.zero_le _,.nil _⟩ ?_;clear qh bF aR av st;rintro⟨acc,j,n,q⟩ ⟨av,aR,bF,h2,fL⟩ _;simp only at av aR bF h2 fL;subst bF;obtain⟨n,rfl⟩:∃m,n=m+1:=⟨n-1,Ω⟩;have pe:j<=1000000:=Ω
 rcases jB av with rfl|eV
 ·have eC:=kg (ky:=ky) (l:=l) (i:=l.length) (s:=[41]) pe Ψ;have ke:=J9 (ky:=ky) l aA hw l.length (cE _);rw[ml]at ke⊢;rw[show eo []=none by simp[eo,rd]]at ke;rw[show dO eo eA (n+1) k s (acc.map (·.1)) [] []=none by simp[dO]];cases acc with
  |nil=>simp[lR];refine CallDo.ob (eC) (br _ _) (by simp only[ai];exact aO) (by simp only[ai];exact aO) (by simp[aG,Pv.look,ai,aJ,kinL,kin]) ?_;rintro r aj ⟨rfl,rfl⟩;refine⟨cc _ _ _ _,?_⟩;simp[bs,ai,aJ];(with_reducible repeat' first|refine aI ?_|simp[dZ,hS,e6,eX,aJ]);refine CallDo.obK (ke _) (br _ _) (by simp only[ai];exact aO) (by simp only[ai];exact aO) (by simp[aG,Pv.look,ai,aJ,eX,kinL,kin]) Ψ ?_;rintro r aj ⟨x,gx,bj,rfl,rfl⟩;refine⟨cc _ _ _ _,?_⟩;simp[bs,ai,aJ];(with_reducible repeat' first|refine aI ?_|simp);refine dL.gm (gx) (.mk 0 [] [] []) false Ψ (o3 bj _) (by simp only[ai];exact aO) ?_;simp[ba,bc,a1,cC,dN,b8,dd,bW,db,tnL,tn,dk,dW,fold,dV,dU,eJ,Pv.look,cV,bz,bC,Gm.k,Gm.kind,Gm.name,Gm.ts,Gm.gs]
  |cons a fo=>simp[lR];refine CallDo.ob (eC) (br _ _) (by simp only[ai];exact aO) (by simp only[ai];exact aO) (by simp[aG,Pv.look,ai,aJ,kinL,kin]) ?_;rintro r aj ⟨rfl,rfl⟩;refine⟨cc _ _ _ _,?_⟩;simp[bs,ai,aJ];(with_reducible repeat' first|refine aI ?_|simp[dZ,hS,e6,eX,aJ]);refine CallDo.obK (ke _) (br _ _) (by simp only[ai];exact aO) (by simp only[ai];exact aO) (by simp[aG,Pv.look,ai,aJ,eX,kinL,kin]) Ψ ?_;rintro r aj ⟨x,gx,bj,rfl,rfl⟩;refine⟨cc _ _ _ _,?_⟩;simp[bs,ai,aJ];(with_reducible repeat' first|refine aI ?_|simp);refine dL.gm (gx) (.mk 0 [] [] []) false Ψ (o3 bj _) (by simp only[ai];exact aO) ?_;simp[ba,bc,a1,cC,dN,b8,dd,bW,db,tnL,tn,dk,dW,fold,dV,dU,eJ,Pv.look,cV,bz,bC,Gm.k,Gm.kind,Gm.name,Gm.ts,Gm.gs]
 obtain⟨v,aL⟩:∃v,l[j]? =some v:=⟨_,eh eV⟩;by_cases gr:v=[41]
 ·subst gr;have eC:=qz (ky:=ky) pe aL;have aF:=tL aL;obtain⟨G,o7⟩:∃G,G=Gm.mk k s ((acc.map (·.1)).map T.tm) []:=⟨_,rfl⟩;rw[fZ aL,show dO eo eA (n+1) k s (acc.map (·.1)) [] ([41]::l.drop (j+1))=some (G,l.drop (j+1)) by simp[dO,I,o7]];cases acc with
  |nil=>simp[lR];refine CallDo.ob (eC) (br _ _) (by simp only[ai];exact aO) (by simp only[ai];exact aO) (by simp[aG,Pv.look,ai,aJ,kinL,kin]) ?_;rintro r aj ⟨rfl,rfl⟩;refine⟨cc _ _ _ _,?_⟩;simp[bs,ai,aJ];(with_reducible repeat' first|refine aI ?_|simp);refine dL.gm (j+1) (G) true Ψ (vB aF) (by simp only[ai];exact aO) ?_;simp[ba,bc,a1,cC,dN,b8,dd,bW,db,fold,dV,dU,eJ,Pv.look,cV,Gm.k,Gm.kind,Gm.name,Gm.ts,Gm.gs,o7,bz]
  |cons a fo=>have um:=sT.nodup fL;simp[lR];refine CallDo.ob (eC) (br _ _) (by simp only[ai];exact aO) (by simp only[ai];exact aO) (by simp[aG,Pv.look,ai,aJ,kinL,kin]) ?_;rintro r aj ⟨rfl,rfl⟩;refine⟨cc _ _ _ _,?_⟩;simp[bs,ai,aJ];(with_reducible repeat' first|refine aI ?_|simp);refine dL.gm (j+1) (G) true Ψ (vB aF) (by simp only[ai];exact aO) ?_;simp[ba,bc,a1,cC,dN,b8,dd,bW,db,fold,dV,dU,eJ,Pv.look,cV,Gm.k,Gm.kind,Gm.name,Gm.ts,Gm.gs,o7,sT.okL,um,sT.stL,qT,bz]
 have eC:=kg (ky:=ky) (l:=l) (i:=j) pe (show l[j]?≠some [41] by rw[aL];simpa using gr);have ke:=J9 (ky:=ky) l aA hw j av;rw[fZ aL]at ke⊢;cases dS:eo (v::l.drop (j+1))with
 |none=>
  rw[dS]at ke;rw[show dO eo eA (n+1) k s (acc.map (·.1)) [] (v::l.drop (j+1))=none by simp[dO,gr,mF,dS]];cases acc with
  |nil=>simp[lR];refine CallDo.ob (eC) (br _ _) (by simp only[ai];exact aO) (by simp only[ai];exact aO) (by simp[aG,Pv.look,ai,aJ,kinL,kin]) ?_;rintro r aj ⟨rfl,rfl⟩;refine⟨cc _ _ _ _,?_⟩;simp[bs,ai,aJ];(with_reducible repeat' first|refine aI ?_|simp[dZ,hS,e6,eX,aJ]);refine CallDo.obK (ke _) (br _ _) (by simp only[ai];exact aO) (by simp only[ai];exact aO) (by simp[aG,Pv.look,ai,aJ,eX,kinL,kin]) Ψ ?_;rintro r aj ⟨x,gx,bj,rfl,rfl⟩;refine⟨cc _ _ _ _,?_⟩;simp[bs,ai,aJ];(with_reducible repeat' first|refine aI ?_|simp);refine dL.gm (gx) (.mk 0 [] [] []) false Ψ (o3 bj _) (by simp only[ai];exact aO) ?_;simp[ba,bc,a1,cC,dN,b8,dd,bW,db,tnL,tn,dk,dW,fold,dV,dU,eJ,Pv.look,cV,bz,bC,Gm.k,Gm.kind,Gm.name,Gm.ts,Gm.gs]
  |cons a fo=>simp[lR];refine CallDo.ob (eC) (br _ _) (by simp only[ai];exact aO) (by simp only[ai];exact aO) (by simp[aG,Pv.look,ai,aJ,kinL,kin]) ?_;rintro r aj ⟨rfl,rfl⟩;refine⟨cc _ _ _ _,?_⟩;simp[bs,ai,aJ];(with_reducible repeat' first|refine aI ?_|simp[dZ,hS,e6,eX,aJ]);refine CallDo.obK (ke _) (br _ _) (by simp only[ai];exact aO) (by simp only[ai];exact aO) (by simp[aG,Pv.look,ai,aJ,eX,kinL,kin]) Ψ ?_;rintro r aj ⟨x,gx,bj,rfl,rfl⟩;refine⟨cc _ _ _ _,?_⟩;simp[bs,ai,aJ];(with_reducible repeat' first|refine aI ?_|simp);refine dL.gm (gx) (.mk 0 [] [] []) false Ψ (o3 bj _) (by simp only[ai];exact aO) ?_;simp[ba,bc,a1,cC,dN,b8,dd,bW,db,tnL,tn,dk,dW,fold,dV,dU,eJ,Pv.look,cV,bz,bC,Gm.k,Gm.kind,Gm.name,Gm.ts,Gm.gs]
 |some tr=>
  obtain⟨t,rest⟩:=tr;rw[dS]at ke;obtain⟨sN,sO⟩:=FP _ _ _ dS;rw[<-fZ aL]at sN sO;obtain⟨gg,ot⟩:=yT sN;obtain⟨p,aY⟩:∃p,p=l.length-rest.length:=⟨_,rfl⟩;rw[<-aY]at gg;have ym:=TM ke aY.symm;have hl:p<=l.length:=Ω
  have JB:j<p:=by simp at sO;omega
  have hg:acc.length+1<=bX:=by unfold bX;omega
  cases acc with
  |nil=>rw[show dO eo eA (n+1) k s (([]:List (T×Nat)).map (·.1)) [] (v::l.drop (j+1))=dO eo eA n k s (([(t,3)]:List (T×Nat)).map (·.1)) [] rest by simp[dO,gr,mF,dS]];simp[lR];refine CallDo.ob (eC) (br _ _) (by simp only[ai];exact aO) (by simp only[ai];exact aO) (by simp[aG,Pv.look,ai,aJ,kinL,kin]) ?_;rintro r aj ⟨rfl,rfl⟩;refine⟨cc _ _ _ _,?_⟩;simp[bs,ai,aJ];(with_reducible repeat' first|refine aI ?_|simp[dZ,hS,e6,eX,aJ]);refine CallDo.obK (ym _) (br _ _) (by simp only[ai];exact aO) (by simp only[ai];exact aO) (by simp[aG,Pv.look,ai,aJ,eX,kinL,kin]) Ψ ?_;rintro r aj ⟨rfl,rfl⟩;refine⟨cc _ _ _ _,?_⟩;simp[bs,ai,aJ];(with_reducible repeat' first|refine aI ?_|simp[hg]);refine cF.whl ([(t,3)],p,n,0) (by simp;omega) ⟨hl,by simp;omega,by simp[<-gg],by simp;omega,⟨Ψ,Ψ⟩⟩ ?_;simp[lR,dt];exact⟨by simp[fresh,kinL,kin,b1,aG,Pv.look,T.k],eR (by simp[fresh,kinL,kin,b1,aG,Pv.look,T.k]),eS (by simp[fresh,kinL,kin,ef,aG,Pv.look,T.k]),Ψ⟩
  |cons a fo=>simp only[lN]at hg;rw[show dO eo eA (n+1) k s ((a::fo).map (·.1)) [] (v::l.drop (j+1))=dO eo eA n k s ((a::fo++[(t,q+7)]).map (·.1)) [] rest by simp[dO,gr,mF,dS]];have bb:=fL.snoc t (cE (q+7)) (show q+7<q+3+7 by omega);have fK:=sT.kin bb (cE _) [.obj ky];simp[fresh]at fK;simp[lR];refine CallDo.ob (eC) (br _ _) (by simp only[ai];exact aO) (by simp only[ai];exact aO) (by simp[aG,Pv.look,ai,aJ,kinL,kin]) ?_;rintro r aj ⟨rfl,rfl⟩;refine⟨cc _ _ _ _,?_⟩;simp[bs,ai,aJ];(with_reducible repeat' first|refine aI ?_|simp[dZ,hS,e6,eX,aJ]);refine CallDo.obK (ym _) (br _ _) (by simp only[ai];exact aO) (by simp only[ai];exact aO) (by simp[aG,Pv.look,ai,aJ,eX,kinL,kin]) Ψ ?_;rintro r aj ⟨rfl,rfl⟩;refine⟨cc _ _ _ _,?_⟩;simp[bs,ai,aJ];(with_reducible repeat' first|refine aI ?_|simp[hg]);have jP:dt T.k (a::fo)++[.agg [.int .i64 t.kind,.int .i64 t.int,.str t.name,.slice 4 (.tr (.loc (q+7)) 0) (t.args.map T.e)]]=dt T.k (a::(fo++[(t,q+7)])):=(EF T.k (a::fo) t (q+7)).symm;refine cF.whl (a::fo++[(t,q+7)],p,n,q+3) (by simp;omega) ⟨hl,by simp;omega,by simp[<-gg],by simp at h2⊢;omega,bb⟩ ?_;simp[lR];exact⟨by simp[fresh,kinL,kin,b1,aG,Pv.look,jP,fK],eR (by simp[fresh,kinL,kin,b1,aG,Pv.look,jP,fK]),eS (by simp[fresh,kinL,kin,ef,aG,Pv.look,jP,fK]),Ψ⟩
end
section
open Go Go.Pv
variable {ky:Nat}
def nY(ky:Nat)(l:List (List aC))(k:Int)(j q:Nat):List (Gm×Nat)->aN
 |[]=>⟨[(0,.ptr (.obj ky) 0),(1,eX ky),(4,.ptr (.loc 0) 0),(5,.bool false),(10,.ptr (.loc 2) 0)],[(.loc 0,[.int .i64 0,.str [],.slice 4 .nil [],.slice 4 .nil []]),(.obj ky,[.slice 1 .no (dz l),.int .i64 j]),(.loc 2,[.int .i64 k,.str [],.slice 4 .nil [],.slice 4 .nil []])],[],3,[.obj ky]⟩
 |x::xs=>⟨[(0,.ptr (.obj ky) 0),(1,eX ky),(4,.ptr (.loc 0) 0),(5,.bool false),(10,.ptr (.loc 2) 0)],[(.loc 0,[.int .i64 0,.str [],.slice 4 .nil [],.slice 4 .nil []]),(.obj ky,[.slice 1 .no (dz l),.int .i64 j]),(.loc 2,[.int .i64 k,.str [],.slice 4 .nil [],.slice 4 (.own (.loc 6)) (dt Gm.k (x::xs))])],[(.loc 6,⟨xs.length+1,65,4,none⟩)],q+7,[.obj ky]⟩
theorem IW{l:List (List aC)}{i p:Nat}{g:Gm}{rest:List (List aC)}(h:tw ky l i (some (g,rest)))(aY:l.length-rest.length=p)(κ:Nat):FnK aS 114 κ [aJ ky,eX ky] (ai ky l i) fun r aj=>r= .tuple [g.k κ,.bool true]/\aj=ai ky l p:=(h κ).mono fun r aj bj=>by rw[<-aY];exact bj
theorem SO(l:List (List aC))(aA:l.length<=100000){k:Int}(J:jb k=true){i0 i1 κ:Nat}(a8:∀j n:Nat,i1<=j->j<=l.length->2*(l.length-j)+1<=n->tw ky l j (en eo eA n (l.drop j))){R:aV (Gm×List (List aC))}(st:aN)(j n:Nat)(lz:i1<=j)(av:j<=l.length)(aR:2*(l.length-j)+2<=n)(bF:dO eo eA n k [] [] [] (l.drop j)=R)(qh:hQ [.obj ky] st (nY ky l k j 0 [])):
  b3 aS [.obj ky] vf (dL [.cell 4 true 4,.tmp 5] (ai ky l i0) κ (sr ky l R κ)) st:=by
 have I:1<k:=by simp[jb]at J;omega
 have iX:k=7\/k=8\/k=10:=by simp[jb]at J;omega
 unfold vf;simp;refine jI (fun x:List (Gm×Nat)×Nat×Nat×Nat=>nY ky l k x.2.1 x.2.2.2 x.1) (fun x=>l.length-x.2.1) (fun x=>i1<=x.2.1/\x.2.1<=l.length/\2*(l.length-x.2.1)+2<=x.2.2.1/\dO eo eA x.2.2.1 k [] [] (x.1.map (·.1)) (l.drop x.2.1)=R/\x.1.length<=x.2.1/\ls (x.2.2.2+7) x.1) ([],j,n,0) qh ⟨lz,av,aR,bF,Nat.zero_le _,.nil _⟩ ?_;clear qh bF aR av lz st;rintro⟨acc,j,n,q⟩ ⟨lz,av,aR,bF,h2,fL⟩ _;simp only at lz av aR bF h2 fL;subst bF;obtain⟨n,rfl⟩:∃m,n=m+1:=⟨n-1,Ω⟩;have pe:j<=1000000:=Ω
 have ke:=a8 j n lz av Ω;clear a8;rcases jB av with rfl|eV
 ·have eC:=kg (ky:=ky) (l:=l) (i:=l.length) (s:=[41]) pe Ψ;rw[ml]at ke⊢;rw[show en eo eA n []=none by cases n<;>simp[en]]at ke;rw[show dO eo eA (n+1) k [] [] (acc.map (·.1)) []=none by simp[dO]];rcases iX with rfl|rfl|rfl;all_goals cases acc with
  |nil=>simp[nY];refine CallDo.ob (eC) (br _ _) (by simp only[ai];exact aO) (by simp only[ai];exact aO) (by simp[aG,Pv.look,ai,aJ,kinL,kin]) ?_;rintro r aj ⟨rfl,rfl⟩;refine⟨cc _ _ _ _,?_⟩;simp[bs,ai,aJ];(with_reducible repeat' first|refine aI ?_|simp);refine CallDo.obK (ke _) (br _ _) (by simp only[ai];exact aO) (by simp only[ai];exact aO) (by simp[aG,Pv.look,ai,aJ,eX,kinL,kin]) Ψ ?_;rintro r aj ⟨x,gx,bj,rfl,rfl⟩;refine⟨cc _ _ _ _,?_⟩;simp[bs,ai,aJ];(with_reducible repeat' first|refine aI ?_|simp);refine dL.gm (gx) (.mk 0 [] [] []) false Ψ (o3 bj _) (by simp only[ai];exact aO) ?_;simp[ba,bc,a1,cC,dN,b8,dd,bW,db,tnL,tn,dk,dW,fold,dV,dU,eJ,Pv.look,cV,bz,bC,Gm.k,Gm.kind,Gm.name,Gm.ts,Gm.gs]
  |cons a fo=>simp[nY];refine CallDo.ob (eC) (br _ _) (by simp only[ai];exact aO) (by simp only[ai];exact aO) (by simp[aG,Pv.look,ai,aJ,kinL,kin]) ?_;rintro r aj ⟨rfl,rfl⟩;refine⟨cc _ _ _ _,?_⟩;simp[bs,ai,aJ];(with_reducible repeat' first|refine aI ?_|simp);refine CallDo.obK (ke _) (br _ _) (by simp only[ai];exact aO) (by simp only[ai];exact aO) (by simp[aG,Pv.look,ai,aJ,eX,kinL,kin]) Ψ ?_;rintro r aj ⟨x,gx,bj,rfl,rfl⟩;refine⟨cc _ _ _ _,?_⟩;simp[bs,ai,aJ];(with_reducible repeat' first|refine aI ?_|simp);refine dL.gm (gx) (.mk 0 [] [] []) false Ψ (o3 bj _) (by simp only[ai];exact aO) ?_;simp[ba,bc,a1,cC,dN,b8,dd,bW,db,tnL,tn,dk,dW,fold,dV,dU,eJ,Pv.look,cV,bz,bC,Gm.k,Gm.kind,Gm.name,Gm.ts,Gm.gs]
 obtain⟨v,aL⟩:∃v,l[j]? =some v:=⟨_,eh eV⟩;by_cases gr:v=[41]
 ·subst gr;have eC:=qz (ky:=ky) pe aL;have aF:=tL aL;obtain⟨G,o7⟩:∃G,G=Gm.mk k [] [] (acc.map (·.1)):=⟨_,rfl⟩;rw[fZ aL,show dO eo eA (n+1) k [] [] (acc.map (·.1)) ([41]::l.drop (j+1))=some (G,l.drop (j+1)) by simp[dO,I,o7]];cases acc with
  |nil=>simp[nY];refine CallDo.ob (eC) (br _ _) (by simp only[ai];exact aO) (by simp only[ai];exact aO) (by simp[aG,Pv.look,ai,aJ,kinL,kin]) ?_;rintro r aj ⟨rfl,rfl⟩;refine⟨cc _ _ _ _,?_⟩;simp[bs,ai,aJ];(with_reducible repeat' first|refine aI ?_|simp);refine dL.gm (j+1) (G) true Ψ (vB aF) (by simp only[ai];exact aO) ?_;simp[ba,bc,a1,cC,dN,b8,dd,bW,db,fold,dV,dU,eJ,Pv.look,cV,Gm.k,Gm.kind,Gm.name,Gm.ts,Gm.gs,o7,bz]
  |cons a fo=>have um:=IN fL.nd;simp[nY];refine CallDo.ob (eC) (br _ _) (by simp only[ai];exact aO) (by simp only[ai];exact aO) (by simp[aG,Pv.look,ai,aJ,kinL,kin]) ?_;rintro r aj ⟨rfl,rfl⟩;refine⟨cc _ _ _ _,?_⟩;simp[bs,ai,aJ];(with_reducible repeat' first|refine aI ?_|simp);refine dL.gm (j+1) (G) true Ψ (vB aF) (by simp only[ai];exact aO) ?_;simp[ba,bc,a1,cC,dN,b8,dd,bW,db,fold,dV,dU,eJ,Pv.look,cV,Gm.k,Gm.kind,Gm.name,Gm.ts,Gm.gs,o7,IP,um,IQ,bz]
 have eC:=kg (ky:=ky) (l:=l) (i:=j) pe (show l[j]?≠some [41] by rw[aL];simpa using gr);rw[fZ aL]at ke⊢;cases dS:en eo eA n (v::l.drop (j+1))with
 |none=>
  rw[dS]at ke;rw[show dO eo eA (n+1) k [] [] (acc.map (·.1)) (v::l.drop (j+1))=none by simp[dO,gr,J,dS]];clear J;rcases iX with rfl|rfl|rfl;all_goals cases acc with
  |nil=>simp[nY];refine CallDo.ob (eC) (br _ _) (by simp only[ai];exact aO) (by simp only[ai];exact aO) (by simp[aG,Pv.look,ai,aJ,kinL,kin]) ?_;rintro r aj ⟨rfl,rfl⟩;refine⟨cc _ _ _ _,?_⟩;simp[bs,ai,aJ];(with_reducible repeat' first|refine aI ?_|simp);refine CallDo.obK (ke _) (br _ _) (by simp only[ai];exact aO) (by simp only[ai];exact aO) (by simp[aG,Pv.look,ai,aJ,eX,kinL,kin]) Ψ ?_;rintro r aj ⟨x,gx,bj,rfl,rfl⟩;refine⟨cc _ _ _ _,?_⟩;simp[bs,ai,aJ];(with_reducible repeat' first|refine aI ?_|simp);refine dL.gm (gx) (.mk 0 [] [] []) false Ψ (o3 bj _) (by simp only[ai];exact aO) ?_;simp[ba,bc,a1,cC,dN,b8,dd,bW,db,tnL,tn,dk,dW,fold,dV,dU,eJ,Pv.look,cV,bz,bC,Gm.k,Gm.kind,Gm.name,Gm.ts,Gm.gs]
  |cons a fo=>simp[nY];refine CallDo.ob (eC) (br _ _) (by simp only[ai];exact aO) (by simp only[ai];exact aO) (by simp[aG,Pv.look,ai,aJ,kinL,kin]) ?_;rintro r aj ⟨rfl,rfl⟩;refine⟨cc _ _ _ _,?_⟩;simp[bs,ai,aJ];(with_reducible repeat' first|refine aI ?_|simp);refine CallDo.obK (ke _) (br _ _) (by simp only[ai];exact aO) (by simp only[ai];exact aO) (by simp[aG,Pv.look,ai,aJ,eX,kinL,kin]) Ψ ?_;rintro r aj ⟨x,gx,bj,rfl,rfl⟩;refine⟨cc _ _ _ _,?_⟩;simp[bs,ai,aJ];(with_reducible repeat' first|refine aI ?_|simp);refine dL.gm (gx) (.mk 0 [] [] []) false Ψ (o3 bj _) (by simp only[ai];exact aO) ?_;simp[ba,bc,a1,cC,dN,b8,dd,bW,db,tnL,tn,dk,dW,fold,dV,dU,eJ,Pv.look,cV,bz,bC,Gm.k,Gm.kind,Gm.name,Gm.ts,Gm.gs]
 |some tr=>
  obtain⟨g,rest⟩:=tr;rw[dS]at ke;obtain⟨sN,sO⟩:=wE FP _ _ _ _ dS;rw[<-fZ aL]at sN sO;obtain⟨gg,ot⟩:=yT sN;obtain⟨p,aY⟩:∃p,p=l.length-rest.length:=⟨_,rfl⟩;rw[<-aY]at gg;have ym:=IW ke aY.symm;have hl:p<=l.length:=Ω
  have JB:j<p:=by simp at sO;omega
  have hg:acc.length+1<=bX:=by unfold bX;omega
  have fe:∀L,dO eo eA (n+1) k [] [] L (v::l.drop (j+1))=dO eo eA n k [] [] (L++[g]) rest:=fun L=>by simp[dO,gr,J,dS]
  clear J;cases acc with
  |nil=>
   rw[show dO eo eA (n+1) k [] [] (([]:List (Gm×Nat)).map (·.1)) (v::l.drop (j+1))=dO eo eA n k [] [] (([(g,3)]:List (Gm×Nat)).map (·.1)) rest from fe _];clear fe;rcases iX with rfl|rfl|rfl;all_goals
    simp[nY]
    refine CallDo.ob (eC) (br _ _) (by simp only[ai];exact aO) (by simp only[ai];exact aO) (by simp[aG,Pv.look,ai,aJ,kinL,kin]) ?_
    rintro r aj ⟨rfl,rfl⟩
    refine⟨cc _ _ _ _,?_⟩
    simp[bs,ai,aJ]
    (with_reducible repeat' first|refine aI ?_|simp)
    refine CallDo.obK (ym _) (br _ _) (by simp only[ai];exact aO) (by simp only[ai];exact aO) (by simp[aG,Pv.look,ai,aJ,eX,kinL,kin]) Ψ ?_
    rintro r aj ⟨rfl,rfl⟩
    refine⟨cc _ _ _ _,?_⟩
    simp[bs,ai,aJ]
    (with_reducible repeat' first|refine aI ?_|simp[hg])
    refine cF.whl ([(g,3)],p,n,0) (by simp;omega) ⟨by simp;omega,hl,by simp;omega,by simp[<-gg],by simp;omega,⟨Ψ,Ψ⟩⟩ ?_
    simp[nY,dt]
    exact⟨by simp[fresh,kinL,kin,b1,aG,Pv.look,eX,aJ,Gm.k],eR (by simp[fresh,kinL,kin,b1,aG,Pv.look,eX,aJ,Gm.k]),eS (by simp[fresh,kinL,kin,ef,aG,Pv.look,eX,aJ,Gm.k]),Ψ⟩
  |cons a fo=>
   simp only[lN]at hg;rw[show dO eo eA (n+1) k [] [] ((a::fo).map (·.1)) (v::l.drop (j+1))=dO eo eA n k [] [] ((a::fo++[(g,q+7)]).map (·.1)) rest by rw[fe];simp];clear fe;have bb:=fL.snoc g (cE (q+7)) (show q+7<q+3+7 by omega);have fK:=QB bb (cE _) [.obj ky];simp[fresh]at fK;have jP:dt Gm.k (a::fo)++[.agg [.int .i64 g.kind,.str g.name,.slice 4 (.tr (.loc (q+7)) 0) (g.ts.map enc),.slice 4 (.tr (.loc (q+7)) 1) (g.gs.map Gm.e)]]=dt Gm.k (a::(fo++[(g,q+7)])):=(EF Gm.k (a::fo) g (q+7)).symm;rcases iX with rfl|rfl|rfl;all_goals
    simp[nY]
    refine CallDo.ob (eC) (br _ _) (by simp only[ai];exact aO) (by simp only[ai];exact aO) (by simp[aG,Pv.look,ai,aJ,kinL,kin]) ?_
    rintro r aj ⟨rfl,rfl⟩
    refine⟨cc _ _ _ _,?_⟩
    simp[bs,ai,aJ]
    (with_reducible repeat' first|refine aI ?_|simp)
    refine CallDo.obK (ym _) (br _ _) (by simp only[ai];exact aO) (by simp only[ai];exact aO) (by simp[aG,Pv.look,ai,aJ,eX,kinL,kin]) Ψ ?_
    rintro r aj ⟨rfl,rfl⟩
    refine⟨cc _ _ _ _,?_⟩
    simp[bs,ai,aJ]
    (with_reducible repeat' first|refine aI ?_|simp[hg])
    refine cF.whl (a::fo++[(g,q+7)],p,n,q+3) (by simp;omega) ⟨by simp;omega,hl,by simp;omega,by simp[<-gg],by simp at h2⊢;omega,bb⟩ ?_
    simp[nY]
    exact⟨by simp[fresh,kinL,kin,b1,aG,Pv.look,jP,fK,eX,aJ],eR (by simp[fresh,kinL,kin,b1,aG,Pv.look,jP,fK,eX,aJ]),eS (by simp[fresh,kinL,kin,ef,aG,Pv.look,jP,fK,eX,aJ]),Ψ⟩
theorem SS(l:List (List aC))(aA:l.length<=100000)(hw:∀w∈l,w≠[]/\w.length<=bX):∀m i n:Nat,l.length-i<=m->i<=l.length->2*(l.length-i)+1<=n->tw ky l i (en eo eA n (l.drop i)):=by
 intro m;induction m with
 |zero=>
  intro i n hm aB aR;obtain rfl:i=l.length:=Ω
  rw[ml,show en eo eA n []=none by cases n<;>simp[en]];exact Eb l aA (cE _) Ψ Ψ Ψ
 |succ m a8=>
 intro i n hm aB aR;obtain⟨n,rfl⟩:∃m,n=m+1:=⟨n-1,Ω⟩;rcases jB aB with rfl|k4
 ·rw[ml,show en eo eA (n+1) []=none by simp[en]];exact Eb l aA (cE _) Ψ Ψ Ψ
 obtain⟨v,h⟩:∃v,l[i]? =some v:=⟨_,eh k4⟩;rw[fZ h];by_cases iB:v=gX
 ·subst iB;rw[show en eo eA (n+1) (gX::l.drop (i+1))=some (.mk 0 [] [] [],l.drop (i+1)) by simp[en]];exact SX l aA h
 by_cases ez:v=hN
 ·subst ez;rw[show en eo eA (n+1) (hN::l.drop (i+1))=some (.mk 1 [] [] [],l.drop (i+1)) by simp[en,iB]];exact SV l aA h
 by_cases aK:v=[40];rotate_left
 ·rw[show en eo eA (n+1) (v::l.drop (i+1))=none by simp[en,iB,ez,aK]];exact Eb l aA aB (by rw[h];simpa using iB) (by rw[h];simpa using ez) (by rw[h];simpa using aK)
 subst aK;clear iB ez;have Oc:∀r,en eo eA (n+1) ([40]::r)=(match r with
   |[]=>none
   |h::cv=>match eA h with
    |some (k,s)=>dO eo eA n k s [] [] cv
    |none=>none):=fun r=>by
  rcases r with _|⟨h,r⟩
  ·simp[en,gX,hN]
  ·simp[en,gX,hN];split<;>simp_all
 rw[Oc];rcases jB (show i+1<=l.length by omega)with he|Rx
 ·rw[he,ml];exact SU l aA h he
 obtain⟨w,bq⟩:∃w,l[i+1]? =some w:=⟨_,eh Rx⟩;rw[fZ bq];simp only;intro κ;have jc:=Mu w;cases aF:eA w with
 |none=>
  simp only;obtain⟨J,hr⟩:l2 w=none/\iq w=false:=by
   unfold eA at aF;cases J:l2 w with
   |some k=>rw[J]at aF;simp at aF
   |none=>rw[J]at aF;refine⟨rfl,?_⟩;cases hr:iq w with
    |true=>simp[hr]at aF
    |false=>rfl
  rw[hr]at jc;clear a8;have ao:=br (ky:=ky) l i;have aB:=(fG.1 h).1;have et:=kg (ky:=ky) (show i<=1000000 by omega) (s:=gX) (l:=l) (i:=i) (by rw[h];decide);have cu:=kg (ky:=ky) (show i<=1000000 by omega) (s:=hN) (l:=l) (i:=i) (by rw[h];decide);have cI:=qz (ky:=ky) (show i<=1000000 by omega) h;have dr:=od (ky:=ky) (fG.1 bq).1;have mL:=lI (ky:=ky) bq;have cN:bm ((i:Int)+1+1):=by unfold bm;omega
  simp only[ai]at ao;simp only[gX]at et;simp only[hN]at cu;refine FnK.mk mixed oJ tP uG Ψ ao.obj rfl fun aQ c7=>?_;unfold r6;clear aQ c7;simp[aJ,ai];refine CallDo.ob (et) (br _ _) (by simp only[ai];exact aO) (by simp only[ai];exact aO) (by simp[aG,Pv.look,ai,aJ,kinL,kin]) ?_;rintro r aj ⟨rfl,rfl⟩;refine⟨cc _ _ _ _,?_⟩;simp[bs,ai,aJ];(with_reducible repeat' first|refine aI ?_|simp);refine CallDo.ob (cu) (br _ _) (by simp only[ai];exact aO) (by simp only[ai];exact aO) (by simp[aG,Pv.look,ai,aJ,kinL,kin]) ?_;rintro r aj ⟨rfl,rfl⟩;refine⟨cc _ _ _ _,?_⟩;simp[bs,ai,aJ];(with_reducible repeat' first|refine aI ?_|simp);refine CallDo.ob (cI) (br _ _) (by simp only[ai];exact aO) (by simp only[ai];exact aO) (by simp[aG,Pv.look,ai,aJ,kinL,kin]) ?_;rintro r aj ⟨rfl,rfl⟩;refine⟨cc _ _ _ _,?_⟩;simp[bs,ai,aJ];(with_reducible repeat' first|refine aI ?_|simp);refine CallDo.ob (dr) (br _ _) (by simp only[ai];exact aO) (by simp only[ai];exact aO) (by simp[aG,Pv.look,ai,aJ,kinL,kin]) ?_;rintro r aj ⟨rfl,rfl⟩;refine⟨cc _ _ _ _,?_⟩;simp[bs,ai,aJ];(with_reducible repeat' first|refine aI ?_|simp);refine CallDo.ob (mL) (br _ _) (by simp only[ai];exact aO) (by simp only[ai];exact aO) (by simp[aG,Pv.look,ai,aJ,kinL,kin]) ?_;rintro r aj ⟨rfl,rfl⟩;refine⟨cc _ _ _ _,?_⟩;simp[bs,ai,aJ];(with_reducible repeat' first|refine aI ?_|refine bn jc ?_|refine bo jc ?_|simp[cN,Ez,J,-AZ]);refine dL.gm (i+1+1) (.mk 0 [] [] []) false Ψ (o3 Ω _) (by simp only[ai];exact aO) ?_;simp[ba,bc,a1,cC,dN,b8,dd,bW,db,tnL,tn,dk,dW,fold,dV,dU,eJ,Pv.look,cV,bz,bC,Gm.k,Gm.kind,Gm.name,Gm.ts,Gm.gs]
 |some x=>
  obtain⟨k,s⟩:=x;simp only;obtain⟨I,aa,ak⟩:=Re aF;have done:∀st,hQ [.obj ky] st (lR ky l k s (i+2) 0 [])->b3 aS [.obj ky] vf (dL [.cell 4 true 4,.tmp 5] (ai ky l i) κ (sr ky l (dO eo eA n k s [] [] (l.drop (i+1+1))) κ)) st:=by
   intro st fe;cases oq:jb k with
   |false=>obtain⟨dZ,hS,e6⟩:=ak oq;exact SP l aA hw I dZ hS e6 st (i+2) n Ω Ω rfl fe
   |true=>obtain rfl:=aa oq;exact SO l aA oq (i1:=i+2) (fun j n jN gu xV=>a8 j n Ω gu xV) st (i+2) n (cE _) Ω Ω rfl fe
  clear a8 I aa ak;cases J:l2 w with
  |some aX=>
   obtain⟨rfl,rfl⟩:aX=k/\([]:List aC)=s:=by unfold eA at aF;rw[J]at aF;simpa using aF
   have ao:=br (ky:=ky) l i;have aB:=(fG.1 h).1;have et:=kg (ky:=ky) (show i<=1000000 by omega) (s:=gX) (l:=l) (i:=i) (by rw[h];decide);have cu:=kg (ky:=ky) (show i<=1000000 by omega) (s:=hN) (l:=l) (i:=i) (by rw[h];decide);have cI:=qz (ky:=ky) (show i<=1000000 by omega) h;have dr:=od (ky:=ky) (fG.1 bq).1;have mL:=lI (ky:=ky) bq;have cN:bm ((i:Int)+1+1):=by unfold bm;omega
   simp only[ai]at ao;simp only[gX]at et;simp only[hN]at cu;refine FnK.mk mixed oJ tP uG Ψ ao.obj rfl fun aQ c7=>?_;unfold r6;clear aQ c7;simp[aJ,ai];refine CallDo.ob (et) (br _ _) (by simp only[ai];exact aO) (by simp only[ai];exact aO) (by simp[aG,Pv.look,ai,aJ,kinL,kin]) ?_;rintro r aj ⟨rfl,rfl⟩;refine⟨cc _ _ _ _,?_⟩;simp[bs,ai,aJ];(with_reducible repeat' first|refine aI ?_|simp);refine CallDo.ob (cu) (br _ _) (by simp only[ai];exact aO) (by simp only[ai];exact aO) (by simp[aG,Pv.look,ai,aJ,kinL,kin]) ?_;rintro r aj ⟨rfl,rfl⟩;refine⟨cc _ _ _ _,?_⟩;simp[bs,ai,aJ];(with_reducible repeat' first|refine aI ?_|simp);refine CallDo.ob (cI) (br _ _) (by simp only[ai];exact aO) (by simp only[ai];exact aO) (by simp[aG,Pv.look,ai,aJ,kinL,kin]) ?_;rintro r aj ⟨rfl,rfl⟩;refine⟨cc _ _ _ _,?_⟩;simp[bs,ai,aJ];(with_reducible repeat' first|refine aI ?_|simp);refine CallDo.ob (dr) (br _ _) (by simp only[ai];exact aO) (by simp only[ai];exact aO) (by simp[aG,Pv.look,ai,aJ,kinL,kin]) ?_;rintro r aj ⟨rfl,rfl⟩;refine⟨cc _ _ _ _,?_⟩;simp[bs,ai,aJ];(with_reducible repeat' first|refine aI ?_|simp);refine CallDo.ob (mL) (br _ _) (by simp only[ai];exact aO) (by simp only[ai];exact aO) (by simp[aG,Pv.look,ai,aJ,kinL,kin]) ?_;rintro r aj ⟨rfl,rfl⟩;refine⟨cc _ _ _ _,?_⟩;simp[bs,ai,aJ];(with_reducible repeat' first|refine aI ?_|simp[cN,Ez,J,-AZ]);refine done _ ?_;simp[lR,show(i:Int)+2=i+1+1 by omega];exact⟨by simp[fresh,kinL,kin,b1,aG,Pv.look,mS,jW,eX,aJ],eR (by simp[fresh,kinL,kin,b1,aG,Pv.look,mS,jW,eX,aJ]),eS (by simp[fresh,kinL,kin,ef,aG,Pv.look,mS,jW,eX,aJ]),Ψ⟩
  |none=>
   obtain⟨hr,rfl,rfl⟩:iq w=true/\k=9/\s=w:=by
    unfold eA at aF;rw[J]at aF;cases hr:iq w with
    |false=>simp[hr]at aF
    |true=>simp[hr]at aF;exact⟨rfl,aF.1.symm,aF.2.symm⟩
   rw[hr]at jc;have ao:=br (ky:=ky) l i;have aB:=(fG.1 h).1;have et:=kg (ky:=ky) (show i<=1000000 by omega) (s:=gX) (l:=l) (i:=i) (by rw[h];decide);have cu:=kg (ky:=ky) (show i<=1000000 by omega) (s:=hN) (l:=l) (i:=i) (by rw[h];decide);have cI:=qz (ky:=ky) (show i<=1000000 by omega) h;have dr:=od (ky:=ky) (fG.1 bq).1;have mL:=lI (ky:=ky) bq;have cN:bm ((i:Int)+1+1):=by unfold bm;omega
   simp only[ai]at ao;simp only[gX]at et;simp only[hN]at cu;refine FnK.mk mixed oJ tP uG Ψ ao.obj rfl fun aQ c7=>?_;unfold r6;clear aQ c7;simp[aJ,ai];refine CallDo.ob (et) (br _ _) (by simp only[ai];exact aO) (by simp only[ai];exact aO) (by simp[aG,Pv.look,ai,aJ,kinL,kin]) ?_;rintro r aj ⟨rfl,rfl⟩;refine⟨cc _ _ _ _,?_⟩;simp[bs,ai,aJ];(with_reducible repeat' first|refine aI ?_|simp);refine CallDo.ob (cu) (br _ _) (by simp only[ai];exact aO) (by simp only[ai];exact aO) (by simp[aG,Pv.look,ai,aJ,kinL,kin]) ?_;rintro r aj ⟨rfl,rfl⟩;refine⟨cc _ _ _ _,?_⟩;simp[bs,ai,aJ];(with_reducible repeat' first|refine aI ?_|simp);refine CallDo.ob (cI) (br _ _) (by simp only[ai];exact aO) (by simp only[ai];exact aO) (by simp[aG,Pv.look,ai,aJ,kinL,kin]) ?_;rintro r aj ⟨rfl,rfl⟩;refine⟨cc _ _ _ _,?_⟩;simp[bs,ai,aJ];(with_reducible repeat' first|refine aI ?_|simp);refine CallDo.ob (dr) (br _ _) (by simp only[ai];exact aO) (by simp only[ai];exact aO) (by simp[aG,Pv.look,ai,aJ,kinL,kin]) ?_;rintro r aj ⟨rfl,rfl⟩;refine⟨cc _ _ _ _,?_⟩;simp[bs,ai,aJ];(with_reducible repeat' first|refine aI ?_|simp);refine CallDo.ob (mL) (br _ _) (by simp only[ai];exact aO) (by simp only[ai];exact aO) (by simp[aG,Pv.look,ai,aJ,kinL,kin]) ?_;rintro r aj ⟨rfl,rfl⟩;refine⟨cc _ _ _ _,?_⟩;simp[bs,ai,aJ];(with_reducible repeat' first|refine aI ?_|refine bn jc ?_|refine bo jc ?_|simp[cN,Ez,J,-AZ]);refine done _ ?_;simp[lR,show(i:Int)+2=i+1+1 by omega];exact⟨by simp[fresh,kinL,kin,b1,aG,Pv.look,mS,jW,eX,aJ],eR (by simp[fresh,kinL,kin,b1,aG,Pv.look,mS,jW,eX,aJ]),eS (by simp[fresh,kinL,kin,ef,aG,Pv.look,mS,jW,eX,aJ]),Ψ⟩
end
section
open Go Go.Pv
end
section
end
section
open Go Go.Pv
end
end Go.Proofs.YtlnndmgfngfeiaaGreatDoor
namespace Go.Proofs
section
open Go.Shelf
end
section
open Go.Shelf Go.RowKit Go.Lib Go.Sort
def Gt:Type:={x:List Value//x.length=4/\∀v∈x,v.oneCell'=true}
instance:Inhabited Gt:=⟨⟨[.int .i64 0,.int .i64 0,.int .i64 0,.int .i64 0],rfl,by intro v aL;simp at aL;subst aL;rfl⟩⟩
def M2:Type:=Int×Gt
instance:Inhabited M2:=⟨(0,default)⟩
end
end Go.Proofs
namespace Go.Proofs.YtlnndmgfngfeiaaGreatDoor
section
open Go Go.Pv Go.Sort Go.RowKit
end
section
open Go Go.Pv
theorem VV(s:List aC)(ao:s.length<=bX):b5 aS 82 [.str s] (kh (hs s)):=by
 by_cases I:s.length<=100000;rotate_left
 ·have:hs s=none:=by unfold hs;rw[be (fun h=>I h.1)]
  rw[this,kh];have vC:(100000:Int)<s.length:=Ω
  refine bT rN Ib KQ fun aQ=>?_;unfold Cl;simp[vC];simp[ca,wA,ba,bc,a1]
 have vC:¬(100000:Int)<s.length:=Ω
 generalize bF:kh (hs s)=R;have sA:kin (fun _=>cw) R:=by rw[<-bF];unfold kh;split<;>simp[kin,kinL]
 refine bT rN Ib KQ (fun aQ=>?_) (hr:=sA);unfold Cl;clear aQ;simp[vC];refine jI (fun i:Nat=>⟨[(0,.str s),(4,.int .i64 i)],[],[],0,[]⟩) (fun i=>s.length-i) (fun i=>i<=s.length/\∀c∈s.take i,pD c=true) 0 dp ⟨Ω,Ψ⟩ ?_;rintro i ⟨aB,dM⟩ _;rcases jB aB with rfl|bU
 ·rw[kQ]at dM;have jJ:∀c∈s,pD c=true:=dM;simp;refine jI (fun x:List (List aC)×Nat=>⟨[(0,.str s),(5,.slice 1 (.own (.loc 0)) (dz x.1)),(6,.int .i64 x.2)],[],[(.loc 0,⟨x.1.length,9,1,none⟩)],1,[]⟩) (fun x=>s.length-x.2) (fun x=>x.2<=s.length/\x.1++fP (s.drop x.2)=fP s/\x.1.length<=x.2) ([],0) (by simp[dz];exact dp) ⟨Ψ,Ψ,Ψ⟩ ?_;rintro⟨out,i⟩ ⟨aB,hinv,As⟩ _;simp only at aB hinv As;rcases jB aB with rfl|bU
  ·rw[ml,BW,List.append_nil]at hinv;subst hinv;by_cases aR:(fP s).length<=20000
   ·have gS:¬(20000:Int)<(fP s).length:=Ω
    have au:hs s=some (fP s):=by unfold hs;rw[if_pos ⟨I,jJ,aR⟩]
    simp[gS];rw[<-bF,au,kh];simp[ca,wA,ba,bc,a1]
   ·have gS:(20000:Int)<(fP s).length:=Ω
    have au:hs s=none:=by unfold hs;rw[be fun h=>aR h.2.2]
    simp[gS];rw[<-bF,au,kh];simp[ca,wA,ba,bc,a1]
  ·obtain⟨c,az,eG⟩:=hy bU;have cN:bm ((i:Int)+1):=by unfold bm;omega
   have uq:out.length+1<=bX:=by unfold bX;omega
   rw[fZ az,BV]at hinv;by_cases k9:c=32\/c=10
   ·rw[if_pos k9]at hinv;rcases k9 with rfl|rfl;all_goals
     simp[bU,eG,az,cN]
     refine cF.whl (out,i+1) (by simp;omega) ⟨bU,hinv,by simp;omega⟩ dp
   rw[be k9]at hinv;have n32:((c.toNat:Int)==32)=false:=mW (d:=32) fun h=>k9 (.inl h);have n10:((c.toNat:Int)==10)=false:=mW (d:=10) fun h=>k9 (.inr h);by_cases o5:c=59
   ·rw[if_pos o5]at hinv;subst o5;simp[bU,eG,az,cN];refine jI (fun k:Nat=>⟨[(0,.str s),(5,.slice 1 (.own (.loc 0)) (dz out)),(6,.int .i64 k)],[],[(.loc 0,⟨out.length,9,1,none⟩)],1,[]⟩) (fun k=>s.length-k) (fun k=>i<=k/\k<=s.length/\∀c∈(s.drop i).take (k-i),mO c=true) i dp ⟨cE _,aB,Ψ⟩ ?_;rintro k ⟨jn,iW,iX⟩ _;have hF:(∀c,s[k]? =some c->mO c=false)->i<k->k<=s.length/\out++fP (s.drop k)=fP s/\out.length<=k:=by intro he jm;refine⟨iW,?_,Ω⟩;have aF:=(BL jn iW iX he).2;rw[fZ az]at aF;rw[<-hinv,<-aF];rfl
    have jm:(∀c,s[k]? =some c->mO c=false)->i<k:=by
     intro he;rcases Nat.lt_or_ge i k with h|h
     ·exact h
     ·have:k=i:=Ω
      subst this;exact absurd (he 59 az) (by decide)
    rcases jB iW with rfl|iD
    ·have he:∀c,s[s.length]? =some c->mO c=false:=fun c h=>by simp at h
     simp;refine cF.whl (out,s.length) (by simp;omega) (hF he (jm he)) dp
    ·obtain⟨d,aF,hdi⟩:=hy iD;have nq:bm ((k:Int)+1):=by unfold bm;omega
     by_cases e6:d=10
     ·subst e6;have he:∀c,s[k]? =some c->mO c=false:=fun c h=>by rw[aF]at h;cases h;rfl
      simp[iD,hdi,aF];refine cF.whl (out,k) (by have:=jm he;simp;omega) (hF he (jm he)) dp
     ·have aR:((d.toNat:Int) !=10)=true:=uZ (d:=10) e6;simp[iD,hdi,aF,aR,nq];refine cF.whl (k+1) Ω ⟨Ω,iD,fun x ad=>?_⟩ dp;rw[show k+1-i=(k-i)+1 by omega,lq,List.getElem?_drop,show i+(k-i)=k by omega,aF]at ad;rcases ha.1 ad with ad|ad
      ·exact iX x ad
      ·simp at ad;subst ad;simp[mO,e6]
   rw[be o5]at hinv;have ED:((c.toNat:Int)==59)=false:=mW (d:=59) o5;by_cases pn:c=40\/c=41
   ·rw[if_pos pn]at hinv;have Az:(s.take (i+1)).drop i=[c]:=by rw[List.drop_take,fZ az];simp
    have hle:(i:Int)<=i+1:=Ω
    rcases pn with rfl|rfl;all_goals
     simp[bU,eG,az,cN,Az,hle,uq]
     refine⟨Ω,?_⟩
     refine cF.whl (out++[[_]],i+1) (by simp;omega) ⟨bU,(by simpa using hinv),by simp;omega⟩ (by simp[dz];exact⟨by simp[fresh,kinL,kin,b1,aG,Pv.look,dc,dD],eR (by simp[fresh,kinL,kin,b1,aG,Pv.look,dc,dD]),eS (by simp[fresh,kinL,kin,ef,aG,Pv.look,dc,dD]),Ψ⟩)
   rw[be pn]at hinv;have wg:((c.toNat:Int)==40)=false:=mW (d:=40) fun h=>pn (.inl h);have uD:((c.toNat:Int)==41)=false:=mW (d:=41) fun h=>pn (.inr h);have xP:h4 c=true:=(D2 c).2 ⟨k9,o5,pn⟩;simp[bU,eG,az,n32,n10,ED,wg,uD];refine jI (fun k:Nat=>⟨[(0,.str s),(5,.slice 1 (.own (.loc 0)) (dz out)),(6,.int .i64 i),(8,.int .i64 k)],[],[(.loc 0,⟨out.length,9,1,none⟩)],1,[]⟩) (fun k=>s.length-k) (fun k=>i<=k/\k<=s.length/\∀c∈(s.drop i).take (k-i),h4 c=true) i dp ⟨cE _,aB,Ψ⟩ ?_;rintro k ⟨jn,iW,iX⟩ _;have jm:(∀c,s[k]? =some c->h4 c=false)->i<k:=by
    intro he;rcases Nat.lt_or_ge i k with h|h
    ·exact h
    ·have:k=i:=Ω
     subst this;have:=he _ az;rw[xP]at this;cases this
   have hF:(∀c,s[k]? =some c->h4 c=false)->k<=s.length/\(out++[(s.take k).drop i])++fP (s.drop k)=fP s/\(out++[(s.take k).drop i]).length<=k:=by intro he;have Yu:=jm he;refine⟨iW,?_,by simp;omega⟩;obtain⟨au,aF⟩:=BL jn iW iX he;rw[fZ az,List.takeWhile_cons,if_pos xP]at au;rw[fZ az,List.dropWhile_cons,if_pos xP]at aF;rw[au,aF,<-fZ az]at hinv;rw[List.drop_take,List.append_assoc];exact hinv
   have Jv:out.length+1<=bX:=uq;have fK:(i:Int)<=k:=Ω
   have xX:(k:Int)<=s.length:=Ω
   rcases jB iW with rfl|iD
   ·have he:∀c,s[s.length]? =some c->h4 c=false:=fun c h=>by simp at h
    have Ay:=jm he;simp[fK,xX,Jv];refine cF.whl (out++[(s.take s.length).drop i],s.length) (by simp;omega) (hF he) (by simp[dz];exact⟨by simp[fresh,kinL,kin,b1,aG,Pv.look,dc,dD],eR (by simp[fresh,kinL,kin,b1,aG,Pv.look,dc,dD]),eS (by simp[fresh,kinL,kin,ef,aG,Pv.look,dc,dD]),Ψ⟩)
   ·obtain⟨d,aF,hdi⟩:=hy iD;have nq:bm ((k:Int)+1):=by unfold bm;omega
    by_cases hw:h4 d=true
    ·obtain⟨ME,Ws,MF⟩:=(D2 d).1 hw;have m32:((d.toNat:Int) !=32)=true:=uZ (d:=32) fun h=>ME (.inl h);have m10:((d.toNat:Int) !=10)=true:=uZ (d:=10) fun h=>ME (.inr h);have Tc:((d.toNat:Int) !=59)=true:=uZ (d:=59) Ws;have Tb:((d.toNat:Int) !=40)=true:=uZ (d:=40) fun h=>MF (.inl h);have ld:((d.toNat:Int) !=41)=true:=uZ (d:=41) fun h=>MF (.inr h);simp[iD,hdi,aF,m32,m10,Tc,Tb,ld,nq];refine cF.whl (k+1) Ω ⟨Ω,iD,fun x ad=>?_⟩ dp;rw[show k+1-i=(k-i)+1 by omega,lq,List.getElem?_drop,show i+(k-i)=k by omega,aF]at ad;rcases ha.1 ad with ad|ad
     ·exact iX x ad
     ·simp at ad;subst ad;exact hw
    ·rw[Bool.not_eq_true]at hw;have he:∀c,s[k]? =some c->h4 c=false:=fun c h=>by rw[aF]at h;cases h;exact hw
     have fD:d=32\/d=10\/d=40\/d=41\/d=59:=by
      unfold h4 lX at hw;simp at hw;by_cases bt:d=32
      ·exact .inl bt
      by_cases a2:d=10
      ·exact .inr (.inl a2)
      by_cases a3:d=40
      ·exact .inr (.inr (.inl a3))
      by_cases a4:d=41
      ·exact .inr (.inr (.inr (.inl a4)))
      exact .inr (.inr (.inr (.inr (hw bt a2 a3 a4))))
     have di:=hF he;have Ay:=jm he;rcases fD with rfl|rfl|rfl|rfl|rfl;all_goals
      simp[iD,hdi,aF,fK,xX,Jv]
      refine cF.whl (out++[(s.take k).drop i],k) (by simp;omega) di (by simp[dz];exact⟨by simp[fresh,kinL,kin,b1,aG,Pv.look,dc,dD],eR (by simp[fresh,kinL,kin,b1,aG,Pv.look,dc,dD]),eS (by simp[fresh,kinL,kin,ef,aG,Pv.look,dc,dD]),Ψ⟩)
 ·obtain⟨c,az,eG⟩:=hy bU;have cN:bm ((i:Int)+1):=by unfold bm;omega
  have iF:=KM c;by_cases e6:(c.toNat:Int)=10
  ·have lA:((c.toNat:Int) !=10)=false:=by simpa using e6
   simp[bU,eG,az,lA,cN];refine cF.whl (i+1) Ω ⟨bU,fun x ad=>?_⟩ dp;rw[lq,az]at ad;rcases ha.1 ad with ad|ad
   ·exact dM x ad
   ·simp at ad;subst ad;rw[iF];omega
  ·have lA:((c.toNat:Int) !=10)=true:=by simpa using e6
   by_cases xJ:(c.toNat:Int)<32
   ·have xN:pD c=false:=by rw[Bool.eq_false_iff];intro h;rw[iF]at h;omega
    simp[bU,eG,az,lA,xJ,cN];have au:hs s=none:=by unfold hs;rw[be];intro h;have:=h.2.1 c (gB az);rw[xN]at this;cases this
    rw[<-bF,au,kh];simp[ca,wA,ba,bc,a1]
   ·by_cases I0:126<(c.toNat:Int)
    ·have xN:pD c=false:=by rw[Bool.eq_false_iff];intro h;rw[iF]at h;omega
     simp[bU,eG,az,lA,xJ,I0,cN];have au:hs s=none:=by unfold hs;rw[be];intro h;have:=h.2.1 c (gB az);rw[xN]at this;cases this
     rw[<-bF,au,kh];simp[ca,wA,ba,bc,a1]
    ·simp[bU,eG,az,lA,xJ,I0,cN];refine cF.whl (i+1) Ω ⟨bU,fun x ad=>?_⟩ dp;rw[lq,az]at ad;rcases ha.1 ad with ad|ad
     ·exact dM x ad
     ·simp at ad;subst ad;rw[iF];omega
theorem y6:∀(n:Nat) (s:List aC),s.length<=n->∀t∈fP s,t.length<=s.length
 |_,[],_=>by rw[BW];simp
 |0,_::_,h=>by simp at h
 |n+1,c::r,h=>by
  simp only[lN]at h;have aF:(r.dropWhile mO).length<=r.length:=(List.dropWhile_suffix _).length_le;have hw:(r.dropWhile h4).length<=r.length:=(List.dropWhile_suffix _).length_le;have au:(r.takeWhile h4).length<=r.length:=(List.takeWhile_prefix _).length_le;rw[BV];split
  ·intro t au;have:=y6 n r Ω t au;simp;omega
  ·split
   ·intro t au;have:=y6 n _ Ω t au;simp;omega
   ·split
    ·intro t au;simp only[gp]at au;rcases au with rfl|au
     ·simp
     ·have:=y6 n r Ω t au;simp;omega
    ·intro t au;simp only[gp]at au;rcases au with rfl|au
     ·simp;omega
     ·have:=y6 n _ Ω t au;simp;omega
theorem Mj{s:List aC}{l:List (List aC)}(h:hs s=some l):l.length<=20000/\∀w∈l,w≠[]/\w.length<=bX:=by
 unfold hs at h;split at h
 ·rename_i az;cases h;refine⟨az.2.2,fun w hw=>⟨y7 _ s (cE _) w hw,?_⟩⟩;have:=y6 _ s (cE _) w hw;unfold bX;omega
 ·cases h
def p6(o:aV Gm)(κ:Nat):ab:= .tuple [(o.getD j4).k κ,.bool o.isSome]
theorem TK{s:List aC}(ao:s.length<=bX):kR aS 44 [.str s] (p6 (pF s)):=by
 have cd:=VV s ao;unfold pF;cases J:hs s with
 |none=>rw[J]at cd;simp only[kh]at cd;refine kR.mk mixed oJ xy yx Ψ fun aQ κ=>?_;unfold ve;clear aQ;simp;(with_reducible repeat' first|refine aI ?_|refine bn cd ?_|refine bo cd ?_|simp);(refine dL.val Ψ ?_;simp[wz,ba,bc,a1,cC,dN,b8,dd,bW,db,tnL,tn,dk,dW,fold,dV,dU,eJ,Pv.look,cV,bz,bC,p6,Gm.k,j4,Gm.kind,Gm.name,Gm.ts,Gm.gs])
 |some l=>
  rw[J]at cd;simp only[kh]at cd⊢;obtain⟨hG,gM⟩:=Mj J;have jv:=SS (ky:=871) l Ω gM l.length 0 (2*l.length+1) Ω Ω Ω;rw[List.drop_zero]at jv;cases hr:en eo eA (2*l.length+1) l with
  |none=>rw[hr]at jv;refine kR.mk mixed oJ xy yx Ψ fun aQ κ=>?_;unfold ve;clear aQ;simp;(with_reducible repeat' first|refine aI ?_|refine bn cd ?_|refine bo cd ?_|simp);refine CallDo.obK (jv _) (br _ _) (by simp only[ai];exact aO) (by simp only[ai];exact aO) (by simp[aG,Pv.look,ai,aJ,eX,kinL,kin]) Ψ ?_;rintro r aj ⟨x,gx,bj,rfl,rfl⟩;refine⟨cc _ _ _ _,?_⟩;simp[bs,ai,aJ];(with_reducible repeat' first|refine aI ?_|simp);(refine dL.val Ψ ?_;simp[wz,ba,bc,a1,cC,dN,b8,dd,bW,db,tnL,tn,dk,dW,fold,dV,dU,eJ,Pv.look,cV,bz,bC,p6,Gm.k,j4,Gm.kind,Gm.name,Gm.ts,Gm.gs])
  |some x=>
   obtain⟨g,rest⟩:=x;rw[hr]at jv;obtain⟨p,aY⟩:∃p,p=l.length-rest.length:=⟨_,rfl⟩;have Ea:=IW jv aY.symm;have ri:=VS g;have DQ:=wE FP _ _ _ _ hr;cases rest with
   |cons w r=>have dr:cS aS 83 [aJ 871] (ai 871 l p) fun r aj=>r= .bool false/\aj=ai 871 l p:=od (by simp at aY DQ;omega);refine kR.mk mixed oJ xy yx Ψ fun aQ κ=>?_;unfold ve;clear aQ;simp;(with_reducible repeat' first|refine aI ?_|refine bn cd ?_|refine bo cd ?_|simp);refine CallDo.obK (Ea _) (br _ _) (by simp only[ai];exact aO) (by simp only[ai];exact aO) (by simp[aG,Pv.look,ai,aJ,eX,kinL,kin]) Ψ ?_;rintro r aj ⟨rfl,rfl⟩;refine⟨cc _ _ _ _,?_⟩;simp[bs,ai,aJ];(with_reducible repeat' first|refine aI ?_|simp);refine CallDo.ob (dr) (br _ _) (by simp only[ai];exact aO) (by simp only[ai];exact aO) (by simp[aG,Pv.look,ai,aJ,eX,kinL,kin]) ?_;rintro r aj ⟨rfl,rfl⟩;refine⟨cc _ _ _ _,?_⟩;simp[bs,ai,aJ];(with_reducible repeat' first|refine aI ?_|simp);(refine dL.val Ψ ?_;simp[wz,ba,bc,a1,cC,dN,b8,dd,bW,db,tnL,tn,dk,dW,fold,dV,dU,eJ,Pv.look,cV,bz,bC,p6,Gm.k,j4,Gm.kind,Gm.name,Gm.ts,Gm.gs])
   |nil=>
    obtain rfl:p=l.length:=by simpa using aY
    have dr:=CB (ky:=871) l;simp only;cases aH:g.fits 80 with
    |false=>rw[aH]at ri;simp only[ia,if_false];refine kR.mk mixed oJ xy yx Ψ fun aQ κ=>?_;unfold ve;clear aQ;simp;(with_reducible repeat' first|refine aI ?_|refine bn cd ?_|refine bo cd ?_|simp);refine CallDo.obK (Ea _) (br _ _) (by simp only[ai];exact aO) (by simp only[ai];exact aO) (by simp[aG,Pv.look,ai,aJ,eX,kinL,kin]) Ψ ?_;rintro r aj ⟨rfl,rfl⟩;refine⟨cc _ _ _ _,?_⟩;simp[bs,ai,aJ];(with_reducible repeat' first|refine aI ?_|simp);refine CallDo.ob (dr) (br _ _) (by simp only[ai];exact aO) (by simp only[ai];exact aO) (by simp[aG,Pv.look,ai,aJ,eX,kinL,kin]) ?_;rintro r aj ⟨rfl,rfl⟩;refine⟨cc _ _ _ _,?_⟩;simp[bs,ai,aJ];(with_reducible repeat' first|refine aI ?_|refine bn ri ?_|refine bo ri ?_|simp);(refine dL.val Ψ ?_;simp[wz,ba,bc,a1,cC,dN,b8,dd,bW,db,tnL,tn,dk,dW,fold,dV,dU,eJ,Pv.look,cV,bz,bC,p6,Gm.k,j4,Gm.kind,Gm.name,Gm.ts,Gm.gs])
    |true=>rw[aH]at ri;simp only[if_true];refine kR.mk mixed oJ xy yx Ψ fun aQ κ=>?_;unfold ve;clear aQ;simp;(with_reducible repeat' first|refine aI ?_|refine bn cd ?_|refine bo cd ?_|simp);refine CallDo.obK (Ea _) (br _ _) (by simp only[ai];exact aO) (by simp only[ai];exact aO) (by simp[aG,Pv.look,ai,aJ,eX,kinL,kin]) Ψ ?_;rintro r aj ⟨rfl,rfl⟩;refine⟨cc _ _ _ _,?_⟩;simp[bs,ai,aJ];(with_reducible repeat' first|refine aI ?_|simp);refine CallDo.ob (dr) (br _ _) (by simp only[ai];exact aO) (by simp only[ai];exact aO) (by simp[aG,Pv.look,ai,aJ,eX,kinL,kin]) ?_;rintro r aj ⟨rfl,rfl⟩;refine⟨cc _ _ _ _,?_⟩;simp[bs,ai,aJ];(with_reducible repeat' first|refine aI ?_|refine bn ri ?_|refine bo ri ?_|simp);(refine dL.val Ψ ?_;simp[wz,ba,bc,a1,cC,dN,b8,dd,bW,db,tnL,tn,dk,dW,fold,dV,dU,eJ,Pv.look,cV,bz,bC,p6,Gm.k])
def ss(o:aV Gm):ab:=match o with|some g=>.tuple [g.e,.bool true]|none=>.tuple [j4.e,.bool false]
theorem Wi{s:List aC}(ao:s.length<=bX):b5 aS 88 [.str s] (ss (pF s)):=by
 have cd:=Wk s ao;rw[Uq];cases J:hs s with
 |none=>rw[J]at cd;simp only[kh,ss,my]at cd⊢;refine bT fv xz yy fun aQ=>?_;unfold vg;clear aQ;simp;((with_reducible repeat' first|refine aI ?_|refine bn cd ?_|refine bo cd ?_|simp|((first|apply dy|apply dC|apply dB)<;>intro h<;>try simp at h))<;>(try exact ep));simp[ca,Bt,ba,bc,a1]
 |some l=>
  rw[J]at cd;simp only[kh]at cd⊢;obtain⟨hG,gM⟩:=Mj J;have cU:=Qv l Ω (fun w h=>(gM w h).1) (2*l.length+1) 0 Ω Ω;rw[List.drop_zero]at cU;cases dS:en hL Go.Pv.hdS (2*l.length+1) l with
  |none=>rw[dS]at cU;simp only[ss,my];refine bT fv xz yy fun aQ=>?_;unfold vg;clear aQ;simp;(with_reducible repeat' first|refine aI ?_|refine bn cd ?_|refine bo cd ?_|simp);refine CallDo.ob cU lH (fun k cs h=>by simp[Pv.look]at h) (fun k cs h=>by simp[Pv.look]at h) (by simp[kinL,kin]) ?_;rintro r aj ⟨rfl,g,q,rfl⟩;refine⟨Same.refl _,?_⟩;simp[bs];((with_reducible repeat' first|refine aI ?_|simp|((first|apply dy|apply dC|apply dB)<;>intro h<;>try simp at h))<;>(try exact ep));simp[ca,Bt,ba,bc,a1]
  |some x=>
   obtain⟨g,rest⟩:=x;rw[dS]at cU;have ri:=Wf g;have DQ:=(wE y8 _ _ _ _ dS).1.length_le;cases rest with
   |cons w r=>
    have b7:(((l.length-(r.length+1):Nat):Int) !=l.length)=true:=by simp at DQ⊢;omega
    simp only[ss,my];refine bT fv xz yy fun aQ=>?_;unfold vg;clear aQ;simp;(with_reducible repeat' first|refine aI ?_|refine bn cd ?_|refine bo cd ?_|simp);refine CallDo.ob cU lH (fun k cs h=>by simp[Pv.look]at h) (fun k cs h=>by simp[Pv.look]at h) (by simp[kinL,kin]) ?_;rintro cv aj ⟨rfl,rfl⟩;refine⟨Same.refl _,?_⟩;simp[bs];((with_reducible repeat' first|refine aI ?_|simp[b7]|((first|apply dy|apply dC|apply dB)<;>intro h<;>try simp at h))<;>(try exact ep));simp[ca,Bt,ba,bc,a1]
   |nil=>
    simp only;cases aH:g.fits 80 with
    |false=>rw[aH]at ri;simp only[ss,my,ia,if_false];refine bT fv xz yy fun aQ=>?_;unfold vg;clear aQ;simp;(with_reducible repeat' first|refine aI ?_|refine bn cd ?_|refine bo cd ?_|simp);refine CallDo.ob cU lH (fun k cs h=>by simp[Pv.look]at h) (fun k cs h=>by simp[Pv.look]at h) (by simp[kinL,kin]) ?_;rintro cv aj ⟨rfl,rfl⟩;refine⟨Same.refl _,?_⟩;simp[bs];exact cH
    |true=>rw[aH]at ri;simp only[ss,if_true];refine bT fv xz yy fun aQ=>?_;unfold vg;clear aQ;simp;(with_reducible repeat' first|refine aI ?_|refine bn cd ?_|refine bo cd ?_|simp);refine CallDo.ob cU lH (fun k cs h=>by simp[Pv.look]at h) (fun k cs h=>by simp[Pv.look]at h) (by simp[kinL,kin]) ?_;rintro cv aj ⟨rfl,rfl⟩;refine⟨Same.refl _,?_⟩;simp[bs];exact cH
def wu(s:List aC):aV (List aC×List aU):=match pF s with
 |some g=>if g.kind=9/\g.vs=[]then some (g.name,g.ts)else none
 |none=>none
def og(x:List aC×List aU):ab:= .agg [.str x.1,.slice 4 .no (x.2.map enc)]
def xC(o:aV (List aC×List aU)):ab:= .tuple [og (o.getD ([],[])),.bool o.isSome]
def xB(o:aV (List aC×List aU))(κ:Nat):ab:= .tuple [.agg [.str (o.getD ([],[])).1,.slice 4 (.tr (.loc κ) 0) ((o.getD ([],[])).2.map enc)],.bool o.isSome]
theorem EW{s:List aC}{g:Gm}(h:pF s=some g):g.fits 80=true:=by
 unfold pF at h;split at h
 ·cases h
 split at h
 ·split at h
  ·rename_i aH;cases h;exact aH
  ·cases h
 ·cases h
theorem Up{s:List aC}(k:Int)(J:k<=1000):(bI cp (((wu s).getD ([],[])).2.map enc) k).2<=4611686018427387904:=by
 rw[A2];unfold wu;cases h:pF s with
 |none=>simp[kN];omega
 |some g=>
  have:=Qd (EW h);simp only;split
  ·simp only[Option.getD];omega
  ·simp[kN];omega
theorem SB{g:Gm}:gO g.vs []=[]↔g.vs=[]:=by
 constructor
 ·intro h;refine List.eq_nil_iff_forall_not_mem.2 fun v aL=>?_;have:=(JO g.vs [] v).2 (.inr aL);rw[h]at this;cases this
 ·intro h;rw[h];rfl
theorem IA{g:Gm}:sk g=[]↔g.vs=[]:=by
 constructor
 ·intro h;refine List.eq_nil_iff_forall_not_mem.2 fun v aL=>?_;have:=(IB g v).2 aL;rw[h]at this;cases this
 ·intro h;refine List.eq_nil_iff_forall_not_mem.2 fun v aL=>?_;have:=(IB g v).1 aL;rw[h]at this;cases this
theorem Wh{s:List aC}(ao:s.length<=bX):b5 aS 26 [.str s] (xC (wu s)):=by
 have jv:=Wi ao;unfold wu;cases h:pF s with
 |none=>rw[h]at jv;simp only[ss,my]at jv;simp only[xC,og,Option.getD,Option.isSome,List.map_nil];refine bT mV zO Bf fun aQ=>?_;unfold xm;clear aQ;exact cH
 |some g=>
  have aH:=EW h;rw[h]at jv;simp only[ss]at jv;have fq:g.shape=true:=by unfold Gm.fits at aH;simp only[bA]at aH;exact aH.1
  have jR:b5 aS 89 [g.e,.slice 1 .no []] (.slice 1 .no (dI (gO g.vs []))):=Wb g.sz g (cE _) fq [] ⟨.nil,Ψ⟩;simp only;by_cases fb:g.kind=9
  ·have sw:(g.kind !=9)=false:=by simp[fb]
   by_cases aL:g.vs=[]
   ·rw[if_pos ⟨fb,aL⟩];rw[aL]at jR;rw[show dI (gO [] [])=[]from rfl]at jR;simp only[xC,og,Option.getD,Option.isSome];refine bT mV zO Bf fun aQ=>?_;unfold xm;clear aQ;simp;((with_reducible repeat' first|refine aI ?_|refine bn jv ?_|refine bo jv ?_|refine bn jR ?_|refine bo jR ?_|simp[sw]|((first|apply dy|apply dC|apply dB)<;>intro h<;>try simp at h))<;>(try exact ep));simp[ca,E3,ba,bc,a1]
   ·rw[be fun h=>aL h.2];have aA:0<(gO g.vs []).length:=nT.2 fun e=>aL (SB.1 e);have gM:((gO g.vs []).length:Int)>0:=Ω
    generalize gO g.vs []=U at jR aA gM;simp only[xC,og,Option.getD,Option.isSome,List.map_nil];refine bT mV zO Bf fun aQ=>?_;unfold xm;clear aQ;simp;((with_reducible repeat' first|refine aI ?_|refine bn jv ?_|refine bo jv ?_|refine bn jR ?_|refine bo jR ?_|simp[sw,aA,gM]|((first|apply dy|apply dC|apply dB)<;>intro h<;>try simp at h))<;>(try exact ep));simp[ca,E3,ba,bc,a1]
  ·rw[be fun h=>fb h.1];have sw:(g.kind !=9)=true:=by simp[fb]
   simp only[xC,og,Option.getD,Option.isSome,List.map_nil];refine bT mV zO Bf fun aQ=>?_;unfold xm;clear aQ;exact cH
theorem TJ{s:List aC}(ao:s.length<=bX):kR aS 27 [.str s] (xB (wu s)):=by
 have jv:=TK ao;unfold wu;cases h:pF s with
 |none=>rw[h]at jv;refine kR.mk mixed mV zL Bc Ψ fun aQ κ=>?_;unfold xj;clear aQ;simp;(refine CallDo.own Ψ (jv) (by simp[cV]) ?_;simp);(with_reducible repeat' first|refine aI ?_|simp[p6,Gm.k,j4,Gm.kind,Gm.name,Gm.ts,Gm.gs]);(refine dL.val Ψ ?_;simp[yJ,ba,bc,a1,cC,dN,b8,dd,bW,db,tnL,tn,dk,dW,fold,dV,dU,eJ,Pv.look,cV,bz,bC,xB])
 |some g=>
  have aH:=EW h;rw[h]at jv;have fq:g.shape=true:=by unfold Gm.fits at aH;simp only[bA]at aH;exact aH.1
  have jR:=V0 g fq;simp only;by_cases fb:g.kind=9
  ·have sw:(g.kind !=9)=false:=by simp[fb]
   by_cases aL:g.vs=[]
   ·rw[if_pos ⟨fb,aL⟩];rw[IA.2 aL]at jR;refine kR.mk mixed mV zL Bc Ψ fun aQ κ=>?_;unfold xj;clear aQ;simp;(refine CallDo.own Ψ (jv) (by simp[cV]) ?_;simp);(with_reducible repeat' first|refine aI ?_|refine bn jR ?_|refine bo jR ?_|simp[p6,Gm.k,sw]);(refine dL.val Ψ ?_;simp[yJ,ba,bc,a1,cC,dN,b8,dd,bW,db,tnL,tn,dk,dW,fold,dV,dU,eJ,Pv.look,cV,bz,bC,xB])
   ·rw[be fun h=>aL h.2];have aA:0<(sk g).length:=nT.2 fun e=>aL (IA.1 e);have gM:((sk g).length:Int)>0:=Ω
    generalize sk g=U at jR aA gM;refine kR.mk mixed mV zL Bc Ψ fun aQ κ=>?_;unfold xj;clear aQ;simp;(refine CallDo.own Ψ (jv) (by simp[cV]) ?_;simp);(with_reducible repeat' first|refine aI ?_|refine bn jR ?_|refine bo jR ?_|simp[p6,Gm.k,sw,aA,gM]);(refine dL.val Ψ ?_;simp[yJ,ba,bc,a1,cC,dN,b8,dd,bW,db,tnL,tn,dk,dW,fold,dV,dU,eJ,Pv.look,cV,bz,bC,xB])
  ·rw[be fun h=>fb h.1];have sw:(g.kind !=9)=true:=by simp[fb]
   refine kR.mk mixed mV zL Bc Ψ fun aQ κ=>?_;unfold xj;clear aQ;simp;(refine CallDo.own Ψ (jv) (by simp[cV]) ?_;simp);(with_reducible repeat' first|refine aI ?_|simp[p6,Gm.k,sw]);(refine dL.val Ψ ?_;simp[yJ,ba,bc,a1,cC,dN,b8,dd,bW,db,tnL,tn,dk,dW,fold,dV,dU,eJ,Pv.look,cV,bz,bC,xB])
inductive nb where
 |s (l:List aC)
 |b (x:ib)
def nb.e:nb->ab
 | .s l=>.str l
 | .b x=>.cst (.string x)
def FN(n:Nat):Prop:=bX<n/\n<=9223372036854775807
def nb.wf:nb->Prop
 | .s _=>True
 | .b x=>FN x.size
def nb.len:nb->Int
 | .s l=>l.length
 | .b x=>x.size
inductive B5 (α:Type) where
 |l (xs:List α)
 |b (p:aV Addr) (n cap:Nat)
def B5.e{α:Type}(sz:Nat)(f:α->ab):B5 α->ab
 | .l xs=>.slice sz .no (xs.map f)
 | .b p n cap=>.cst (.slice p n cap)
inductive n3 where
 |mk (k n:Int) (s:nb) (a:List n3)
 |big (k n:Int) (s:nb) (p:aV Addr) (len cap:Nat)
mutual
def n3.e:n3->ab
 | .mk k n s a=>.agg [.int .i64 k,.int .i64 n,s.e,.slice 4 .no (n3.eL a)]
 | .big k n s p len cap=>.agg [.int .i64 k,.int .i64 n,s.e,.cst (.slice p len cap)]
def n3.eL:List n3->List ab
 |[]=>[]
 |x::xs=>x.e::n3.eL xs
end
def L7{α:Type}(f:α->Int->Int):List α->Int->Int
 |[],m=>m
 |x::xs,m=>if f x m<0 then-1 else L7 f xs (f x m)
def VB{α:Type}(f:α->Int->Int)(l:List α)(m:Int):Int:=if m-l.length<0 then-1 else L7 f l (m-l.length)
def VA{α:Type}(f:α->Int->Int):B5 α->Int->Int
 | .l xs,m=>VB f xs m
 | .b _ _ _,_=> -1
mutual
def FH:n3->Int->Int
 | .mk _ _ s a,m=>if m-s.len<0 then-1 else if m-s.len-a.length<0 then-1 else Ma a (m-s.len-a.length)
 | .big _ _ s _ _ _,m=>if m-s.len<0 then-1 else-1
def Ma:List n3->Int->Int
 |[],m=>m
 |x::xs,m=>if FH x m<0 then-1 else Ma xs (FH x m)
end
def Hc:C:=(al [bM 4 false] (.seq (al [ae 6 0,dT 7 6,ae 8 1,dT 9 8,dm 10 .neq 7 9] (bf 10 (al [bM 4 false] .ret) .skip)) (.seq (al [cK 5 0] (.block 0 (.loop (.seq (al [ae 11 5,ae 12 0,dT 13 12,dm 14 .lss 11 13] (bf 14 .skip (.exit 0))) (.seq (.block 1 (.seq (.drawn true 27 [ae 17 0,ae 18 5,e8 19 4 17 18,cP 20 4 19,ae 21 1,ae 22 5,e8 23 4 21 22,cP 24 4 23,gA 25 161 20 24,eQ 26 25]) (bf 26 (al [bM 4 false] .ret) .skip))) (.region [ae 15 5,bd 16 .add 15 1,ae 5 16])))))) (al [bM 4 true] .ret))))
@[simp] def UM:List cr:=[.tmp 4]
def Hb:C:=(al [hW 2 0,hW 3 1,bM 4 false] (.seq (al [bB 5 0 1 2,bu 6 1 5,bB 7 0 1 3,bu 8 1 7,dm 9 .neq 6 8] (bf 9 (al [bM 4 false] .ret) .skip)) (.seq (al [bB 10 1 1 2,bu 11 1 10,bB 12 1 1 3,bu 13 1 12,dm 14 .neq 11 13] (bf 14 (al [bM 4 false] .ret) .skip)) (.seq (al [bB 15 2 1 2,bu 16 1 15,bB 17 2 1 3,bu 18 1 17,dm 19 .neq 16 18] (bf 19 (al [bM 4 false] .ret) .skip)) (.seq (al [bB 20 3 1 2,bu 21 1 20,bB 22 3 1 3,bu 23 1 22,gA 24 91 21 23,eQ 25 24] (bf 25 (al [bM 4 false] .ret) .skip)) (al [bM 4 true] .ret))))))
@[simp] def UL:List cr:=[.tmp 4]
def FT:List (Nat×cm):=[
 (3,⟨1,8,.int .i64,.int .i64 0⟩),
 (9,⟨1,16,.str,.str []⟩),
 (38,⟨1,24,.slice 40,.slice 4 .nil []⟩),
 (40,⟨4,56,.struct [(0,3),(1,3),(2,9),(3,38)],.agg [.int .i64 0,.int .i64 0,.str [],.slice 4 .nil []]⟩),
 (167,⟨1,24,.slice 282,.slice 4 .nil []⟩),
 (282,⟨4,56,.struct [(0,3),(1,3),(2,9),(3,167)],.agg [.int .i64 0,.int .i64 0,.str [],.slice 4 .nil []]⟩)]
theorem Mp:dJ aS FT=true:=by kernel_rfl
theorem T5:c6 FT Hc UM 2 Tryz.f91=true:=by kernel_rfl
theorem PR:aS.funcs[(91:Nat)]? =some Tryz.f91:=Tryz.func91
theorem T4:c6 FT Hb UL 2 Tryz.f161=true:=by kernel_rfl
theorem PQ:aS.funcs[(161:Nat)]? =some Tryz.f161:=Tryz.func161
theorem Mx(l:List aU)(aH:∀x∈l,b5 aS 161 [enc x,enc x] (.bool true)):b5 aS 91 [.slice 4 .no (l.map enc),.slice 4 .no (l.map enc)] (.bool true):=by
 refine bT Mp PR T5 fun aQ=>?_;unfold Hc;have hg:l.length<=68719476736:=by simp[jf,jE,jg,bX]at aQ;omega
 simp;(with_reducible repeat' first|refine aI ?_|simp);refine vp [0,1] (fun i (_:Unit)=>[(5,.int .i64 i)]) l.length (fun _ _=>True) () dp trivial (fun _ _ _=>?_) (fun i _ aB _ _=>?_)
 ·exact cH
 ·obtain⟨x,ad,lE⟩:=hy aB;have key:=aH x (gB ad);clear ad;exact yI
theorem VX(t:aU):b5 aS 161 [enc t,enc t] (.bool true):=by
 suffices H:∀(k:Nat) (t:aU),t.sz<=k->b5 aS 161 [enc t,enc t] (.bool true)from H _ t (cE _)
 intro k;induction k with
 |zero=>intro t au;cases t;simp[aU.sz]at au
 |succ k a8=>intro t au;have key:=Mx t.args (fun x ad=>a8 x (by have:=Mb ad;omega));clear a8;refine bT Mp PQ T4 fun aQ=>?_;unfold Hb;exact cH
def iK(t:B5 n3):ab:=t.e 4 n3.e
def uX(t:B5 n3)(m:Int):Int:=VA FH t m
theorem VY(d:List aU):b5 aS 91 [.slice 4 .no (d.map enc),.slice 4 .no (d.map enc)] (.bool true):=Mx d fun x _=>VX x
theorem Ol(b:Nat)(s:List aC)(ys:List ab):gE b [.str s,.slice 4 .no ys]=[.str s,eP b (.slice 4 .no ys)]:=rfl
theorem VW(x:List aC×List aU):b5 aS 28 [og x,og x] (.bool true):=by have cd:=VY x.2;simp only[og];refine bT mV PO T3 fun aQ=>?_;unfold Ha;clear aQ;exact cH
theorem VR(kZ:nb)(aP:kZ.wf):b5 aS 5 [kZ.e] (.bool true):=by
 cases kZ with
 |b x=>
  have j4:(1048576:Int)<x.size:=by have:FN x.size:=aP;unfold FN bX at this;omega
  simp only[nb.e];clear aP;refine b5.mkD mixed mV CU ET Ψ (by simp[kin]) fun aQ=>?_;unfold zu;simp;(with_reducible repeat' first|refine aI ?_|simp[j4]);all_goals simp[ca,E1,ba,bc,a1]
 |s kZ=>
 simp only[nb.e];by_cases j4:(1048576:Int)<kZ.length
 ·clear aP;refine b5.mkD mixed mV CU ET Ψ (by simp[kin]) fun aQ=>?_;unfold zu;have hg:kZ.length<=68719476736:=by simp[jf,jE,jg,bX]at aQ;omega
  simp;(with_reducible repeat' first|refine aI ?_|simp[j4]);all_goals simp[ca,E1,ba,bc,a1]
 have aA:kZ.length<=bX:=by unfold bX;omega
 obtain⟨x,B,hw,s1,i1⟩:∃(x:List aC×List aU) (B:Bool),(∀k:Int,k<=1000->(bI cp (x.2.map enc) k).2<=4611686018427387904)/\b5 aS 26 [.str kZ] (.tuple [og x,.bool B])/\kR aS 27 [.str kZ] fun κ=>.tuple [.agg [.str x.1,.slice 4 (.tr (.loc κ) 0) (x.2.map enc)],.bool B]:=⟨_,_,fun k J=>Up k J,Wh aA,TJ aA⟩
 have D1:b5 aS 27 [.str kZ] (.tuple [og x,.bool B]):=by have:=i1.val (by simp[bC,bz,Pv.kin,Pv.kinL]);simpa[og,bC,bz]using this
 have tN:=VW x;clear aP;obtain⟨N,ts⟩:=x;simp only[og]at s1 i1 D1 tN hw;refine b5.mkD mixed mV CU ET Ψ (by simp[kin]) fun aQ=>?_;unfold zu;have hg:kZ.length<=68719476736:=Ω
 simp;(with_reducible repeat' first|refine aI ?_|refine bn s1 ?_|refine bo s1 ?_|simp[j4]);refine Pd ⟨[(0,.str kZ),(3,.ptr (.loc 0) 0),(4,.bool B)],[(.loc 0,[.str N,.slice 4 .no (ts.map enc)])],[],1,[]⟩ dp ?_ ?_
 ·simp[BM,BO,BN,te,uQ]
 simp[qv,BP,y0,iJ,td];(with_reducible repeat' first|refine aI ?_|simp);(refine CallDo.own Ψ (i1) (by simp[cV]) ?_;simp);(with_reducible repeat' first|refine aI ?_|refine bn tN ?_|refine bo tN ?_|simp);refine Pe ⟨[(0,.str kZ),(3,.ptr (.loc 0) 0),(4,.bool B),(5,.ptr (.loc 2) 0),(6,.bool B),(7,.int .i64 1)],[(.loc 0,[.str N,.slice 4 (.lo cV) (ts.map enc)]),(.loc 2,[.str N,.slice 4 (.tr (.loc 1) 0) (ts.map enc)])],[],3,[cV]⟩ 1000000 dp ?_ fun ε=>?_
 ·simp[y4,oG,dk,dW,tn,tnL,Bm,Pv.look,cV]
 simp[qB,qA,r5,qO,hR,lV,bC,bz,tn,tnL,Pv.look];(with_reducible repeat' first|refine aI ?_|simp[Ol]);have Dx:=hw 1 Ω;have f1:=Qw N (ts.map enc) D4 1 1000000 ε Ω Dx;have f3:=Qt N (ts.map enc) D4 1 1000000 ε Ω Dx;have d0:cb (.agg [.str N,.slice 4 .no (ts.map enc)]):=by simp[cb,Pv.dtL]
 have d1:cb (.agg [.str N,.slice 4 .no (bI cp (ts.map enc) 1).1]):=by simp only[cb,Pv.dtL,true_and,and_true];exact⟨Ω,tM _ _ _ Ψ⟩
 have f2:kinL (rng 1000000 (1000000+bZ (.agg [.str N,.slice 4 .no (ts.map enc)]))) [eP 1000000 (.agg [.str N,.slice 4 .no (ts.map enc)]),.int .i64 1]:=⟨yp _ _ d0,by simp[Pv.kin],trivial⟩;have cM:bZ (.agg [.str N,.slice 4 .no (bI cp (ts.map enc) 1).1])=bZ (.agg [.str N,.slice 4 .no (ts.map enc)]):=by rw[HI,HI];exact xt (rp ..) (tJ ..)
 have jn:1<=(bI cp (ts.map enc) 1).2:=pB ..;have bg:eP 1000000 (.agg [.str N,.slice 4 .no (bI cp (ts.map enc) 1).1])=eP 1000000 (.agg [.str N,.slice 4 .no (ts.map enc)]):=by rw[xx,xx,HZ (rp ..)]
 have f4:=f2;rw[<-cM]at f4;rw[bg]at f3;obtain⟨P,z7⟩:∃P,P=ab.agg [.str N,.slice 4 .no (bI cp (ts.map enc) 1).1]:=⟨_,rfl⟩;rw[<-z7]at f1 f3 f4 d1 cM;generalize (bI cp (ts.map enc) 1).2=K at f1 f3 jn;rw[xx]at f1 f2 f3 f4;clear z7 hw bg Dx;refine CallDo.tree d0 cM f1 rfl f2 ?_;have cl:¬K<0:=Ω
 clear f1 f2 cM d0 jn;simp;(with_reducible repeat' first|refine aI ?_|simp);refine CallDo.tree d1 rfl f3 ?_ f4 ?_
 ·rfl
 simp[cl];(with_reducible repeat' first|refine aI ?_|refine bn D1 ?_|refine bo D1 ?_|refine bn tN ?_|refine bo tN ?_|simp[cl]);refine CallDo.tree d1 rfl f3 ?_ f4 ?_
 ·rfl
 exact cH
end
section
open Go Go.Pv Go.ChangeShapes Go.WideShapes Go.ChangeAt Go.RowKit Go.Deep
def vo(W:World):aD:=⟨fun b o=> ∃u,W.cell? ⟨b,o,none⟩=some u,fun _=>none,fun _=>none,fun _ _ _=>cw⟩
section
variable {H:Type} {enc:eU×Value->H} {W:World} {spare:Nat->Bool} {held:Bool}
def Bx(W:World)(p:ab)(cs:List Value):Prop:= ∃v:Value,v.cells.toList=cs/\aw W (vo W) p v/\∀c∈cs,c.oneCell'=true
def UX(W:World)(p:ab)(v:Value):Prop:=aw W (vo W) p v/\v.oneCell'=true/\v.cells= #[v]
end
end
section
open Go Go.Pv Go.ChangeShapes Go.WideShapes Go.ChangeAt Go.RowKit Go.Deep
section
variable {H:Type} {enc:eU×Value->H} {W:World} {spare:Nat->Bool} {held:Bool} {cs:List Value} {x:DataW H×List MemPlace} {fuel:Nat}
theorem Vw(h:DataW.trod enc aS W 0 spare held fuel 9 cs=some x):∃(s:nb) (v:Value),s.wf/\cs=[v]/\UX W s.e v:=by
 obtain⟨s,rfl,_,hm⟩:=DataW.trod_string Tryz.underlying9 h;by_cases ao:bX<s.size
 ·exact⟨.b s,_,⟨ao,by unfold maxLen at hm;omega⟩,rfl,by simp only[nb.e,aw],rfl,rfl⟩
 ·refine⟨.s s.data.toList,_,trivial,rfl,?_,rfl,rfl⟩;simp only[nb.e,aw];refine⟨Ψ,?_⟩;have:s.data.toList.length=s.size:=rfl;omega
end
end
section
open Go Go.Pv Go.ChangeShapes Go.WideShapes Go.ChangeAt Go.RowKit
theorem U5:ownKnob aS.godebug=none:=by kernel_rfl
theorem U4:laidOutB aS=true:=by kernel_rfl
def QD(b o:Nat):Prop:= ∃x∈sp,x.1=b/\x.2.1=o
def xG(w:World):Prop:= ∀x∈sp,(∃v,w.cell? ⟨x.1,x.2.1,none⟩=some v/\x.2.2.2 v)/\∃el,Pv.shape w x.1=some (x.2.2.1,el)
theorem xG.gl{w:World}(h:xG w){ν:aD}(aT:∀b o,QD b o->ν.A b o):lQ w ν:=fun x ad=>⟨aT _ _ ⟨x,ad,rfl,rfl⟩,h x ad⟩
theorem F2{w:World}{n:String}{g:Nat}{cs:Array Value}(aP:aS.globalNamed n=some g)(h:w.var? aS n=some cs):∃el,Pv.shape w g=some (cs.size,el):=by
 simp only[World.var?,aP,Option.bind_some]at h;unfold Pv.shape;split at h
 ·rename_i c t fz e;cases h;rw[e];exact⟨_,rfl⟩
 ·cases h
theorem QE{w:World}(au:Lib.TabIs aS w "internal/strconv.uint64pow10" .u64 Lib.pow10Tab)(ao:∃u v,w.var? aS "strconv.ErrSyntax" =some #[.iface u v])(hr:∃u v,w.var? aS "strconv.ErrRange" =some #[.iface u v]):xG w:=by
 have j4:aS.globalNamed "internal/strconv.uint64pow10" =some 0:=by kernel_rfl
 have g1:aS.globalNamed "strconv.ErrSyntax" =some 1:=by kernel_rfl
 have g2:aS.globalNamed "strconv.ErrRange" =some 2:=by kernel_rfl
 obtain⟨ix,v1,I⟩:=ao;obtain⟨h7,v2,aa⟩:=hr;intro x ad;unfold sp at ad;rcases ha.1 ad with ad|ad
 ·obtain⟨i,aB,rfl⟩:=lO.1 ad;have aB:=List.mem_range.1 aB;refine⟨⟨_,au.cell j4 i (by simpa[Lib.pow10Tab]using aB),?_⟩,?_⟩
  ·show lM .u64 _=_;rw[Lib.pow10Tab_at i aB]
  ·obtain⟨el,h⟩:=F2 j4 au;exact⟨el,by simpa[Lib.pow10Tab]using h⟩
 ·simp only[gp,List.not_mem_nil,or_false]at ad;rcases ad with rfl|rfl
  ·refine⟨⟨.iface ix v1,by simpa using World.var?_cell g1 I 0,_,_,rfl⟩,?_⟩;obtain⟨el,h⟩:=F2 g1 I;exact⟨el,by simpa using h⟩
  ·refine⟨⟨.iface h7 v2,by simpa using World.var?_cell g2 aa 0,_,_,rfl⟩,?_⟩;obtain⟨el,h⟩:=F2 g2 aa;exact⟨el,by simpa using h⟩
theorem Km{n gi:String}{d:DataW Unit}{r:List (String×DataW Unit)}{W:World}{g:Nat}{dA:eU}{ms:Array (String×eU)}(h:laidMet aS ((n,.iface gi d)::r) W)
  (aP:aS.globalNamed n=some g) (au:(aS.globals[g]?).map (·.type)=some dA) (aB:aS.underlying dA=some (.interface ms)):∃u v,W.var? aS n=some #[.iface u v]:=by
 obtain⟨aZ,⟨j4,t0,N8,f0,gx,K8,Rq,Sd,AA,q2,_,sd⟩,_,_⟩:=h;obtain rfl:=iN (aP.symm.trans Rq);obtain rfl:=iN (au.symm.trans Sd);obtain⟨Y6⟩:=N8;obtain⟨_,u,v,az,_,_⟩:=iface_of_trod aB q2;simp only at az;subst az;exact⟨u,v,AA⟩
theorem v7(w:World)(A:Nat->Nat->Prop)(b:Nat):∀(us:List Value) (off:Nat),(∀i u,us[i]? =some u->A b (off+i)/\w.cell? ⟨b,off+i,none⟩=some u)->h5 w A b off us
 |[],_,_=>trivial
 |u::us,off,h=>⟨by simpa using h 0 u rfl,v7 w A b us (off+1) fun i dw hu=>by have:=h (i+1) dw (by simpa using hu);rwa[show off+(i+1)=off+1+i from by omega]at this⟩
theorem No{f:FuncId}{fn:Func}(vJ:aS.funcs[f]? =some fn)(Oh:∀args w,(callFunc f args).run aS w= .ok (.enter f args) w){w:World}{ν:aD}{args:List ab}{vs:Array Value}(gl:lQ w ν)(h:b5 aS f args (.bool true))(au:∀k j b,¬ν.tr k j b)(aT:∀b o,ν.A b o->b<w.heap.size)(af:∀k,ν.bx k=none)(ag:∀k,ν.ow k=none)(hr:bP w ν args vs.toList):
  Calls aS f vs w fun e w'=>e= .returned (.bool true)/\Below w.heap.size w w':=by
 have aP:Pv.Good (eZ ν ⟨[],[]⟩) w ν [] []:=⟨aT,fun k cs J=>by simp[Pv.look]at J,fun k aX bl I=>by simp[Pv.look]at I,fun g o J=>by simp[Pv.look]at J,fun g dH n n' v v' bl I=>by simp[Pv.look]at I,fun g k n v bl I=>by simp[Pv.look]at I,fun k=>.inl (af k),fun _ _ k j=>au k j _⟩;rcases h w ν vs gl aP (fun k=>⟨fun _=>af k,fun _=>ag k,au k⟩) hr with⟨_,az⟩|⟨v,w',az,_⟩
 ·refine az.mono ?_;rintro e w' ⟨v,r,aj,ν',rfl,⟨rfl,rfl⟩,hZ,_,_,_,kz⟩;simp only[aw]at hZ;subst hZ;refine⟨rfl,kz.os,kz.tape,kz.output,kz.size,fun k J=>kz.block k J ?_⟩;simp[eZ,Pv.look]
 ·rw[Oh]at az;cases az
theorem Oq{W:World}{b o:Nat}(h:(vo W).A b o):b<W.heap.size:=by
 obtain⟨u,hu⟩:=h;rcases Nat.lt_or_ge b W.heap.size with h|h
 ·exact h
 ·simp[World.cell?,Array.getElem?_eq_none h]at hu
theorem Oo{W:World}(h:xG W):lQ W (vo W):=h.gl fun b o aP=>by obtain⟨x,ad,rfl,rfl⟩:=aP;obtain⟨⟨v,aL,_⟩,_⟩:=h x ad;exact⟨v,aL⟩
theorem Vv{H:Type}{enc:eU×Value->H}{W:World}{spare:Nat->Bool}{held:Bool}{u:ib}{x:DataW H×List MemPlace}{fuel:Nat}(h:DataW.trod enc aS W 0 spare held fuel 9 [.string u]=some x):∃s:nb,s.wf/\aw W (vo W) s.e (.string u):=by obtain⟨s,v,ao,e,hr⟩:=Vw h;cases e;exact⟨s,ao,hr.1⟩
end
section
open Go
theorem gR{a b:Bool}(I:a=true)(aa:b=true):(a&&b)=true:=by rw[I,aa];rfl
theorem Nw:(hO.wf (OpenSpec.ofChange nR))=true:=by kernel_rfl
theorem Nx:(laidOutB aS)=true:=by kernel_rfl
theorem NJ:(mapsRowed aS)=true:=by kernel_rfl
theorem NU:(ic.params.all (aS.readableRec ·))=true:=by kernel_rfl
theorem NX:(namedTie aS hO.named nR.vars)=true:=by kernel_rfl
theorem NY:((hO.stops==[]))=true:=by kernel_rfl
theorem NZ:((aS.stops==[]))=true:=by kernel_rfl
theorem N0:((hO.knobs==[]))=true:=by kernel_rfl
theorem N1:((aS.stopKnobs==[]))=true:=by kernel_rfl
theorem N2:((hO.inPlace==aS.inPlace 5))=true:=by kernel_rfl
theorem Ny:((hO.unfollowed==aS.unfollowed 5))=true:=by kernel_rfl
theorem Nz:((hO.recurses==aS.recurses 5))=true:=by kernel_rfl
theorem NA:((hO.named==aS.varsNamed 5))=true:=by kernel_rfl
theorem NB:((hO.maps==(ic.params.toList++nR.plain.varTypes aS).any (aS.mapsRec ·)))=true:=by kernel_rfl
theorem NC:((hO.ifaces==(ic.params.toList++nR.plain.varTypes aS).any (aS.ifacesRec ·)))=true:=by kernel_rfl
theorem ND:((hO.mapsOut==aS.mapsAmong ic.resultTypes.toList))=true:=by kernel_rfl
theorem NF:((hO.loops==(ic.params.toList++nR.plain.varTypes aS).any (aS.loopsFrom ·)))=true:=by kernel_rfl
theorem NG:((hO.wideKeys==(ic.params.toList++nR.plain.varTypes aS++ic.resultTypes.toList).any (aS.wideKeysFrom ·)))=true:=by kernel_rfl
theorem NH:(nR.vars.all (aS.varReadable ·))=true:=by kernel_rfl
theorem NI:(ic.resultTypes.all (fun t=>aS.readableRec t&&decide (t<aS.types.size)))=true:=by kernel_rfl
theorem NK:((hO.ifacesOut==ic.resultTypes.toList.any (aS.ifacesRec ·)))=true:=by kernel_rfl
theorem NL:((hO.loopsOut==ic.resultTypes.toList.any (aS.loopsFrom ·)))=true:=by kernel_rfl
theorem NM:((hO.plainKeys==aS.plainKeys))=true:=by kernel_rfl
theorem NN:(hO.shortTexts.isNone)=true:=by kernel_rfl
theorem NO:(aS.stopsHeard)=true:=by kernel_rfl
theorem NP:(aS.mayEnter)=true:=by kernel_rfl
theorem NQ:((hO.lifted==aS.liftsFinal))=true:=by kernel_rfl
theorem NR:((aS.make==some hO.make))=true:=by kernel_rfl
theorem NS:((hO.kinds==(if hO.domain.isEmpty then []else ic.params.toList.map fun t=>match aS.underlying t with|some (.int k)=>some k|_=>none)))=true:=by kernel_rfl
theorem NT:((hO.pinned==hO.pinnedBy))=true:=by kernel_rfl
theorem NV:((hO.veiled==(ic.params.toList++nR.plain.varTypes aS++ic.resultTypes.toList).any (aS.veiledRec ·)))=true:=by kernel_rfl
theorem NW:(hO.veiledFits aS ic.params.toList (ic.params.toList++nR.plain.varTypes aS++ic.resultTypes.toList))=true:=by kernel_rfl
set_option maxRecDepth 100000 in
theorem N3:joinedFacts aS 5 ic nR hO=true:=(gR (gR (gR (gR (gR (gR (gR (gR (gR (gR (gR (gR (gR (gR (gR (gR (gR (gR (gR (gR (gR (gR (gR (gR (gR (gR (gR (gR (gR (gR (gR Nw Nx) NJ) NU) NX) NY) NZ) N0) N1) N2) Ny) Nz) NA) NB) NC) ND) NF) NG) NH) NI) NK) NL) NM) NN) NO) NP) NQ) NR) NS) NT) NV) NW)
theorem Nu:hO.wfByText (OpenSpec.ofChange nR)=true:=by kernel_rfl
theorem Ns:Tryz.pinned.checked.prog.mainIs=some (Rows.fnExactParseFactCard.stood.harness.1,Rows.fnExactParseFactCard.stood.harness.2.toList):=by kernel_rfl
theorem Nr:true=Tryz.pinned.checked.prog.looks []:=by kernel_rfl
theorem Nq:false=hO.goesBy Tryz.pinned.checked.prog:=by kernel_rfl
theorem Np:aS.funcNamed hO.func=some 5:=by kernel_rfl
theorem Nt:([9].all fun u=> !aS.wantsStandIn u)=true:=by kernel_rfl
end
end Go.Proofs.YtlnndmgfngfeiaaGreatDoor
