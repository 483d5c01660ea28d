/- Contracts of the reference: valid terms. -/
import Derived.Shelf.Sort.Plain
import Derived.Ground.NamesProg
import Derived.Test.YtlnndmgfngfeiaaDoorProg
import Derived.Sort.OwnSortedInts
import Derived.Lib.OwnBridge
import Derived.Shelf.Strings.Builder1
import Derived.Shelf.Strconv.Itoa3
import Derived.Shelf.Strconv.AtoiAll
import Derived.ProofKit
import Derived.WalkKit
import Derived.Lib.ItoaLen
import Derived.Test.YtlnndmgfngfeiaaDoorZg5
set_option linter.all false
set_option maxHeartbeats 4000000
set_option maxRecDepth 4000
open Array renaming getD_eq_getD_getElem?->l8,getElem?_eq_getElem->l9,replicate->nG
open Bool renaming and_eq_true->bD,not_eq_true'->oF
open ByteArray renaming size->FE
open Go renaming Program->bm
open Go.IntKind renaming i64->jS
open Go.IntWalk renaming i64_in->k9
open Go.Proofs.Tryd renaming prog->aP
open Go.Result renaming andThen_ok->ea
open Go.Sem renaming run_bind->dW,run_pure->eN
open List renaming all_eq_true->kd,cons_append->eP,drop_eq_getElem_cons->pJ,drop_length->mb,getElem?_append_left->nI,getElem?_eq_getElem->eo,getElem?_eq_some_iff->gp,length_append->jT,length_cons->mc,length_pos_iff->pL,map_cons->ig,mem_append->hp,mem_append_left->kf,mem_append_right->iw,mem_cons->gZ,mem_map->lE,mem_of_getElem?->gL,nil_append->fA,nodup_append->pM,take_add_one->nJ,take_length->ld
open List.cons renaming injEq->U3
open Nat renaming eq_or_lt_of_le->jB,le_refl->cx
open Option renaming getD_some->oG,map_some->mP
open Option.some renaming inj->iL,injEq->dp
open Prod.mk renaming injEq->hQ
open UInt8 renaming ofNat->lF
open _root_ renaming ByteArray->ic,False->cv,Option->aR,UInt8->az,beq_iff_eq->da,congrArg->eV,decide_eq_true_eq->fQ,if_neg->bh
namespace Go.Proofs.YtlnndmgfngfeiaaDoor
section
open Go Go.Pv
theorem PC(g:Gm){room:Int}(h:¬room<1)(au:g.ts.all aZ.fits=true)(J:g.kind=9):ca aP 34 [g.e,.int .i64 room] (.int .i64 (if g.shape then 1 else-1)):=by
 have b8:=qm g.ts;rw[au]at b8;have vv:=LH g.name;generalize bI:(if g.shape then(1:Int)else-1)=R;have he:g.shape=(h6 g.name&&g.gs.isEmpty&&decide (g.ts.length<=4)):=by rw[nB,au,J];rfl
 rw[he]at bI;clear he;have af:∀l:List Gm,((l.length:Int) !=0)= !l.isEmpty:=fun l=>by simp only[bne,Ad]
 have aA:decide ((4:Int)<g.ts.length)= !decide (g.ts.length<=4):=by
  by_cases h:g.ts.length<=4
  ·rw[decide_eq_true h];simp;omega
  ·rw[decide_eq_false h];simp;omega
 cases aD:h6 g.name;all_goals
  rw[aD]at vv bI
  refine bZ mL oS pt fun aT=>?_;unfold nV
  clear aT
  simp
  simp[J]
  ((with_reducible repeat' first|refine aK ?_|refine bq b8 ?_|refine br b8 ?_|refine bq vv ?_|refine br vv ?_|simp[h,J,pn,kB,af,-oh]|((first|apply dY|apply ed|apply ec)<;>intro h<;>try simp at h))<;>(try exact eM))
  all_goals(simp[cC,qa,bd,bo,a6];simp_all)
  all_goals omega
theorem PJ(g:Gm){room:Int}(h:¬room<1)(J:g.kind<0\/10<g.kind):ca aP 34 [g.e,.int .i64 room] (.int .i64 (-1)):=by
 have b8:=qm g.ts;have e:∀n:Int,0<=n->n<=10->(g.kind==n)=false:=fun n I aa=>beq_eq_false_iff_ne.2 Ω;have rT:=e 0 Ω Ω;have ai:=e 1 Ω Ω;have aE:=e 2 Ω Ω;have bb:=e 3 Ω Ω;have b9:=e 4 Ω Ω;have ft:=e 5 Ω Ω;have dz:=e 6 Ω Ω;have n2:=e 7 Ω Ω;have lO:=e 8 Ω Ω;have rV:=e 9 Ω Ω;have Nq:=e 10 Ω Ω;clear e J;cases au:g.ts.all aZ.fits;all_goals
  rw[au]at b8
  refine bZ mL oS pt fun aT=>?_;unfold nV
  clear aT
  simp
  (with_reducible repeat' first|refine aK ?_|refine bq b8 ?_|refine br b8 ?_|simp[h,pn,rT,ai,aE,bb,b9,ft,dz,n2,lO,rV,Nq,-oh])
  simp[cC,qa,bd,bo,a6]
set_option maxRecDepth 8000 in
theorem PG(g:Gm){room:Int}(h:¬room<1)(au:g.ts.all aZ.fits=true)(J:g.kind=7\/g.kind=8\/g.kind=10)(aU:g.name.isEmpty=false):ca aP 34 [g.e,.int .i64 room] (.int .i64 (-1)):=by
 have b8:=qm g.ts;rw[au]at b8;rcases J with J|J|J;all_goals
  refine bZ mL oS pt fun aT=>?_;unfold nV
  clear aT
  simp
  (with_reducible repeat' first|refine aK ?_|refine bq b8 ?_|refine br b8 ?_|simp[h,pn,J,aU,-oh])
  simp[cC,qa,bd,bo,a6]
set_option maxRecDepth 8000 in
theorem PL(g:Gm){room:Int}(h:¬room<1)(au:g.ts.all aZ.fits=true)(J:g.kind=7\/g.kind=8\/g.kind=10)(aU:g.name.isEmpty=true)(aa:¬g.ts.length=0):ca aP 34 [g.e,.int .i64 room] (.int .i64 (-1)):=by
 have b8:=qm g.ts;rw[au]at b8;have ak:((g.ts.length:Int) !=0)=true:=by simpa using aa
 rcases J with J|J|J;all_goals
  refine bZ mL oS pt fun aT=>?_;unfold nV
  clear aT
  simp
  (with_reducible repeat' first|refine aK ?_|refine bq b8 ?_|refine br b8 ?_|simp[h,pn,J,aU,ak,-oh])
  simp[cC,qa,bd,bo,a6]
set_option maxRecDepth 8000 in
theorem PE(g:Gm){room:Int}(h:¬room<1)(au:g.ts.all aZ.fits=true)(J:g.kind=7\/g.kind=8)(aU:g.name.isEmpty=true)(aa:g.ts.length=0)(aJ:¬g.gs.length<=8):ca aP 34 [g.e,.int .i64 room] (.int .i64 (-1)):=by
 have b8:=qm g.ts;rw[au]at b8;have ba:(8:Int)<g.gs.length:=Ω
 rcases J with J|J;all_goals
  refine bZ mL oS pt fun aT=>?_;unfold nV
  clear aT
  simp
  (with_reducible repeat' first|refine aK ?_|refine bq b8 ?_|refine br b8 ?_|simp[h,pn,J,aU,aa,ba,-oh])
  simp[cC,qa,bd,bo,a6]
set_option maxRecDepth 8000 in
theorem PH(g:Gm){room:Int}(h:¬room<1)(au:g.ts.all aZ.fits=true)(J:g.kind=10)(aU:g.name.isEmpty=true)(aa:g.ts.length=0)(aJ:¬g.gs.length=1):ca aP 34 [g.e,.int .i64 room] (.int .i64 (-1)):=by
 have b8:=qm g.ts;rw[au]at b8;have ba:((g.gs.length:Int) !=1)=true:=by simp;omega
 refine bZ mL oS pt fun aT=>?_;unfold nV;clear aT;simp;(with_reducible repeat' first|refine aK ?_|refine bq b8 ?_|refine br b8 ?_|simp[h,pn,J,aU,aa,ba,-oh]);simp[cC,qa,bd,bo,a6]
set_option maxRecDepth 8000 in
theorem PI(g:Gm){room:Int}(h:¬room<1)(au:g.ts.all aZ.fits=true)(J:g.kind=10)(aU:g.name.isEmpty=true)(aa:g.ts.length=0){x:Gm}(aJ:g.gs=[x])(ba:¬x.kind=9):ca aP 34 [g.e,.int .i64 room] (.int .i64 (-1)):=by
 have b8:=qm g.ts;rw[au]at b8;have cq:(x.kind !=9)=true:=by simpa using ba
 refine bZ mL oS pt fun aT=>?_;unfold nV;clear aT;simp;(with_reducible repeat' first|refine aK ?_|refine bq b8 ?_|refine br b8 ?_|simp[h,pn,J,aU,aa,aJ,cq,-oh]);simp[cC,qa,bd,bo,a6]
theorem E1{l:List Gm}{i:Nat}{x:Gm}(h:l[i]? =some x):((l.take (i+1)).map Gm.sz).sum=((l.take i).map Gm.sz).sum+x.sz:=by rw[nJ,h];simp
theorem EZ{l:List Gm}(i:Nat):((l.take i).map Gm.sz).sum<=(l.map Gm.sz).sum:=by
 conv=>rhs;rw[<-List.take_append_drop i l]
 rw[List.map_append,List.sum_append];omega
def kj(g:Gm)(room:Int)(i:Nat)(n:Int):aM:=⟨[(1,.int .i64 room),(6,.int .i64 n),(124,.slice 4 .no (g.gs.map Gm.e)),(125,.int .i64 g.gs.length),(126,.int .i64 i)],[],[],0,[]⟩
def uC(g:Gm)(room:Int)(i:Nat)(n:Int):Prop:=n=1+(((g.gs.take i).map Gm.sz).sum:Nat)/\mB Gm.shape g.gs i ()/\n<=room
set_option maxRecDepth 8000 in
theorem H4(g:Gm){room:Int}(h:¬room<1)(hr:room<=1000)(au:g.ts.all aZ.fits=true)(J:g.kind=7\/g.kind=8\/g.kind=10)(aU:g.name.isEmpty=true)(aa:g.ts.length=0)(aJ:g.kind≠10->g.gs.length<=8)(ba:g.kind=10->∃x,g.gs=[x]/\x.kind=9)
  (gN:g.shape=g.gs.all Gm.shape) (a8:∀x∈g.gs,∀r:Int,-1000<=r/\r<=1000->ca aP 34 [x.e,.int .i64 r] (.int .i64 (ja x r))):ca aP 34 [g.e,.int .i64 room] (.int .i64 (ja g room)):=by
 have b8:=qm g.ts;rw[au]at b8;have Qn:g.gs.length<=1000:=by
  rcases J with J|J|J
  ·have:=aJ Ω;omega
  ·have:=aJ Ω;omega
  ·obtain⟨x,ad,_⟩:=ba J;rw[ad];simp
 have dR:g.kind≠10->¬(8:Int)<g.gs.length:=fun e=>by have:=aJ e;omega
 rcases J with J|J|J;all_goals
  refine bZ mL oS pt fun aT=>?_;unfold nV
  clear aT
  simp
 ·have hK:=dR Ω;clear aJ ba dR;(with_reducible repeat' first|refine aK ?_|refine bq b8 ?_|refine br b8 ?_|simp[h,pn,J,aU,aa,hK,-oh]);refine iy (kj g room) g.gs.length (uC g room) 1 (by simp[kj];exact dQ) ⟨Ψ,fun k b J=>Ω,Ω⟩ (fun n av _=>?_) (fun i n aD av _=>?_)
  ·obtain⟨kx,js,tS⟩:=av;rw[ld]at kx;have:ja g room=n:=by rw[ua (by rw[gN];exact js.fin) (by rw[qh];omega),qh];omega
   rw[this];clear kx js a8 gN this;simp[kj];exact cH
  ·obtain⟨y,bs,gO⟩:=h0 aD;obtain⟨kx,js,tS⟩:=av;have pe:=E1 bs;have sw:=EZ (l:=g.gs) (i+1);have cU:bk ((i:Int)+1):=by unfold bk;omega
   have xD:bk (room-n):=by unfold bk;omega
   have ky:=a8 y (gL bs) (room-n) Ω;by_cases iX:y.shape=true/\(y.sz:Int)<=room-n
   ·rw[ua iX.1 iX.2]at ky;have xw:bk (n+y.sz):=by unfold bk;omega
    have b4:¬(y.sz:Int)<0:=Ω
    have kp:uC g room (i+1) (n+y.sz):=⟨by rw[pe];omega,js.step bs iX.1,Ω⟩;clear kx js a8 gN pe sw bs;simp[kj,aD,gO];(with_reducible repeat' first|refine aK ?_|refine bq ky ?_|refine br ky ?_|simp[aD,gO,cU,xD,xw,b4]);refine cQ.rng (n+y.sz) aD kp (by simp[kj];exact dQ)
   ·have eZ:ja y (room-n)= -1:=bh iX;rw[eZ]at ky;have:ja g room= -1:=by
     unfold ja;rw[bh];rintro⟨g1,g2⟩;refine iX ⟨?_,?_⟩
     ·rw[gN,kd]at g1;exact g1 y (gL bs)
     ·rw[qh]at g2;omega
    rw[this];clear kx js a8 gN pe sw bs iX eZ this;simp[kj,aD,gO];exact cH
 ·have hK:=dR Ω;clear aJ ba dR;(with_reducible repeat' first|refine aK ?_|refine bq b8 ?_|refine br b8 ?_|simp[h,pn,J,aU,aa,hK,-oh]);refine iy (kj g room) g.gs.length (uC g room) 1 (by simp[kj];exact dQ) ⟨Ψ,fun k b J=>Ω,Ω⟩ (fun n av _=>?_) (fun i n aD av _=>?_)
  ·obtain⟨kx,js,tS⟩:=av;rw[ld]at kx;have:ja g room=n:=by rw[ua (by rw[gN];exact js.fin) (by rw[qh];omega),qh];omega
   rw[this];clear kx js a8 gN this;simp[kj];exact cH
  ·obtain⟨y,bs,gO⟩:=h0 aD;obtain⟨kx,js,tS⟩:=av;have pe:=E1 bs;have sw:=EZ (l:=g.gs) (i+1);have cU:bk ((i:Int)+1):=by unfold bk;omega
   have xD:bk (room-n):=by unfold bk;omega
   have ky:=a8 y (gL bs) (room-n) Ω;by_cases iX:y.shape=true/\(y.sz:Int)<=room-n
   ·rw[ua iX.1 iX.2]at ky;have xw:bk (n+y.sz):=by unfold bk;omega
    have b4:¬(y.sz:Int)<0:=Ω
    have kp:uC g room (i+1) (n+y.sz):=⟨by rw[pe];omega,js.step bs iX.1,Ω⟩;clear kx js a8 gN pe sw bs;simp[kj,aD,gO];(with_reducible repeat' first|refine aK ?_|refine bq ky ?_|refine br ky ?_|simp[aD,gO,cU,xD,xw,b4]);refine cQ.rng (n+y.sz) aD kp (by simp[kj];exact dQ)
   ·have eZ:ja y (room-n)= -1:=bh iX;rw[eZ]at ky;have:ja g room= -1:=by
     unfold ja;rw[bh];rintro⟨g1,g2⟩;refine iX ⟨?_,?_⟩
     ·rw[gN,kd]at g1;exact g1 y (gL bs)
     ·rw[qh]at g2;omega
    rw[this];clear kx js a8 gN pe sw bs iX eZ this;simp[kj,aD,gO];exact cH
 ·obtain⟨x,ad,Rj⟩:=ba J;clear aJ ba dR;(with_reducible repeat' first|refine aK ?_|refine bq b8 ?_|refine br b8 ?_|simp[h,pn,J,aU,aa,ad,Rj,-oh]);refine iy (kj g room) g.gs.length (uC g room) 1 (by simp[kj];exact⟨by simp[fresh,kinL,kin,cA,aI,Pv.look,ad],fh (by simp[fresh,kinL,kin,cA,aI,Pv.look,ad]),fi (by simp[fresh,kinL,kin,eD,aI,Pv.look,ad]),Ψ⟩) ⟨Ψ,fun k b J=>Ω,Ω⟩ (fun n av _=>?_) (fun i n aD av _=>?_)
  ·obtain⟨kx,js,tS⟩:=av;rw[ld]at kx;have:ja g room=n:=by rw[ua (by rw[gN];exact js.fin) (by rw[qh];omega),qh];omega
   rw[this];clear kx js a8 gN this;simp[kj];exact cH
  ·obtain⟨y,bs,gO⟩:=h0 aD;obtain⟨kx,js,tS⟩:=av;have pe:=E1 bs;have sw:=EZ (l:=g.gs) (i+1);have cU:bk ((i:Int)+1):=by unfold bk;omega
   have xD:bk (room-n):=by unfold bk;omega
   have ky:=a8 y (gL bs) (room-n) Ω;by_cases iX:y.shape=true/\(y.sz:Int)<=room-n
   ·rw[ua iX.1 iX.2]at ky;have xw:bk (n+y.sz):=by unfold bk;omega
    have b4:¬(y.sz:Int)<0:=Ω
    have kp:uC g room (i+1) (n+y.sz):=⟨by rw[pe];omega,js.step bs iX.1,Ω⟩;clear kx js a8 gN pe sw bs;simp[kj,aD,gO];(with_reducible repeat' first|refine aK ?_|refine bq ky ?_|refine br ky ?_|simp[aD,gO,cU,xD,xw,b4]);refine cQ.rng (n+y.sz) aD kp (by simp[kj];exact dQ)
   ·have eZ:ja y (room-n)= -1:=bh iX;rw[eZ]at ky;have:ja g room= -1:=by
     unfold ja;rw[bh];rintro⟨g1,g2⟩;refine iX ⟨?_,?_⟩
     ·rw[gN,kd]at g1;exact g1 y (gL bs)
     ·rw[qh]at g2;omega
    rw[this];clear kx js a8 gN pe sw bs iX eZ this;simp[kj,aD,gO];exact cH
theorem Uu:∀(n:Nat) (g:Gm),g.sz<=n->∀room:Int,-1000<=room/\room<=1000->ca aP 34 [g.e,.int .i64 room] (.int .i64 (ja g room)):=by
 intro n;induction n with
 |zero=>intro g aL;have:=g.sz_pos;omega
 |succ n a8=>
 intro g aL room hr;by_cases h:room<1
 ·rw[Sb (by have:=g.sz_pos;omega)];exact PF g h
 cases au:g.ts.all aZ.fits
 ·rw[sE (by rw[nB,au];rfl)];exact PK g h au
 have leaf:∀ao:g.gs=[]\/g.shape=false,ja g room=if g.shape then 1 else-1:=by
  intro ao;cases gN:g.shape
  ·rw[sE gN];rfl
  ·rw[gN]at ao;have ao:g.gs=[]:=by simpa using ao
   have I:g.sz=1:=by rw[qh,ao];rfl
   rw[ua gN Ω,I];rfl
 rcases RE g.kind with J|J|J|J|J|J|J|J|J|J|J|J;case inr.inr.inr.inr.inr.inr.inr.inr.inr.inr.inr=>rw[sE (by rw[nB,bh Ω,bh Ω,bh Ω,bh Ω,Bool.and_false])];exact PJ g h J
 case inr.inr.inr.inr.inr.inr.inr.inr.inr.inl=>
  rw[leaf ?_]
  ·exact PC g h au J
  ·by_cases ao:g.gs=[]
   ·exact .inl ao
   ·right;rw[nB,au,J];have:g.gs.isEmpty=false:=by simpa using ao
    simp[this]
 case inr.inr.inr.inr.inr.inr.inr.inl|inr.inr.inr.inr.inr.inr.inr.inr.inl|inr.inr.inr.inr.inr.inr.inr.inr.inr.inr.inl=>
  have fS:g.kind=7\/g.kind=8\/g.kind=10:=Ω
  have gi:=nB g;rw[au,Bool.true_and,bh Ω,bh Ω]at gi;cases aU:g.name.isEmpty
  ·have gT:(g.name==[])=false:=by simpa using aU
   rw[sE (by rw[gi,gT];simp)];exact PG g h au fS aU
  have gT:(g.name==[])=true:=by simpa using aU
  by_cases aa:g.ts.length=0;rotate_left
  ·have qC:g.ts.isEmpty=false:=by simpa using aa
   rw[sE (by rw[gi,qC];simp)];exact PL g h au fS aU aa
  have qC:g.ts.isEmpty=true:=by simpa using aa
  rw[gT,qC,Bool.true_and]at gi;have I1:∀x∈g.gs,∀r:Int,-1000<=r/\r<=1000->ca aP 34 [x.e,.int .i64 r] (.int .i64 (ja x r)):=fun x ad r hr=>a8 x (by have:=g.gs_lt ad;omega) r hr;by_cases e5:g.kind=10
  ·rw[bh Ω,if_pos e5,Bool.true_and]at gi;by_cases aJ:g.gs.length=1
   ·obtain⟨x,ad⟩:=List.length_eq_one_iff.1 aJ;by_cases gC:x.kind=9
    ·exact H4 g h hr.2 au fS aU aa (fun e=>absurd e5 e) (fun _=>⟨x,ad,gC⟩) (by rw[gi,ad];simp[gC]) I1
    ·rw[sE (by rw[gi,ad];simp[gC])];exact PI g h au e5 aU aa ad gC
   ·rw[sE (by
     rw[gi];match aL:g.gs with
     |[]=>rfl
     |[x]=>rw[aL]at aJ;simp at aJ
     |x::y::l=>rfl)]
    exact PH g h au e5 aU aa aJ
  ·have tA:g.kind=7\/g.kind=8:=Ω
   rw[if_pos tA,Bool.true_and]at gi;by_cases aJ:g.gs.length<=8
   ·exact H4 g h hr.2 au fS aU aa (fun _=>aJ) (fun e=>absurd e e5) (by rw[gi,decide_eq_true aJ];rfl) I1
   ·rw[sE (by rw[gi,decide_eq_false aJ];rfl)];exact PE g h au tA aU aa aJ
 all_goals
  rw[leaf ?_]
  ·exact PD g h au Ω
  ·by_cases ao:g.gs=[]
   ·exact .inl ao
   ·right;rw[nB,au,J]
    have:g.gs.isEmpty=false:=by simpa using ao
    simp[this]
theorem Um(g:Gm):ca aP 16 [g.e] (.bool (g.fits 80)):=by
 have ct:=Uu g.sz g (cx _) 80 Ω;have af:decide ((0:Int)<ja g 80)=g.fits 80:=by
  unfold ja Gm.fits;have:=g.sz_pos;by_cases h:g.shape=true/\(g.sz:Int)<=80
  ·rw[if_pos h,h.1];simp;omega
  ·rw[bh h];cases ao:g.shape
   ·rfl
   ·rw[ao]at h;simp at h⊢;omega
 refine bZ mL OG Sn fun aT=>?_;unfold Gb;clear aT;exact cH
theorem Uo(t:T):ca aP 33 [t.e] (.bool t.fit):=by have:=LJ t.tm;rwa[tp,aZ.fits_T]at this
theorem Uy(a b:T):ca aP 54 [a.e,b.e] (T.pair a b).e:=by refine bZ sY O4 SM fun aT=>?_;unfold GB;simp;(with_reducible repeat' first|((first|refine dY (fun h=>?_) fun h=>?_|refine ed (fun h=>?_) fun h=>?_|refine ec (fun h=>?_) fun h=>?_)<;>try simp at h)|refine aK ?_|simp);all_goals try simp[cC,KC,bd,bo,a6]
def JF(l:List (Int×T)):List ab:=mF (l.map fun x=>(x.1,x.2.e))
@[simp]theorem XE:JF []=mF []:=rfl
@[simp]theorem X2(l:List (Int×T)):fp (JF l)=false:=rfl
end
end Go.Proofs.YtlnndmgfngfeiaaDoor
namespace Go.Proofs
section
open Go.Shelf
end
end Go.Proofs

namespace Go.Proofs.YtlnndmgfngfeiaaDoor
section
open Go Go.Pv
def Rs(xs:List Int):List ab:=xs.map (ab.int .i64)
def F1(l:List Int):List ab:=mF (l.map fun x=>(x,.bool true))
@[simp]theorem Vv:F1 []=mF []:=rfl
@[simp]theorem X1(l:List Int):fp (F1 l)=false:=rfl
def _root_.Go.Pv.T.fold{α:Type}(f:Int->α->α):T->α->α
 | .var n,a=>f n a
 | .pair x y,a=>y.fold f (x.fold f a)
 |_,a=>a
@[simp]theorem W8:Rs []=[]:=rfl
@[simp]theorem V2:cells .junk=[.junk]:=rfl
theorem ES{g:Gm}(h:g.shape=true):∀t∈g.ts,t.fits=true:=by rw[nB,bD]at h;exact fun t au=>kd.1 h.1 t au
theorem shape_gs{g:Gm}(h:g.shape=true):∀x∈g.gs,x.shape=true:=by
 rw[nB,bD]at h;obtain⟨_,h⟩:=h;intro x ad;have no:g.gs.isEmpty=false:=by
  cases aL:g.gs with
  |nil=>rw[aL]at ad;cases ad
  |cons=>rfl
 rw[no]at h;repeat' split at h
 all_goals simp at h
 ·exact h.2 x ad
 ·exact h.2 x ad
end
end Go.Proofs.YtlnndmgfngfeiaaDoor
namespace Go.Pv
section
open Go Go.RowKit
mutual
theorem DK{S:aq->Prop}:∀p:ab,kin S p->∃l:List aq,(∀k∈l,S k)/\kin (fun k=>k∈l) p
 | .junk,_=>⟨[],Ψ,by simp[kin]⟩
 | .int _ _,_=>⟨[],Ψ,by simp[kin]⟩
 | .bool _,_=>⟨[],Ψ,by simp[kin]⟩
 | .str _,_=>⟨[],Ψ,by simp[kin]⟩
 | .slice sz tag xs,h=>by
  simp only[kin]at h;obtain⟨l,I,aa⟩:=vw xs h.2;have hm:kinL (fun k=>k∈l) xs->∀k,kinL (fun j=>j∈k::l) xs:=fun bn k=>lv (fun _ h=>List.mem_cons_of_mem _ h) xs bn;cases tag with
  |no=>exact⟨l,I,by simp only[kin];exact⟨trivial,aa⟩⟩
  |nil=>exact⟨l,I,by simp only[kin];exact⟨trivial,aa⟩⟩
  |own k=>exact⟨k::l,by rintro j av;rcases gZ.1 av with rfl|av;exact h.1;exact I _ av,by simp only[kin];exact⟨Ψ,hm aa k⟩⟩
  |tr k j=>exact⟨k::l,by rintro j av;rcases gZ.1 av with rfl|av;exact h.1;exact I _ av,by simp only[kin];exact⟨Ψ,hm aa k⟩⟩
  |lo k=>exact⟨k::l,by rintro j av;rcases gZ.1 av with rfl|av;exact h.1;exact I _ av,by simp only[kin];exact⟨Ψ,hm aa k⟩⟩
 | .agg cs,h=>by simp only[kin]at h⊢;exact vw cs h
 | .ptr k _,h=>⟨[k],by simpa[kin]using h,by simp[kin]⟩
 | .eptr x,h=>by simp only[kin]at h⊢;exact DK x h
 | .iface _ x,h=>by simp only[kin]at h⊢;exact DK x h
 | .nilp,_=>⟨[],Ψ,by simp[kin]⟩
 | .tuple vs,h=>by simp only[kin]at h⊢;exact vw vs h
 | .func _ cP,h=>by simp only[kin]at h⊢;exact vw cP h
 | .gmap k,h=>⟨[k],by simpa[kin]using h,by simp[kin]⟩
 | .row _ k _,h=>⟨[k],by simpa[kin]using h,by simp[kin]⟩
 | .rptr _ k _ _ _,h=>⟨[k],by simpa[kin]using h,by simp[kin]⟩
 | .hdm _ _,_=>⟨[],Ψ,by simp[kin]⟩
 | .hdi _ _ _,_=>⟨[],Ψ,by simp[kin]⟩
 | .cst _,_=>⟨[],Ψ,by simp[kin]⟩
theorem vw{S:aq->Prop}:∀aX:List ab,kinL S aX->∃l:List aq,(∀k∈l,S k)/\kinL (fun k=>k∈l) aX
 |[],_=>⟨[],Ψ,by simp[kinL]⟩
 |p::aX,h=>by simp only[kinL]at h;obtain⟨fx,I,aa⟩:=DK p h.1;obtain⟨fV,ak,aJ⟩:=vw aX h.2;exact⟨fx++fV,by intro k J;rcases hp.1 J with J|J;exact I k J;exact ak k J,by simp only[kinL];exact⟨mC (fun _ h=>kf _ h) p aa,lv (fun _ h=>iw _ h) aX aJ⟩⟩
end
def s4(cz:List cG)(t:List (Nat×ab))(d:aR Nat)(K:aM->Prop)(e:Exit)(s:aM):Prop:=
 (e= .ret\/e= .normal)/\match bd s cz with
  |some (c,aX)=>c/\K ⟨eB d (a6 aX) t,s.b,s.e,s.n,s.o⟩
  |none=>cv
theorem Tx{w:World}{ν:aC}:∀{aX:List ab} {gV:List Value},bT w ν aX gV->aw w ν (a6 aX) (if h:gV.toArray.size=1 then gV.toArray[0]else .tuple gV.toArray)
 |[p],gV,h=>by simp only[bT]at h;obtain⟨u,a1,rfl,aE,rfl⟩:=h;simpa[a6]using aE
 |[],gV,h=>by simp only[bT]at h;subst h;simp[a6,aw,bT]
 |p::gH::aX,gV,h=>by
  have aB:=q9 h;match gV,h,aB with
  |v::v2::gV,h,_=>rw[dif_neg Ψ];simp only[a6,aw];exact⟨_,rfl,by simpa using h⟩
  |[],_,h=>simp at h
  |[_],_,h=>simp at h
theorem iP.of{P:bm}(hm:P.follows .mixedOrders=true){aQ:List (Nat×cm)}(au:dE P aQ=true){f:FuncId}{fn:Func}(aH:P.funcs[f]? =some fn){c:C}{cz:List cG}{n:Nat}(dI:dA aQ c cz n fn=true)
  {args:List ab} (aB:args.length<=n) {ob:List aq} {st:aM} {d:aR Nat} {K:aM->Prop} (t':List (Nat×ab)) (S:aq->Prop) (hL:∀k,S k->¬fresh st.n st.o k) (J:∀x∈t',get x.1 st.t=x.2/\kin S x.2)
  (he:∀pq,(∀k∈pq,S k\/k∈st.o\/k∈ob)->(∀k∈pq,¬fresh st.n st.o k)->(∀k∈st.o,k∈pq)->b6 P pq c (s4 cz t' d K) ⟨hg 0 args,st.b,st.e,st.n,pq⟩):iP P ob f args st d K:=by
 intro C a w ν vs zs hr ht aG;subst zs;unfold dA at dI;split at dI;rotate_left
 ·cases dI
 rename_i code af;simp only[bD,oF,fQ]at dI;obtain⟨⟨⟨aA,jn⟩,fL⟩,aU⟩:=dI;have qR:=q9 ht;have fv:vs.size=args.length:=by simpa using qR
 obtain⟨gj,IC,QU⟩:∃gj:List aq,(∀k∈gj,S k)/\∀x∈t',kin (fun k=>k∈gj) x.2:=by
  have Qx:∀l:List (Nat×ab),(∀x∈l,kin S x.2)->kinL S (l.map (·.2)):=by
   intro l aB;induction l with
   |nil=>simp[kinL]
   |cons x r a8=>simp only[ig,kinL];exact⟨aB x Ψ,a8 fun y bs=>aB y (by simp[bs])⟩
  obtain⟨gj,I,aa⟩:=vw _ (Qx t' fun x ad=>(J x ad).2);refine⟨gj,I,fun x ad=>?_⟩;have:∀l:List ab,kinL (fun k=>k∈gj) l->∀p∈l,kin (fun k=>k∈gj) p:=by
   intro l aB;induction l with
   |nil=>simp
   |cons y r a8=>simp only[kinL]at aB;intro p aV;rcases gZ.1 aV with rfl|aV;exact aB.1;exact a8 aB.2 p aV
  exact this _ aa _ (lE.2 ⟨x,ad,rfl⟩)
 let ob:List aq:=gj++(st.o++C.ob)
 have iE:∀k∈ob,¬fresh st.n st.o k:=by
  intro k J;rcases hp.1 J with J|J
  ·exact hL k (IC k J)
  rcases hp.1 J with J|J
  ·exact fun h=>h.2 J
  ·exact hr.obk k J
 have hex:∀x∈(t'.map fun x=>(x.2,a.tmps.getD x.1 undef))++C.ex,aw w ν x.1 x.2/\kin (fun k=>k∈ob) x.1:=by
  intro x ad;rcases hp.1 ad with ad|ad
  ·obtain⟨y,bs,rfl⟩:=lE.1 ad;exact⟨by have:=hr.slot y.1;rw[(J y bs).1]at this;exact this,mC (fun _ h=>kf _ h) _ (QU y bs)⟩
  ·obtain⟨I,aa⟩:=hr.ext x ad;exact⟨I,mC (fun _ h=>iw _ (iw _ h)) _ aa⟩
 let X:db:=⟨C.w0,C.ν0,C.mt,fn.ntmps,ob,C.gl,(t'.map fun x=>(x.2,a.tmps.getD x.1 undef))++C.ex⟩
 have vf:∀m,.obj m∉st.o->fresh st.n st.o (.obj m):=fun m h=>⟨trivial,h⟩;have ks:mh X w ν:=⟨hr.fr.os,hr.fr.tape,hr.fr.output,hr.fr.size,hr.fr.block,hr.fr.keep,hr.fr.fresh,hr.fr.obj,fun m b h=>iw _ (iw _ (hr.fr.obn m b h)),hr.fr.row,fun m k u h=>iw _ (iw _ (hr.fr.obr m k u h)),hr.fr.trd,hr.fr.trb,hr.fr.trn,hr.fr.sh,hr.fr.nrow⟩;have kX:bK X ⟨hg 0 args,st.b,st.e,st.n,ob⟩ {tmps:=vs++nG (fn.ntmps-vs.size) undef,defers:=[]} w ν:=by
  refine⟨hr.good,ks,rfl,?_,fun i=>?_,fun k J=>hr.new k (n3 (cx _) (fun _ h=>iw _ (kf _ h)) J),hex,fun m hm aH=>aH.2 hm⟩
  ·show(vs++nG (fn.ntmps-vs.size) undef).size=fn.ntmps;simp;omega
  ·rw[u1];by_cases aD:i<args.length
   ·rw[if_pos Ω];have lX:args[i]? =some args[i]:=eo aD;obtain⟨v,ai,aE⟩:=v8 i ht lX;have aY:(vs++nG (fn.ntmps-vs.size) undef).getD i undef=v:=by
     have kM:vs[i]? =some v:=by simpa using ai
     rw[l8,Array.getElem?_append_left Ω,kM];rfl
    show aw w ν _ ((vs++nG (fn.ntmps-vs.size) undef).getD i undef);rw[aY];simpa[List.getD,lX]using aE
   ·rw[bh Ω];simp[aw]
 have xO:=lj hm au (X:=X) c code (s4 cz t' d K) ⟨hg 0 args,st.b,st.e,st.n,ob⟩ aA (he ob (fun k J=>(hp.1 J).imp (IC k) fun h=>hp.1 h) iE fun k J=>iw _ (kf _ J)) _ w ν kX;refine .inl ⟨⟨fn,aH,by simp[af],fL⟩,?_⟩;refine calls_of_wp aH af (wp_mono xO fun e bG w' bn=>?_);obtain⟨st',ν',⟨iA,bj⟩,bJ⟩:=bn;cases gf:bd st' cz with
 |none=>simp[gf]at bj
 |some x=>
  obtain⟨fX,aX⟩:=x;simp only[gf]at bj;obtain⟨lS,cb⟩:=bj;obtain⟨gV,g1,g2⟩:=yj au bJ cz fn.results.toList fX aX jn gf lS;have kT:bG.defers=[]/\∃v,(results fn bG.tmps).run P w'= .ok v w'/\(fun(e:Ending) w'=> ∃v st' ν',e= .returned v/\K st'/\bK C st' (a.put d v) w' ν') (.returned v) w':=by
   refine⟨bJ.defers,?_⟩;have fu:(results fn bG.tmps).run P w'= .ok (if h:gV.toArray.size=1 then gV.toArray[0]else .tuple gV.toArray) w':=by rw[EF];simp only[dW,Array.mapM_eq_mapM_toList,Sem.run_map,g1,ea,eN]
   refine⟨_,fu,_,_,ν',rfl,cb,?_⟩;have mv:=bJ.fr;have bR:bK C ⟨t',st'.b,st'.e,st'.n,st'.o⟩ a w' ν':=by
    refine⟨bJ.good,⟨mv.os,mv.tape,mv.output,mv.size,mv.block,mv.keep,mv.fresh,mv.obj,hr.fr.obn,mv.row,hr.fr.obr,mv.trd,mv.trb,mv.trn,mv.sh,mv.nrow⟩,hr.defers,hr.size,fun i=>?_,bJ.new,fun x ad=>⟨(bJ.ext x (iw _ ad)).1,(hr.ext x ad).2⟩,fun m hm=>bJ.obk m (iw _ (iw _ hm))⟩;rcases Cp i t' with av|av
    ·simp only;rw[av];simp[aw]
    ·exact(bJ.ext _ (kf _ (lE.2 ⟨_,av,rfl⟩))).1
   exact bR.put aG (Tx g2)
  rcases iA with rfl|rfl<;>exact kT
end
end Go.Pv
namespace Go.Pv
open Go Go.RowKit
end Go.Pv
namespace Go.Proofs
open Go.Shelf Go.RowKit
variable {P:bm} {Bq:Ren}
end Go.Proofs
namespace Go.Proofs
section
open Go.Shelf
def Tryd.laysM171_ren:Go.Shelf.Ren:=⟨fun|171=>57|243=>62|246=>68|283=>72|284=>73|285=>74|286=>75|129=>79|317=>78|318=>80|319=>81|320=>82|337=>83|338=>84|n=>n,fun|3=>3|9=>9|2=>2|4=>4|171=>93|0=>0|53=>85|37=>72|5=>5|173=>96|212=>105|51=>106|20=>20|213=>107|46=>88|232=>111|233=>112|n=>n,fun|17=>2|18=>3|19=>4|n=>n⟩
theorem Tryd.laysM171:Go.Proofs.LaysM.n171 aP Tryd.laysM171_ren:={
 mixed:=by kernel_rfl
 f129:=Tryd.func79.trans (eV some (by kernel_rfl))
 f171:=Tryd.func57.trans (eV some (by kernel_rfl))
 f243:=Tryd.func62.trans (eV some (by kernel_rfl))
 f246:=Tryd.func68.trans (eV some (by kernel_rfl))
 f283:=Tryd.func72.trans (eV some (by kernel_rfl))
 f284:=Tryd.func73.trans (eV some (by kernel_rfl))
 f285:=Tryd.func74.trans (eV some (by kernel_rfl))
 f286:=Tryd.func75.trans (eV some (by kernel_rfl))
 f317:=Tryd.func78.trans (eV some (by kernel_rfl))
 f318:=Tryd.func80.trans (eV some (by kernel_rfl))
 f319:=Tryd.func81.trans (eV some (by kernel_rfl))
 f320:=Tryd.func82.trans (eV some (by kernel_rfl))
 f337:=Tryd.func83.trans (eV some (by kernel_rfl))
 f338:=Tryd.func84.trans (eV some (by kernel_rfl))
 t0:=Tryd.underlying0
 a0:=Tryd.isAgg0
 z0:=Tryd.sizeOf0
 v0:=Tryd.zeroValue0
 t2:=Tryd.underlying2
 a2:=Tryd.isAgg2
 z2:=Tryd.sizeOf2
 v2:=Tryd.zeroValue2
 t3:=Tryd.underlying3
 a3:=Tryd.isAgg3
 z3:=Tryd.sizeOf3
 v3:=Tryd.zeroValue3
 t4:=Tryd.underlying4
 a4:=Tryd.isAgg4
 z4:=Tryd.sizeOf4
 v4:=Tryd.zeroValue4
 t5:=Tryd.underlying5
 a5:=Tryd.isAgg5
 z5:=Tryd.sizeOf5
 v5:=Tryd.zeroValue5
 t9:=Tryd.underlying9
 a9:=Tryd.isAgg9
 z9:=Tryd.sizeOf9
 v9:=Tryd.zeroValue9
 t20:=Tryd.underlying20
 a20:=Tryd.isAgg20
 z20:=Tryd.sizeOf20
 v20:=Tryd.zeroValue20
 t37:=Tryd.underlying72
 a37:=Tryd.isAgg72
 z37:=Tryd.sizeOf72
 v37:=Tryd.zeroValue72
 t46:=Tryd.underlying88
 a46:=Tryd.isAgg88
 z46:=Tryd.sizeOf88
 v46:=Tryd.zeroValue88
 t51:=Tryd.underlying106
 a51:=Tryd.isAgg106
 z51:=Tryd.sizeOf106
 v51:=Tryd.zeroValue106
 t53:=Tryd.underlying85
 a53:=Tryd.isAgg85
 z53:=Tryd.sizeOf85
 v53:=Tryd.zeroValue85
 t171:=Tryd.underlying93
 a171:=Tryd.isAgg93
 z171:=Tryd.sizeOf93
 v171:=Tryd.zeroValue93
 t173:=Tryd.underlying96
 a173:=Tryd.isAgg96
 z173:=Tryd.sizeOf96
 v173:=Tryd.zeroValue96
 t212:=Tryd.underlying105
 a212:=Tryd.isAgg105
 z212:=Tryd.sizeOf105
 v212:=Tryd.zeroValue105
 t213:=Tryd.underlying107
 a213:=Tryd.isAgg107
 z213:=Tryd.sizeOf107
 t232:=Tryd.underlying111
 a232:=Tryd.isAgg111
 z232:=Tryd.sizeOf111
 v232:=Tryd.zeroValue111
 t233:=Tryd.underlying112
 a233:=Tryd.isAgg112
 z233:=Tryd.sizeOf112
 v233:=Tryd.zeroValue112
 g17:=by kernel_rfl
 g18:=by kernel_rfl
 g19:=by kernel_rfl
 i0:=by kernel_rfl
 i2:=by kernel_rfl
 i3:=by kernel_rfl
 i4:=by kernel_rfl
 i5:=by kernel_rfl
 i9:=by kernel_rfl
 i20:=by kernel_rfl
 i37:=by kernel_rfl
 i46:=by kernel_rfl
 i51:=by kernel_rfl
 i53:=by kernel_rfl
 i171:=by kernel_rfl
 i173:=by kernel_rfl
 i212:=by kernel_rfl
 i232:=by kernel_rfl
 i233:=by kernel_rfl
 m17:=by kernel_rfl
 m18:=by kernel_rfl
 m19:=by kernel_rfl}
def Tryd.laysC172_ren:Go.Shelf.Ren:=⟨fun|172=>56|244=>60|245=>61|247=>63|279=>64|280=>65|281=>66|282=>67|287=>69|316=>70|171=>57|205=>71|321=>76|322=>77|243=>62|246=>68|283=>72|284=>73|285=>74|286=>75|129=>79|317=>78|318=>80|319=>81|320=>82|337=>83|338=>84|n=>n,fun|9=>9|3=>3|75=>74|76=>75|4=>4|5=>5|167=>78|37=>72|0=>0|85=>79|2=>2|168=>81|53=>85|175=>86|46=>88|210=>91|127=>99|145=>102|143=>100|21=>21|171=>93|173=>96|212=>105|51=>106|20=>20|213=>107|232=>111|233=>112|80=>54|n=>n,fun|15=>0|16=>1|17=>2|18=>3|19=>4|n=>n⟩
theorem Tryd.laysC172:Go.Proofs.LaysC.n172 aP Tryd.laysC172_ren:={
 mixed:=by kernel_rfl
 f129:=Tryd.func79.trans (eV some (by kernel_rfl))
 f171:=Tryd.func57.trans (eV some (by kernel_rfl))
 f172:=Tryd.func56.trans (eV some (by kernel_rfl))
 f205:=Tryd.func71.trans (eV some (by kernel_rfl))
 f243:=Tryd.func62.trans (eV some (by kernel_rfl))
 f244:=Tryd.func60.trans (eV some (by kernel_rfl))
 f245:=Tryd.func61.trans (eV some (by kernel_rfl))
 f246:=Tryd.func68.trans (eV some (by kernel_rfl))
 f247:=Tryd.func63.trans (eV some (by kernel_rfl))
 f279:=Tryd.func64.trans (eV some (by kernel_rfl))
 f280:=Tryd.func65.trans (eV some (by kernel_rfl))
 f281:=Tryd.func66.trans (eV some (by kernel_rfl))
 f282:=Tryd.func67.trans (eV some (by kernel_rfl))
 f283:=Tryd.func72.trans (eV some (by kernel_rfl))
 f284:=Tryd.func73.trans (eV some (by kernel_rfl))
 f285:=Tryd.func74.trans (eV some (by kernel_rfl))
 f286:=Tryd.func75.trans (eV some (by kernel_rfl))
 f287:=Tryd.func69.trans (eV some (by kernel_rfl))
 f316:=Tryd.func70.trans (eV some (by kernel_rfl))
 f317:=Tryd.func78.trans (eV some (by kernel_rfl))
 f318:=Tryd.func80.trans (eV some (by kernel_rfl))
 f319:=Tryd.func81.trans (eV some (by kernel_rfl))
 f320:=Tryd.func82.trans (eV some (by kernel_rfl))
 f321:=Tryd.func76.trans (eV some (by kernel_rfl))
 f322:=Tryd.func77.trans (eV some (by kernel_rfl))
 f337:=Tryd.func83.trans (eV some (by kernel_rfl))
 f338:=Tryd.func84.trans (eV some (by kernel_rfl))
 t0:=Tryd.underlying0
 a0:=Tryd.isAgg0
 z0:=Tryd.sizeOf0
 v0:=Tryd.zeroValue0
 t2:=Tryd.underlying2
 a2:=Tryd.isAgg2
 z2:=Tryd.sizeOf2
 v2:=Tryd.zeroValue2
 t3:=Tryd.underlying3
 a3:=Tryd.isAgg3
 z3:=Tryd.sizeOf3
 v3:=Tryd.zeroValue3
 t4:=Tryd.underlying4
 a4:=Tryd.isAgg4
 z4:=Tryd.sizeOf4
 v4:=Tryd.zeroValue4
 t5:=Tryd.underlying5
 a5:=Tryd.isAgg5
 z5:=Tryd.sizeOf5
 v5:=Tryd.zeroValue5
 t9:=Tryd.underlying9
 a9:=Tryd.isAgg9
 z9:=Tryd.sizeOf9
 v9:=Tryd.zeroValue9
 t20:=Tryd.underlying20
 a20:=Tryd.isAgg20
 z20:=Tryd.sizeOf20
 v20:=Tryd.zeroValue20
 t21:=Tryd.underlying21
 a21:=Tryd.isAgg21
 z21:=Tryd.sizeOf21
 v21:=Tryd.zeroValue21
 t37:=Tryd.underlying72
 a37:=Tryd.isAgg72
 z37:=Tryd.sizeOf72
 v37:=Tryd.zeroValue72
 t46:=Tryd.underlying88
 a46:=Tryd.isAgg88
 z46:=Tryd.sizeOf88
 v46:=Tryd.zeroValue88
 t51:=Tryd.underlying106
 a51:=Tryd.isAgg106
 z51:=Tryd.sizeOf106
 v51:=Tryd.zeroValue106
 t53:=Tryd.underlying85
 a53:=Tryd.isAgg85
 z53:=Tryd.sizeOf85
 v53:=Tryd.zeroValue85
 t75:=Tryd.underlying74
 a75:=Tryd.isAgg74
 z75:=Tryd.sizeOf74
 v75:=Tryd.zeroValue74
 t76:=Tryd.underlying75
 a76:=Tryd.isAgg75
 z76:=Tryd.sizeOf75
 v76:=Tryd.zeroValue75
 t85:=Tryd.underlying79
 a85:=Tryd.isAgg79
 z85:=Tryd.sizeOf79
 v85:=Tryd.zeroValue79
 t127:=Tryd.underlying99
 a127:=Tryd.isAgg99
 z127:=Tryd.sizeOf99
 v127:=Tryd.zeroValue99
 t143:=Tryd.underlying100
 a143:=Tryd.isAgg100
 z143:=Tryd.sizeOf100
 v143:=Tryd.zeroValue100
 t145:=Tryd.underlying102
 a145:=Tryd.isAgg102
 z145:=Tryd.sizeOf102
 v145:=Tryd.zeroValue102
 t167:=Tryd.underlying78
 a167:=Tryd.isAgg78
 z167:=Tryd.sizeOf78
 v167:=Tryd.zeroValue78
 t168:=Tryd.underlying81
 a168:=Tryd.isAgg81
 z168:=Tryd.sizeOf81
 v168:=Tryd.zeroValue81
 t171:=Tryd.underlying93
 a171:=Tryd.isAgg93
 z171:=Tryd.sizeOf93
 v171:=Tryd.zeroValue93
 t173:=Tryd.underlying96
 a173:=Tryd.isAgg96
 z173:=Tryd.sizeOf96
 v173:=Tryd.zeroValue96
 t175:=Tryd.underlying86
 a175:=Tryd.isAgg86
 z175:=Tryd.sizeOf86
 v175:=Tryd.zeroValue86
 t210:=Tryd.underlying91
 a210:=Tryd.isAgg91
 z210:=Tryd.sizeOf91
 v210:=Tryd.zeroValue91
 t212:=Tryd.underlying105
 a212:=Tryd.isAgg105
 z212:=Tryd.sizeOf105
 v212:=Tryd.zeroValue105
 t213:=Tryd.underlying107
 a213:=Tryd.isAgg107
 z213:=Tryd.sizeOf107
 t232:=Tryd.underlying111
 a232:=Tryd.isAgg111
 z232:=Tryd.sizeOf111
 v232:=Tryd.zeroValue111
 t233:=Tryd.underlying112
 a233:=Tryd.isAgg112
 z233:=Tryd.sizeOf112
 v233:=Tryd.zeroValue112
 g15:=by kernel_rfl
 g16:=by kernel_rfl
 g17:=by kernel_rfl
 g18:=by kernel_rfl
 g19:=by kernel_rfl
 t80:=Tryd.underlying54
 a80:=Tryd.isAgg54
 z80:=Tryd.sizeOf54
 v80:=Tryd.zeroValue54
 i0:=by kernel_rfl
 i2:=by kernel_rfl
 i3:=by kernel_rfl
 i4:=by kernel_rfl
 i5:=by kernel_rfl
 i9:=by kernel_rfl
 i20:=by kernel_rfl
 i21:=by kernel_rfl
 i37:=by kernel_rfl
 i46:=by kernel_rfl
 i51:=by kernel_rfl
 i53:=by kernel_rfl
 i75:=by kernel_rfl
 i76:=by kernel_rfl
 i80:=by kernel_rfl
 i85:=by kernel_rfl
 i127:=by kernel_rfl
 i143:=by kernel_rfl
 i145:=by kernel_rfl
 i167:=by kernel_rfl
 i168:=by kernel_rfl
 i171:=by kernel_rfl
 i173:=by kernel_rfl
 i175:=by kernel_rfl
 i210:=by kernel_rfl
 i212:=by kernel_rfl
 i232:=by kernel_rfl
 i233:=by kernel_rfl
 m15:=by kernel_rfl
 m16:=by kernel_rfl
 m17:=by kernel_rfl
 m18:=by kernel_rfl
 m19:=by kernel_rfl
 c0:=by kernel_rfl
 c2:=by kernel_rfl
 c3:=by kernel_rfl
 c4:=by kernel_rfl
 c5:=by kernel_rfl
 c9:=by kernel_rfl
 c20:=by kernel_rfl
 c21:=by kernel_rfl
 c37:=by kernel_rfl
 c46:=by kernel_rfl
 c51:=by kernel_rfl
 c53:=by kernel_rfl
 c75:=by kernel_rfl
 c76:=by kernel_rfl
 c80:=by kernel_rfl
 c85:=by kernel_rfl
 c127:=by kernel_rfl
 c143:=by kernel_rfl
 c145:=by kernel_rfl
 c167:=by kernel_rfl
 c168:=by kernel_rfl
 c171:=by kernel_rfl
 c173:=by kernel_rfl
 c175:=by kernel_rfl
 c210:=by kernel_rfl
 c212:=by kernel_rfl
 c213:=by kernel_rfl
 c232:=by kernel_rfl
 c233:=by kernel_rfl}
end
end Go.Proofs
namespace Go.Proofs.YtlnndmgfngfeiaaDoor
section
open Go Go.Pv
def BH:C:=(al [rD 2 1,bQ 3 false] (.seq (al [ae 9 0,a7 10 (.slen (.t 9)),bc 11 .gtr 10 100000] (be 11 (al [rD 2 1,bQ 3 false] .ret) .skip)) (.seq (al [cF 4 0] (.block 0 (.loop (.seq (al [ae 12 4,ae 13 0,a7 14 (.slen (.t 13)),c6 15 .lss 12 14] (be 15 .skip (.exit 0))) (.seq (.block 1 (al [ae 18 0,ae 19 4,a7 20 (.sidx (.t 18) (.t 19)),a7 21 (.bin .neq false (.t 20) (.c (.int .u8 10))),ae 22 21,b7 22 true 23 0,b7 22 true 24 4,aO 22 true (a7 25 (.sidx (.t 23) (.t 24))),aO 22 true (a7 26 (.bin .lss false (.t 25) (.c (.int .u8 32)))),b7 22 true 27 26,b7 27 false 28 0,b7 27 false 29 4,aO 27 false (a7 30 (.sidx (.t 28) (.t 29))),aO 27 false (a7 31 (.bin .gtr false (.t 30) (.c (.int .u8 126)))),aO 22 true (dD 32 27 31),ff 33 22 32] (be 33 (al [rD 2 1,bQ 3 false] .ret) .skip))) (.region [ae 16 4,bc 17 .add 16 1,ae 4 17])))))) (al [jd 34 1 9 [],ae 5 34] (.seq (al [cF 6 0] (.block 2 (.loop (.seq (al [ae 35 6,ae 36 0,a7 37 (.slen (.t 36)),c6 38 .lss 35 37] (be 38 .skip (.exit 2))) (.block 3 (al [ae 39 0,ae 40 6,a7 41 (.sidx (.t 39) (.t 40)),ae 7 41] (.block 4 (al [ae 88 7,a7 89 (.bin .eql false (.t 88) (.c (.int .u8 32))),ae 90 89,b7 90 false 91 7,aO 90 false (a7 92 (.bin .eql false (.t 91) (.c (.int .u8 10)))),dD 93 90 92,ae 87 93] (be 87 (.region [ae 94 6,bc 95 .add 94 1,ae 6 95]) (al [ae 97 7,a7 98 (.bin .eql false (.t 97) (.c (.int .u8 59))),ae 96 98] (be 96 (.block 7 (.loop (.seq (al [ae 99 6,ae 100 0,a7 101 (.slen (.t 100)),c6 102 .lss 99 101,ae 103 102,b7 103 true 104 0,b7 103 true 105 6,aO 103 true (a7 106 (.sidx (.t 104) (.t 105))),aO 103 true (a7 107 (.bin .neq false (.t 106) (.c (.int .u8 10)))),ff 108 103 107] (be 108 .skip (.exit 7))) (.block 8 (.region [ae 109 6,bc 110 .add 109 1,ae 6 110]))))) (al [ae 112 7,a7 113 (.bin .eql false (.t 112) (.c (.int .u8 40))),ae 114 113,b7 114 false 115 7,aO 114 false (a7 116 (.bin .eql false (.t 115) (.c (.int .u8 41)))),dD 117 114 116,ae 111 117] (be 111 (al [ae 118 5,ae 119 0,ae 120 6,ae 121 6,bc 122 .add 121 1,a7 123 (.ssl (.t 119) (some (.t 120)) (some (.t 122))),jd 124 1 9 [.t 123],qn 125 1 9 118 124,ae 5 125] (.region [ae 126 6,bc 127 .add 126 1,ae 6 127])) (al [ae 42 6,ae 8 42] (.seq (.block 5 (.loop (.seq (al (ae 43 8::ae 44 0::a7 45 (.slen (.t 44))::c6 46 .lss 43 45::ae 47 46::b7 47 true 48 0::b7 47 true 49 8::aO 47 true (a7 50 (.sidx (.t 48) (.t 49)))::aO 47 true (a7 51 (.bin .neq false (.t 50) (.c (.int .u8 32))))::ff 52 47 51::ae 53 52::b7 53 true 54 0::b7 53 true 55 8::aO 53 true (a7 56 (.sidx (.t 54) (.t 55)))::aO 53 true (a7 57 (.bin .neq false (.t 56) (.c (.int .u8 10))))::ff 58 53 57::ae 59 58::b7 59 true 60 0::b7 59 true 61 8::aO 59 true (a7 62 (.sidx (.t 60) (.t 61)))::aO 59 true (a7 63 (.bin .neq false (.t 62) (.c (.int .u8 40))))::ff 64 59 63::ae 65 64::b7 65 true 66 0::b7 65 true 67 8::aO 65 true (a7 68 (.sidx (.t 66) (.t 67)))::aO 65 true (a7 69 (.bin .neq false (.t 68) (.c (.int .u8 41))))::ff 70 65 69::ae 71 70::b7 71 true 72 0::b7 71 true 73 8::aO 71 true (a7 74 (.sidx (.t 72) (.t 73)))::aO 71 true (a7 75 (.bin .neq false (.t 74) (.c (.int .u8 59))))::ff 76 71 75::[]) (be 76 .skip (.exit 5))) (.block 6 (.region [ae 77 8,bc 78 .add 77 1,ae 8 78]))))) (al [ae 79 5,ae 80 0,ae 81 6,ae 82 8,a7 83 (.ssl (.t 80) (some (.t 81)) (some (.t 82))),jd 84 1 9 [.t 83],qn 85 1 9 79 84,ae 5 85] (.region [ae 86 8,ae 6 86]))))))))))))))))) (.seq (al [ae 128 5,ee 129 128,bc 130 .gtr 129 20000] (be 130 (al [rD 2 1,bQ 3 false] .ret) .skip)) (al [ae 131 5,ae 2 131,bQ 3 true] .ret)))))))
@[simp] def vT:List cG:=[.tmp 2,.tmp 3]
def wR:C:=(al [cF 2 0,bQ 3 false] (al [ae 7 0,ef 8 56 7,ae 6 8,eI 9 0 6,eI 10 1 6,ae 4 9,ae 5 10] (.seq (al [ae 11 5,a7 12 (.isn true (.t 11)),ae 13 12,b7 13 false 14 4,aO 13 false (ef 15 57 14),b7 13 false 16 0,aO 13 false (c6 17 .neq 15 16),dD 18 13 17] (be 18 (al [cF 2 0,bQ 3 false] .ret) .skip)) (al [ae 19 4,ae 2 19,bQ 3 true] .ret))))
@[simp] def Kq:List cG:=[.tmp 2,.tmp 3]
def Gl:C:=(al [hZ 2 dO] (al [ae 3 0,kE 4 dO [(0,1,(cO 1)),(1,1,(.t 3))],bY 4 2 4] .ret))
@[simp] def Tg:List cG:=[.cell 2 true 4]
def Gh:C:=(al [hZ 2 dO] (al [ae 3 0,kE 4 dO [(0,1,(cO 2)),(2,1,(.t 3))],bY 4 2 4] .ret))
@[simp] def Tb:List cG:=[.cell 2 true 4]
def Gg:C:=(al [hZ 2 dO] (al [ae 3 0,kE 4 dO [(0,1,(cO 3)),(1,1,(.t 3))],bY 4 2 4] .ret))
@[simp] def S9:List cG:=[.cell 2 true 4]
def wv:List (Nat×cm):=[
 (3,⟨1,8,.int .i64,.int .i64 0⟩),
 (9,⟨1,16,.str,.str []⟩),
 (22,⟨1,24,.slice 51,.slice 4 .nil []⟩),
 (31,⟨1,24,.slice 9,.slice 1 .nil []⟩),
 (51,⟨4,56,.struct [(0,3),(1,3),(2,9),(3,22)],.agg [.int .i64 0,.int .i64 0,.str [],.slice 4 .nil []]⟩),
 (74,⟨1,16,.iface,.junk⟩)]
theorem rq:dE aP wv=true:=by kernel_rfl
theorem J5:dA wv BH vT 1 Tryd.f12=true:=by kernel_rfl
theorem Hk:aP.funcs[(12:Nat)]? =some Tryd.f12:=Tryd.func12
theorem AA:dA wv wR Kq 1 Tryd.f44=true:=by kernel_rfl
theorem ze:aP.funcs[(44:Nat)]? =some Tryd.f44:=Tryd.func44
theorem Sy:dA wv Gl Tg 1 Tryd.f45=true:=by kernel_rfl
theorem OQ:aP.funcs[(45:Nat)]? =some Tryd.f45:=Tryd.func45
theorem Su:dA wv Gh Tb 1 Tryd.f46=true:=by kernel_rfl
theorem OM:aP.funcs[(46:Nat)]? =some Tryd.f46:=Tryd.func46
theorem St:dA wv Gg S9 1 Tryd.f47=true:=by kernel_rfl
theorem OL:aP.funcs[(47:Nat)]? =some Tryd.f47:=Tryd.func47
theorem ca.sem{f:FuncId}{fn:Func}(aH:aP.funcs[f]? =some fn)(af:fn.body.isSome=true)(aU:(fn.name== "runtime.NumGoroutine")=false){args:List ab}{r:ab}(hr:kin (fun _=>cv) r)
  (h:∀(w:World) (ν:aC) (vs:Array Value),lG w ν->(∀b o,ν.A b o->b<w.heap.size)->bT w ν args vs.toList->Calls aP f vs w fun e w'=> ∃v,e= .returned v/\(∀ν',(∀b o,ν.A b o->ν'.A b o)->aw w' ν' r v)/\w.grownBy w' none):ca aP f args r:=by
 refine c8.sem oi fun w ν vs gl fv kX=>?_;have ht:bT w ν args vs.toList:=by
  have eZ:args.length=vs.toList.length:=by simpa using fv.symm
  have:∀(l:List ab) (us:List Value),l.length=us.length->(∀i p,l[i]? =some p->aw w ν p (us.getD i undef))->bT w ν l us:=by
   intro l;induction l with
   |nil=>intro us h _;cases us<;>simp at h⊢;simp[bT]
   |cons p l a8=>
    intro us h aD;cases us with
    |nil=>simp at h
    |cons u us=>simp only[bT];exact⟨u,us,rfl,by simpa using aD 0 p rfl,a8 us (by simpa using h) fun i q bj=>by simpa using aD (i+1) q (by simpa using bj)⟩
  refine this _ _ eZ fun i p aV=>?_;have ao:=kX.slot i;have aD:=(gp.1 aV).1;rw[u1,if_pos Ω]at ao;have:args.getD i .junk=p:=by simp[List.getD,aV]
  simp only[Nat.sub_zero,this]at ao;simpa[l8]using ao
 refine .inl ⟨⟨fn,aH,af,aU⟩,(h w ν vs gl kX.good.alt ht).mono ?_⟩;rintro e w' ⟨v,rfl,aY,aL⟩;exact⟨v,_,_,ν,r,⟨[],[]⟩,rfl,kX.grown aL,aY ν fun _ _ h=>h,trivial,trivial,fun k cs J=>by simp[Pv.look]at J,fun k cs J=>by simp[Pv.look]at J,oi,mC (fun _ h=>h.elim) _ hr,rfl,rfl⟩
theorem Rx{n:Int}(h:bk n):(Lib.itoa n).length<=b0:=by unfold bk at h;have:=Lib.itoa_length_le n Ω Ω;unfold b0;omega
theorem PM(w:World)(k:Nat)(os:Array Obj):w.grownBy (Sort.grow (w.drewN k) os) none:=⟨rfl,rfl,rfl,Ψ,fun j av _=>Sort.heap_grow_old _ _ av⟩
theorem Cq{w w':World}(h:RowKit.Below w.heap.size w w'):w.grownBy w' none:=⟨h.os,h.tape,h.output,h.size,fun k J _=>h.block k J⟩
theorem H3(i:Nat)(aD:i<20):(2,i,20,fun v=>v=Value.int .u64 ((10 ^ i:Nat):Int))∈r1:=by unfold r1;exact kf _ (lE.2 ⟨i,List.mem_range.2 aD,rfl⟩)
theorem T7{w:World}{ν:aC}(h:lG w ν):Lib.TabIs aP w "internal/strconv.uint64pow10" .u64 Lib.pow10Tab:=by
 have aL:aP.globalNamed "internal/strconv.uint64pow10" =some 2:=by kernel_rfl
 obtain⟨_,_,el,gN⟩:=h _ (H3 0 Ω);unfold Lib.TabIs;simp only[World.var?,aL,Option.bind_some];unfold Pv.shape at gN;simp only at gN;split at gN
 ·rename_i cur dL fz hw;rw[hw];simp only[dp,hQ]at gN;simp only[dp];apply Array.ext
  ·simp[gN.1,Lib.pow10Tab]
  ·intro i I aa;obtain⟨_,⟨v,aY,aV⟩,_⟩:=h _ (H3 i Ω);simp only at aY aV;subst aV;have aA:cur[i]? =some (Value.int .u64 ((10 ^ i:Nat):Int)):=by simpa[World.cell?,hw]using aY
   rw[l9 I]at aA;rw[iL aA];simp[Lib.pow10Tab]
 ·cases gN
theorem Un(n:Int)(h:bk n):ca aP 57 [.int .i64 n] (.str (Lib.itoa n)):=by
 refine ca.sem Tryd.func57 (by kernel_rfl) (by kernel_rfl) (by simp[kin]) fun w ν vs gl aN ht=>?_;simp only[bT,aw]at ht;obtain⟨v,us,b1,rfl,rfl⟩:=ht;have fv:vs= #[.int .i64 n]:=by rw[<-Array.toList_inj];simpa using b1
 subst fv;unfold bk at h;refine(Any.strconv_Itoa Tryd.laysM171 n Ω Ω w (T7 gl)).mono ?_;rintro e w' ⟨rfl,k,os,rfl⟩;exact⟨_,rfl,fun ν' _=>by simp only[aw];exact⟨trivial,Rx (by unfold bk;omega)⟩,PM w k os⟩
def s9(s:List az):ab:=match Lib.atoiAll s with
 | .ok v=>.tuple [.int .i64 v,.cst .nilIface]
 | .range=>.tuple [.int .i64 (Lib.atoiSat s),.iface (Tryd.laysC172_ren.t 168) .junk]
 |_=>.tuple [.int .i64 0,.iface (Tryd.laysC172_ren.t 168) .junk]
theorem Uk(s:List az)(aB:s.length<=b0):ca aP 56 [.str s] (s9 s):=by
 have J:kin (fun _=>cv) (s9 s):=by unfold s9;split<;>simp[kin,kinL]
 refine ca.sem Tryd.func56 (by kernel_rfl) (by kernel_rfl) J fun w ν vs gl aN ht=>?_;simp only[bT,aw]at ht;obtain⟨v,us,b1,⟨rfl,_⟩,rfl⟩:=ht;have fv:vs= #[.string ⟨s.toArray⟩]:=by rw[<-Array.toList_inj];simpa using b1
 subst fv;have eZ:(⟨s.toArray⟩:ic).size=s.length:=by simp[FE]
 unfold b0 at aB;obtain⟨_,⟨ai,CI,YF,XZ,rfl⟩,_⟩:=gl (0,0,1,fun v=> ∃t p,v= .iface t p) (by unfold r1;simp);obtain⟨_,⟨aE,CJ,YG,X0,rfl⟩,_⟩:=gl (1,0,1,fun v=> ∃t p,v= .iface t p) (by unfold r1;simp);rcases h:Lib.atoiAll s with v|_|_
 ·refine(Any.strconv_Atoi_ok Tryd.laysC172 ⟨s.toArray⟩ Ω v (by simpa using h) w).mono ?_;rintro e w' ⟨rfl,hw⟩;refine⟨_,rfl,fun ν' _=>?_,?_⟩
  ·unfold s9;rw[h];simp only[aw,bT];exact⟨_,rfl,_,_,rfl,rfl,_,_,rfl,rfl,rfl⟩
  ·rcases hw with rfl|⟨t,rfl⟩
   ·exact⟨rfl,rfl,rfl,cx _,fun _ _ _=>rfl⟩
   ·exact Cq (Lib.bytesWorld_below _ _ _)
 ·refine(Any.strconv_Atoi_syntax Tryd.laysC172 ⟨s.toArray⟩ Ω (by simpa using h) _ w CI (.inr ⟨_,_,rfl⟩)).mono ?_;rintro e w' ⟨N,rfl,_,_,af⟩;exact⟨_,rfl,fun ν' _=>by unfold s9;rw[h];simp only[aw,bT];exact⟨_,rfl,_,_,rfl,rfl,_,_,rfl,⟨_,rfl,trivial⟩,rfl⟩,Cq af⟩
 ·refine(Any.strconv_Atoi_range Tryd.laysC172 ⟨s.toArray⟩ Ω (by simpa using h) _ w CJ (.inr ⟨_,_,rfl⟩)).mono ?_;rintro e w' ⟨N,rfl,_,_,af⟩;exact⟨_,rfl,fun ν' _=>by unfold s9;rw[h];simp only[aw,bT];exact⟨_,rfl,_,_,rfl,rfl,_,_,rfl,⟨_,rfl,trivial⟩,rfl⟩,Cq af⟩
end
end Go.Proofs.YtlnndmgfngfeiaaDoor
namespace Go.Pv
section
open Go Go.Lib
def Fp(n:Int):List az:=63::itoa n
def Mf(ns:List (List az))(w:List az):List (List az):=if w∈ns then ns else ns++[w]
def By:T->List (List az)->List (List az)
 | .var n,ns=>Mf ns (Fp n)
 | .pair a b,ns=>By b (By a ns)
 |_,ns=>ns
def Et(ms:List (List az)):T->T
 | .var n=>.var (ms.idxOf (Fp n))
 | .pair a b=>.pair (Et ms a) (Et ms b)
 |t=>t
open Classical in
noncomputable def Me(t:aZ)(ns:List (List az)):List (List az):=if h:∃x:T,x.tm=t then By (Classical.choose h) ns else ns
open Classical in
noncomputable def Tv(ms:List (List az))(t:aZ):aZ:=if h:∃x:T,x.tm=t then(Et ms (Classical.choose h)).tm else t
noncomputable def FU:List aZ->List (List az)->List (List az)
 |[],ns=>ns
 |x::xs,ns=>FU xs (Me x ns)
mutual
noncomputable def FR:Gm->List (List az)->List (List az)
 | .mk _ _ t g,ns=>FT g (FU t ns)
noncomputable def FT:List Gm->List (List az)->List (List az)
 |[],ns=>ns
 |x::xs,ns=>FT xs (FR x ns)
end
mutual
noncomputable def KH(ms:List (List az)):Gm->Gm
 | .mk k s t g=>.mk k s (t.map (Tv ms)) (KI ms g)
noncomputable def KI(ms:List (List az)):List Gm->List Gm
 |[]=>[]
 |x::xs=>KH ms x::KI ms xs
end
def Kn:Nat->Nat->List (List az)
 |_,0=>[]
 |k,n+1=>Fp k::Kn (k+1) n
noncomputable def Lm(a:Nat)(body:Gm):List (List az):=FR body (Kn 0 a)
noncomputable def oJ.num(x:oJ):oJ:=⟨x.name,x.ar,(Lm x.ar.toNat x.body).length-x.ar,KH (Lm x.ar.toNat x.body) x.body⟩
end
section
open Go
def T.ap(FD:Int->T):T->T
 | .var n=>FD n
 | .pair a b=>.pair (a.ap FD) (b.ap FD)
 |t=>t
def TN(s:List hR)(v:Int):T:=(Mr s v).getD (.var v)
abbrev FF(s:List hR):Prop:=s.Pairwise fun x y=>x.v<y.v
def one(v:Int)(x:T)(w:Int):T:=if w=v then x else .var w
def Lo{α:Type}(k:Int):List (Int×α)->aR α
 |[]=>none
 |(i,v)::r=>if k=i then some v else Lo k r
def Lw{α:Type}(k:Int)(v:α):List (Int×α)->List (Int×α)
 |[]=>[(k,v)]
 |(i,w)::r=>if k=i then(i,v)::r else(i,w)::Lw k v r
structure rF where
 up:List (Int×Int)
 shape:List (Int×T)
 shaped:List (Int×Bool)
 color:List (Int×Int)
 size:List (Int×Int)
 full:List (Int×T)
def rF.sz(c:rF)(x:Int):Int:=(Lo x c.size).getD 0
def rF.join(c:rF)(x y:Int):rF:={c with up:=Lw y x c.up}
end
section
open Go
section
variable {Kh:Int->aR T} {Bq:Int->Int} {r:Int->Nat}
end
section
variable {c:rF} {Bq:Int->Int} {x y:Int}
end
end
section
open Go
def cut(n:Nat):Int:=if 5001<(n:Int)then 5001 else n
section
variable {V:List Int} {Kh:Int->aR T} {Bq:Int->Int} {r:Int->Nat}
end
end
section
open Go
def rF.new:rF:=⟨[],[],[],[],[],[]⟩
section
variable {V:List Int} {Kh:Int->aR T} {Bq:Int->Int} {r:Int->Nat}
end
end
section
open Go
end
section
open Go Go.Lib
theorem Sa{s:List az}(h:gU s=true):s.length<=12:=by obtain⟨c,r,rfl,_,_,ak⟩:=J0 h;simp;omega
structure FG (s t:List hR):Prop where
 sa:FF s
 sv:∀b∈s,4<=b.v/\b.v<8
 so:∀b∈s,b.t.ok=true/\b.t.size<=16/\∀w,b.t.occ w=true->0<=w/\w<4
 ta:FF t
 tk:∃k:Int,∀b∈t,0<=b.v/\b.v<4/\k<=b.v/\∀w,b.t.occ w=true->0<=w/\w<k
 to:∀b∈t,b.t.ok=true/\b.t.size<=16
def Bz(t:List hR)(b:hR):hR:=⟨b.v,b.t.ap (TN t)⟩
section
variable {s t:List hR} (h:FG s t)
include h
end
section
variable {s t:List hR} (h:FG s t)
include h
end
end
end Go.Pv
namespace Go.Proofs.YtlnndmgfngfeiaaDoor
section
open Go Go.Pv
def dw(l:List (List az)):List ab:=l.map ab.str
@[simp]theorem RM(S:aq->Prop)(l:List (List az)):kinL S (dw l)=True:=by
 apply eq_true;induction l with
 |nil=>simp[dw,kinL]
 |cons x r a8=>simp only[dw,ig,kinL,kin]at a8⊢;exact⟨trivial,a8⟩
@[simp]theorem YB(l:List (List az)):bF (dw l)=dw l:=by
 induction l with
 |nil=>rfl
 |cons x r a8=>simp only[dw,ig,bF,bC]at a8⊢;rw[a8]
@[simp]theorem YE(l:List (List az)):(dw l).length=l.length:=by simp[dw]
theorem qf{l:List (List az)}{i:Nat}(h:i<l.length):∀cD,(dw l)[i]'cD= .str l[i]:=fun _=>by simp[dw]
theorem c7(S:aq->Prop):∀a b:List ab,kinL S (a++b)=(kinL S a/\kinL S b)
 |[],b=>by simp[kinL]
 |x::a,b=>by simp only[eP,kinL,c7 S a b,and_assoc]
mutual
def _root_.Go.Pv.Gm.w:Gm->Nat
 | .mk _ _ t g=>1+aZ.szL t+pZ g
def pZ:List Gm->Nat
 |[]=>0
 |x::xs=>x.w+pZ xs
end
theorem K8{g:Gm}(h:g.shape=true):g.name.length<=12:=by
 rw[nB,bD]at h;obtain⟨_,h⟩:=h;split at h
 ·simp at h;rw[h.1.1.1];simp
 ·split at h
  ·simp at h;have:=h.1.1;unfold h6 at this;rw[bD]at this;exact Sa this.2
  ·split at h
   ·simp at h;rw[h.1.1.1];simp
   ·split at h
    ·simp at h;rw[h.1.1.1];simp
    ·cases h
theorem dB(S:aq->Prop)(l:List (List az)):kinL S (l.map ab.str)=True:=RM S l
mutual
def ia:ab->Nat
 | .int _ _=>1
 | .str _=>1
 | .slice _ _ xs=>k8 xs
 | .agg cs=>k8 cs
 |_=>0
def k8:List ab->Nat
 |[]=>0
 |x::xs=>ia x+k8 xs
end
mutual
theorem R3(b2:Int->List az):∀(p:ab) (k:Int),(cK b2 p k).2=k+ia p
 | .int _ _,k=>by simp[cK,ia]
 | .str _,k=>by simp[cK,ia]
 | .slice _ _ xs,k=>by simp only[cK,ia];exact xY b2 xs k
 | .agg cs,k=>by simp only[cK,ia];exact xY b2 cs k
 | .bool _,k=>by simp[cK,ia]
 | .junk,k=>by simp[cK,ia]
 | .ptr _ _,k=>by simp[cK,ia]
 | .eptr _,k=>by simp[cK,ia]
 | .iface _ _,k=>by simp[cK,ia]
 | .nilp,k=>by simp[cK,ia]
 | .tuple _,k=>by simp[cK,ia]
 | .func _ _,k=>by simp[cK,ia]
 | .gmap _,k=>by simp[cK,ia]
 | .row _ _ _,k=>by simp[cK,ia]
 | .rptr _ _ _ _ _,k=>by simp[cK,ia]
 | .hdm _ _,k=>by simp[cK,ia]
 | .hdi _ _ _,k=>by simp[cK,ia]
 | .cst _,k=>by simp[cK,ia]
theorem xY(b2:Int->List az):∀(aX:List ab) (k:Int),(bf b2 aX k).2=k+k8 aX
 |[],k=>by simp[bf,k8]
 |x::xs,k=>by simp only[bf,k8];rw[xY b2 xs,R3 b2 x];omega
end
mutual
theorem US:∀t:aZ,ia (enc t)=3*t.sz
 | .mk k n s a=>by simp only[enc,ia,k8,aZ.sz,Ft a];omega
theorem Ft:∀l:List aZ,k8 (jY l)=3*aZ.szL l
 |[]=>rfl
 |x::xs=>by simp only[jY,k8,aZ.szL,US x,Ft xs];omega
end
mutual
theorem I4:∀t:aZ,gR (enc t)
 | .mk k n s a=>by simp only[enc];exact .mk k n s (jY a) fun y bs=>I5 a y bs
theorem I5:∀(l:List aZ),∀y∈jY l,gR y
 |[],y,h=>by simp[jY]at h
 |x::xs,y,h=>by
  simp only[jY,gZ]at h;rcases h with rfl|h
  ·exact I4 x
  ·exact I5 xs y h
end
theorem Dv{l:List aZ}:∀y∈l.map enc,gR y:=fun y bs=>by obtain⟨t,_,rfl⟩:=lE.1 bs;exact I4 t
mutual
theorem I3:∀g:Gm,hI (nb g)
 | .mk k s t g=>by simp only[nb];exact .mk k s (t.map enc) (ko g) Dv fun y bs=>I2 g y bs
theorem I2:∀(l:List Gm),∀y∈ko l,hI y
 |[],y,h=>by simp[ko]at h
 |x::xs,y,h=>by
  simp only[ko,gZ]at h;rcases h with rfl|h
  ·exact I3 x
  ·exact I2 xs y h
end
theorem Du{l:List Gm}:∀y∈l.map Gm.e,hI y:=fun y bs=>by obtain⟨g,_,rfl⟩:=lE.1 bs;exact I3 g
mutual
theorem LU:∀g:Gm,ia (nb g)<=3*g.w
 | .mk k s t g=>by have I:=LV g;have aa:=Ft t;rw[uP]at aa;simp only[nb,ia,k8,Gm.w,aa];omega
theorem LV:∀l:List Gm,k8 (ko l)<=3*pZ l
 |[]=>by simp[ko,k8,pZ]
 |x::xs=>by have I:=LU x;have aa:=LV xs;simp only[ko,k8,pZ];omega
end
theorem Pe{t:aZ}(h:t.fits=true):t.sz<=5000:=by
 obtain⟨x,rfl,aa⟩:=aZ.fits_ex h;have e:x.tm.sz=x.size:=by
  clear aa h;induction x with
  |pair a b Dr Ds=>simp[T.tm,aZ.sz,aZ.szL,T.size,Dr,Ds];omega
  |_=>rfl
 unfold T.fit at aa;simp only[bD,fQ]at aa;omega
theorem Lg:∀{l:List aZ},(∀t∈l,t.fits=true)->aZ.szL l<=5000*l.length
 |[],_=>by simp[aZ.szL]
 |t::l,h=>by have I:=Pe (h t Ψ);have aa:=Lg (l:=l) fun x ad=>h x (by simp[ad]);simp only[aZ.szL,mc];omega
theorem TT{g:Gm}(h:g.shape=true):g.ts.length<=4:=by
 rw[nB,bD]at h;obtain⟨_,h⟩:=h;split at h
 ·simp at h;have aa:=h.1.2;unfold kB at aa;repeat' split at aa
  all_goals omega
 ·split at h
  ·simp at h;exact h.2
  ·split at h
   ·simp at h;rw[h.1.1.2];simp
   ·split at h
    ·simp at h;rw[h.1.1.2];simp
    ·simp at h
theorem Sc{g:Gm}(h:g.shape=true)(aU:iY g.kind=false):g.gs=[]:=by
 rw[nB,bD]at h;obtain⟨_,h⟩:=h;simp[iY]at aU;split at h
 ·simp at h;exact h.1.1.2
 ·split at h
  ·simp at h;exact h.1.2
  ·split at h
   ·omega
   ·split at h
    ·omega
    ·simp at h
mutual
theorem K9:∀g:Gm,g.shape=true->g.w<=20001*g.sz
 | .mk k s t gs,h=>by
  have I:=TT h;have aa:=Lg (l:=t) (ES h);have ak:pZ gs<=20001*mo gs:=by
   by_cases aU:iY k=true
   ·exact La gs fun x ad=>_root_.Go.Pv.shape_gs h aU x ad
   ·have:gs=[]:=Sc (g:= .mk k s t gs) h (Bool.eq_false_iff.2 aU);subst this;simp[pZ]
  simp only[Gm.ts]at I;simp only[Gm.w,Gm.sz];omega
theorem La:∀l:List Gm,(∀x∈l,x.shape=true)->pZ l<=20001*mo l
 |[],_=>by simp[pZ]
 |x::xs,h=>by have I:=K9 x (h x Ψ);have aa:=La xs fun y bs=>h y (by simp[bs]);simp only[pZ,mo];omega
end
theorem Pf{g:Gm}{n:Nat}(h:g.fits n=true):k8 (g.ts.map enc)+k8 (g.gs.map Gm.e)+2<=60003*n:=by unfold Gm.fits at h;simp only[bD,fQ]at h;have I:=LU g;have aa:=K9 g h.1;have e:nb g=g.e:=rfl;rw[e,Gm.e_eq]at I;simp only[ia,k8]at I;omega
@[simp]theorem XB(n:Nat):(aq.loc n=dj)=cv:=eq_false (nu n)
@[simp]theorem X7(n:Nat):(dj=aq.loc n)=cv:=eq_false fun h=>nu n h.symm
@[simp]theorem XC(m b n:Nat):(aq.loc m∈yx b n)=cv:=eq_false fun h=>by obtain⟨_,e,_⟩:=JK.1 h;cases e
theorem _root_.Go.Pv.CallDo.tree{P:bm}{n:Nat}{args:List ab}{st:aM}{d:aR Nat}{K:aM->Prop}{ε:Nat->Nat}{b:Nat}{p l3 nA:ab}(aG:bN p)(aA:bu l3=bu p)
  (aH:c8 P n args (dy ε b p) fun cr aj=>cr=nA/\aj=dy ε b l3) (he:st.e=cL ε b p) (J:kinL (rng b (b+bu p)) args) (h:K ⟨eB d nA st.t,st.b,cL ε b l3,st.n,st.o++ds (dy ε b l3)⟩):CallDo P n args st d K:=by
 refine CallDo.ob aH (nR aG) (fun k cs J=>by simp[Pv.look]at J) (fun k o J=>by rw[he];exact J) (lv (fun k J=>(yK k).2 J) _ J) ?_;rintro cr aj ⟨rfl,rfl⟩;refine⟨rL aA,?_⟩;rw[he,Fs,wA];simpa using h
mutual
theorem Nl:∀t:aZ,bN (enc t)
 | .mk k n s a=>by simp only[enc,bN,Pv.dtL,true_and,and_true];exact⟨Ω,B1 a⟩
theorem B1:∀l:List aZ,Pv.dtL (jY l)
 |[]=>trivial
 |x::xs=>⟨Nl x,B1 xs⟩
end
@[simp]theorem Wc(l:List aZ):Pv.dtL (l.map enc)=True:=by rw[<-uP];exact eq_true (B1 l)
@[simp]theorem Wd(l:List Gm):Pv.dtL (l.map Gm.e)=True:=eq_true (hI.dtL Du)
def AE(o:aR Int):ab:= .tuple [.int .i64 (o.getD 0),.bool o.isSome]
theorem LI(s:List az)(aB:s.length<=b0):ca aP 44 [.str s] (AE (gQ s)):=by
 have e0:=Uk s aB;unfold s9 at e0;unfold gQ AE;rcases h:Lib.atoiAll s with v|_|_
 ·rw[h]at e0;obtain⟨Mp,bO⟩:=Lib.atoiAll_bounds h;have dU:=Un v (by unfold bk;omega);simp only at e0⊢;by_cases he:Lib.itoa v=s
  ·rw[if_pos he];rw[he]at dU;refine bZ rq ze AA fun aT=>?_;unfold wR;exact cH
  ·rw[bh he];refine bZ rq ze AA fun aT=>?_;unfold wR;simp;((with_reducible repeat' first|refine aK ?_|refine bq e0 ?_|refine br e0 ?_|refine bq dU ?_|refine br dU ?_|simp[he]|((first|apply dY|apply ed|apply ec)<;>intro h<;>try simp at h))<;>(try exact eM));simp[cC,Kq,bd,bo,a6]
 ·rw[h]at e0;simp only at e0⊢;refine bZ rq ze AA fun aT=>?_;unfold wR;exact cH
 ·rw[h]at e0;simp only at e0⊢;refine bZ rq ze AA fun aT=>?_;unfold wR;exact cH
theorem sZ(v:Int):ca aP 45 [.int .i64 v] (T.var v).e:=by refine bZ rq OQ Sy fun aT=>?_;unfold Gl;exact cH
theorem LO(g:List az):ca aP 46 [.str g] (T.sym g).e:=by refine bZ rq OM Su fun aT=>?_;unfold Gh;exact cH
theorem Bo(k:Int):ca aP 47 [.int .i64 k] (T.num k).e:=by refine bZ rq OL St fun aT=>?_;unfold Gg;exact cH
def yT:C:=(al [hZ 2 dO,bQ 3 false] (al [ae 7 0,ef 8 32 7,ae 6 8,eI 9 0 6,eI 10 1 6,hZ 4 dO,bY 4 4 9,ae 5 10] (.seq (al [ae 11 5,eK 12 11,ae 13 12,aO 13 false (dv 14 4 4),aO 13 false (ef 15 33 14),aO 13 false (eK 16 15),dD 17 13 16] (be 17 (al [kE 18 dO [],bY 4 2 18,bQ 3 false] .ret) .skip)) (al [dv 19 4 4,bY 4 2 19,bQ 3 true] .ret))))
@[simp] def Te:List cG:=[.cell 2 true 4,.tmp 3]
def Gj:C:=(al [bQ 2 false] (.seq (.drawn true 13 [ae 3 0,kF 4 3,bE 5 1 1 4,bB 6 1 5,ae 7 0,kF 8 7,bE 9 0 1 8,bB 10 1 9,ee 11 10,c6 12 .eql 6 11,ae 2 12]) .ret))
@[simp] def Ks:List cG:=[.tmp 2]
def wS:C:=(al [bQ 4 false] (.seq (.seq (.drawn false 28 [ae 5 0,ef 6 30 5,ae 7 1,c6 8 .eql 6 7,ae 9 8,b7 9 true 10 0,aO 9 true (kF 11 10),aO 9 true (bE 12 1 1 11),aO 9 true (a7 13 (.loadB false 1 (.t 12))),b7 9 true 14 0,aO 9 true (kF 15 14),aO 9 true (bE 16 0 1 15),aO 9 true (a7 17 (.loadB false 1 (.t 16))),aO 9 true (ee 18 17),aO 9 true (c6 19 .lss 13 18),ff 20 9 19]) (be 20 (al [ae 21 0,kF 22 21,bE 23 1 1 22,bB 24 1 23,bc 25 .add 24 1,kF 26 21,bE 27 1 1 26,bY 1 27 25] (al [bQ 4 true] .ret)) .skip)) (al [bQ 4 false] .ret)))
@[simp] def yc:List cG:=[.tmp 4]
def Gk:C:=(al [a7 2 (.mov (.c (.str [])))] (.seq (.seq (.drawn true 23 [ae 3 0,kF 4 3,bE 5 1 1 4,bB 6 1 5,ae 7 0,kF 8 7,bE 9 0 1 8,bB 10 1 9,ee 11 10,c6 12 .lss 6 11]) (be 12 (.seq (.drawn true 23 [ae 13 0,kF 14 13,bE 15 0 1 14,bB 16 1 15,ae 17 0,kF 18 17,bE 19 1 1 18,bB 20 1 19,eS 21 1 16 20,bB 22 1 21,ae 2 22]) .ret) .skip)) (al [a7 2 (.mov (.c (.str [])))] .ret)))
@[simp] def Ek:List cG:=[.tmp 2]
def yD:List (Nat×cm):=[
 (3,⟨1,8,.int .i64,.int .i64 0⟩),
 (9,⟨1,16,.str,.str []⟩),
 (22,⟨1,24,.slice 51,.slice 4 .nil []⟩),
 (31,⟨1,24,.slice 9,.slice 1 .nil []⟩),
 (39,⟨2,32,.struct [(0,31),(1,3)],.agg [.slice 1 .nil [],.int .i64 0]⟩),
 (51,⟨4,56,.struct [(0,3),(1,3),(2,9),(3,22)],.agg [.int .i64 0,.int .i64 0,.str [],.slice 4 .nil []]⟩)]
theorem rr:dE aP yD=true:=by kernel_rfl
theorem Ed:dA yD yT Te 1 Tryd.f14=true:=by kernel_rfl
theorem Ci:aP.funcs[(14:Nat)]? =some Tryd.f14:=Tryd.func14
theorem Sw:dA yD Gj Ks 1 Tryd.f15=true:=by kernel_rfl
theorem OO:aP.funcs[(15:Nat)]? =some Tryd.f15:=Tryd.func15
theorem AB:dA yD wS yc 2 Tryd.f29=true:=by kernel_rfl
theorem zf:aP.funcs[(29:Nat)]? =some Tryd.f29:=Tryd.func29
theorem Sx:dA yD Gk Ek 1 Tryd.f30=true:=by kernel_rfl
theorem OP:aP.funcs[(30:Nat)]? =some Tryd.f30:=Tryd.func30
theorem DS{α β:Type}(k:aq):∀{l:List (aq×α)} {fU:List (aq×β)},l.map (·.1)=fU.map (·.1)->(Pv.look k l).isSome=(Pv.look k fU).isSome
 |[],[],_=>rfl
 |[],_::_,h=>by simp at h
 |_::_,[],h=>by simp at h
 |(i,x)::r,(j,y)::cr,h=>by
  simp only[ig,U3]at h;simp only[Pv.look];obtain⟨rfl,h⟩:=h;split
  ·rfl
  ·exact DS k h
theorem _root_.Go.Pv.Same.keys{s aj:df}(af:s.b.map (·.1)=aj.b.map (·.1))(he:s.e.map (·.1)=aj.e.map (·.1)):Same s aj:=⟨fun k=>DS k af,fun k=>DS k he⟩
end
section
open Go Go.Pv
variable {ky:Nat}
def aF(ky:Nat):ab:= .ptr (.obj ky) 0
def ah(ky:Nat)(l:List (List az))(i:Nat):df:=⟨[(.obj ky,[.slice 1 .no (dw l),.int .i64 i])],[]⟩
theorem bp(l:List (List az))(i:Nat):jU (ah ky l i):=by unfold ah;exact jU.of ⟨by intro m;simp[Pv.look],by intro m;simp[Pv.look]⟩ (by simp[kinL,kin]) Ψ
theorem cg(l fU:List (List az))(i j:Nat):Same (ah ky l i) (ah ky fU j):=Same.keys (by simp[ah]) (by simp[ah])
section
variable (l:List (List az)) (i:Nat)
theorem HJ:c8 aP 15 [aF ky] (ah ky l i) fun r aj=>r= .bool ((i:Int)==l.length)/\aj=ah ky l i:=by have ao:=bp (ky:=ky) l i;simp only[ah]at ao⊢;refine c8.mk mixed rr OO Sw Ψ ao.obj fun aT dG=>?_;unfold Gj;simp[aF];refine eQ.at (ah ky l i) Ψ (bp _ _) (Same.refl _) (by simp only[ah];exact aS) (by simp only[ah];exact aS) ?_;simp[fG,Ks,bd,bo,a6,ah,aI,Pv.look,kin,kinL]
theorem Cn:c8 aP 30 [aF ky] (ah ky l i) fun r aj=>r= .str (l[i]?.getD [])/\aj=ah ky l i:=by
 have ao:=bp (ky:=ky) l i;simp only[ah]at ao⊢;refine c8.mk mixed rr OP Sx Ψ ao.obj fun aT dG=>?_;unfold Gk;simp[aF];by_cases h:i<l.length
 ·obtain⟨x,ad⟩:∃x,l[i]? =some x:=⟨_,eo h⟩;have zQ:∀h,(dw l)[i]'h= .str x:=fun cD=>by rw[qf h,eo h]at*;cases ad;rfl
  rw[ad];simp[h,zQ];refine eQ.at (ah ky l i) Ψ (bp _ _) (Same.refl _) (by simp only[ah];exact aS) (by simp only[ah];exact aS) ?_;simp[fG,Ek,bd,bo,a6,ah,aI,Pv.look,kin,kinL]
 ·rw[List.getElem?_eq_none Ω];simp[h];refine eQ.at (ah ky l i) Ψ (bp _ _) (Same.refl _) (by simp only[ah];exact aS) (by simp only[ah];exact aS) ?_;simp[fG,Ek,bd,bo,a6,ah,aI,Pv.look,kin,kinL]
theorem HQ(aD:i<=1000000)(s:List az):c8 aP 29 [aF ky,.str s] (ah ky l i) fun r aj=>r= .bool (decide (l[i]? =some s))/\aj=ah ky l (if l[i]? =some s then i+1 else i):=by
 have ao:=bp (ky:=ky) l i;have mD:=Cn (ky:=ky) l i;have cU:bk ((i:Int)+1):=by unfold bk;omega
 by_cases h:i<l.length
 ·obtain⟨x,ad⟩:∃x,l[i]? =some x:=⟨_,eo h⟩;rw[ad]at mD⊢;simp only[Option.getD]at mD;by_cases gu:x=s
  ·subst gu;simp only[if_true,decide_true,ah]at ao⊢;refine c8.mk mixed rr zf AB Ψ ao.obj fun aT dG=>?_;unfold wS;simp[aF];(refine mQ.ob (mD) (by first|exact bp _|exact bp ‹_› _) (by first|exact bp _|exact bp ‹_› _) (Same.keys (by simp[ah]) (by simp[ah])) (by simp only[ah,eP,fA];exact aS) (by simp only[ah,eP,fA];exact aS) (by simp[aI,Pv.look,ah]) ?_;simp[bA,ah]);((with_reducible repeat' first|refine aK ?_|simp[h,cU]|((first|apply dY|apply ed|apply ec)<;>intro h<;>try simp at h))<;>(try exact eM));refine eQ.at (ah ky l (i+1)) Ψ (bp _ _) (cg _ _ _ _) (by simp only[ah];exact aS) (by simp only[ah];exact aS) ?_;simp[fG,yc,bd,bo,a6,ah,aI,Pv.look,kin,kinL]
  ·have b5:¬(some x=some s):=by simpa using gu
   simp only[b5,if_false,decide_false,ah]at ao⊢;refine c8.mk mixed rr zf AB Ψ ao.obj fun aT dG=>?_;unfold wS;simp[aF];(refine mQ.ob (mD) (by first|exact bp _|exact bp ‹_› _) (by first|exact bp _|exact bp ‹_› _) (Same.keys (by simp[ah]) (by simp[ah])) (by simp only[ah,eP,fA];exact aS) (by simp only[ah,eP,fA];exact aS) (by simp[aI,Pv.look,ah]) ?_;simp[bA,ah]);((with_reducible repeat' first|refine aK ?_|simp[gu]|((first|apply dY|apply ed|apply ec)<;>intro h<;>try simp at h))<;>(try exact eM));refine eQ.at (ah ky l i) Ψ (bp _ _) (cg _ _ _ _) (by simp only[ah];exact aS) (by simp only[ah];exact aS) ?_;simp[fG,yc,bd,bo,a6,ah,aI,Pv.look,kin,kinL]
 ·rw[List.getElem?_eq_none Ω]at mD⊢;simp only[Option.getD]at mD;have b5:¬((none:aR (List az))=some s):=by simp
  simp only[b5,if_false,decide_false,ah]at ao⊢;cases s with
  |nil=>refine c8.mk mixed rr zf AB Ψ ao.obj fun aT dG=>?_;unfold wS;simp[aF];(refine mQ.ob (mD) (by first|exact bp _|exact bp ‹_› _) (by first|exact bp _|exact bp ‹_› _) (Same.keys (by simp[ah]) (by simp[ah])) (by simp only[ah,eP,fA];exact aS) (by simp only[ah,eP,fA];exact aS) (by simp[aI,Pv.look,ah]) ?_;simp[bA,ah]);((with_reducible repeat' first|refine aK ?_|simp[h]|((first|apply dY|apply ed|apply ec)<;>intro h<;>try simp at h))<;>(try exact eM));refine eQ.at (ah ky l i) Ψ (bp _ _) (cg _ _ _ _) (by simp only[ah];exact aS) (by simp only[ah];exact aS) ?_;simp[fG,yc,bd,bo,a6,ah,aI,Pv.look,kin,kinL]
  |cons c s=>refine c8.mk mixed rr zf AB Ψ ao.obj fun aT dG=>?_;unfold wS;simp[aF];(refine mQ.ob (mD) (by first|exact bp _|exact bp ‹_› _) (by first|exact bp _|exact bp ‹_› _) (Same.keys (by simp[ah]) (by simp[ah])) (by simp only[ah,eP,fA];exact aS) (by simp only[ah,eP,fA];exact aS) (by simp[aI,Pv.look,ah]) ?_;simp[bA,ah]);((with_reducible repeat' first|refine aK ?_|simp[h]|((first|apply dY|apply ed|apply ec)<;>intro h<;>try simp at h))<;>(try exact eM));refine eQ.at (ah ky l i) Ψ (bp _ _) (cg _ _ _ _) (by simp only[ah];exact aS) (by simp only[ah];exact aS) ?_;simp[fG,yc,bd,bo,a6,ah,aI,Pv.look,kin,kinL]
end
end
section
open Go Go.Pv
variable {ky:Nat}
theorem tl{l:List (List az)}{i:Nat}{w:List az}(h:l[i]? =some w):l.length-(l.drop (i+1)).length=i+1:=by have:=(gp.1 h).1;simp;omega
theorem nZ{l:List (List az)}{i:Nat}(h:i<l.length):c8 aP 15 [aF ky] (ah ky l i) fun r aj=>r= .bool false/\aj=ah ky l i:=by have:=HJ (ky:=ky) l i;rwa[show((i:Int)==l.length)=false by simp;omega]at this
theorem BY(l:List (List az)):c8 aP 15 [aF ky] (ah ky l l.length) fun r aj=>r= .bool true/\aj=ah ky l l.length:=by have:=HJ (ky:=ky) l l.length;rwa[beq_self_eq_true]at this
theorem lz{l:List (List az)}{i:Nat}{w:List az}(h:l[i]? =some w):c8 aP 30 [aF ky] (ah ky l i) fun r aj=>r= .str w/\aj=ah ky l i:=by have:=Cn (ky:=ky) l i;rwa[h]at this
end
section
open Go Go.Pv
variable {ky:Nat}
theorem qi{l:List (List az)}{i:Nat}{s:List az}(aD:i<=1000000)(h:l[i]? =some s):c8 aP 29 [aF ky,.str s] (ah ky l i) fun r aj=>r= .bool true/\aj=ah ky l (i+1):=by have:=HQ (ky:=ky) l i aD s;rwa[if_pos h,decide_eq_true h]at this
theorem j9{l:List (List az)}{i:Nat}{s:List az}(aD:i<=1000000)(h:l[i]?≠some s):c8 aP 29 [aF ky,.str s] (ah ky l i) fun r aj=>r= .bool false/\aj=ah ky l i:=by have:=HQ (ky:=ky) l i aD s;rwa[bh h,decide_eq_false h]at this
theorem S0(l:List (List az)):c8 aP 30 [aF ky] (ah ky l l.length) fun r aj=>r= .str []/\aj=ah ky l l.length:=by have:=Cn (ky:=ky) l l.length;rwa[List.getElem?_eq_none (cx _)]at this
theorem yk{l rest:List (List az)}{j:Nat}(h:rest<:+l.drop j):rest=l.drop (l.length-rest.length)/\rest.length<=l.length-j:=by have I:rest<:+l:=h.trans (List.drop_suffix j l);exact⟨(Nk I).symm,by have:=h.length_le;simpa using this⟩
end
section
open Go Go.Pv
def qy:C:=(al [hZ 2 dO,bQ 3 false] (.seq (al [ae 15 0,ef 16 15 15] (be 16 (al [kE 17 dO [],bY 4 2 17,bQ 3 false] .ret) .skip)) (al [ae 18 0,ef 19 30 18,ae 4 19] (.seq (al [ae 20 4,a7 21 (.bin .eql false (.t 20) (.c (.str [40])))] (be 21 (al [ae 22 0,kF 23 22,bE 24 1 1 23,bB 25 1 24,bc 26 .add 25 1,kF 27 22,bE 28 1 1 27,bY 1 28 26] (al [jd 29 4 51 [],ae 5 29] (.block 0 (.loop (.block 1 (.seq (al [ae 30 0,⟨none,.call (some 31) (.c (.func 29 [])) [.t 30,(.c (.str [41]))]⟩] (be 31 (al [ae 32 5,⟨none,.opn (some 33) (.c (.func 42 [])) [.t 32]⟩,bY 4 2 33,bQ 3 true] .ret) .skip)) (.seq (al [ae 34 0,ef 35 30 34,a7 36 (.bin .eql false (.t 35) (.c (.str [46]))),ae 37 36,b7 37 true 38 0,aO 37 true (ef 39 15 38),aO 37 true (eK 40 39),ff 41 37 40] (be 41 (al [ae 42 0,kF 43 42,bE 44 1 1 43,bB 45 1 44,bc 46 .add 45 1,kF 47 42,bE 48 1 1 47,bY 1 48 46] (al [ae 50 0,ef 51 32 50,ae 49 51,eI 52 0 49,eI 53 1 49,hZ 6 dO,bY 4 6 52,ae 7 53] (.seq (al [ae 54 7,eK 55 54,ae 56 55,b7 56 false 57 5,aO 56 false (ee 58 57),aO 56 false (bc 59 .eql 58 0),dD 60 56 59,ae 61 60,b7 61 false 62 0,⟨(some (61,false)),.call (some 63) (.c (.func 29 [])) [.t 62,(.c (.str [41]))]⟩,aO 61 false (eK 64 63),dD 65 61 64] (be 65 (al [kE 66 dO [],bY 4 2 66,bQ 3 false] .ret) .skip)) (.seq (al [ae 67 5,ee 68 67,bc 69 .sub 68 1,ae 8 69] (.block 2 (.loop (.seq (al [ae 70 8,bc 71 .geq 70 0] (be 71 .skip (.exit 2))) (.seq (.block 3 (.drawnL true 132 [ae 74 5,ae 75 8,eS 76 4 74 75,dv 77 4 76,dv 78 4 6] [⟨none,.opn (some 79) (.c (.func 43 [])) [.t 77,.t 78]⟩,bY 4 6 79])) (.region [ae 72 8,bc 73 .sub 72 1,ae 8 73])))))) (al [dv 80 4 6,bY 4 2 80,bQ 3 true] .ret))))) .skip)) (al [ae 82 0,ef 83 32 82,ae 81 83,eI 84 0 81,eI 85 1 81,hZ 9 dO,bY 4 9 84,ae 10 85] (.seq (al [ae 86 10,eK 87 86] (be 87 (al [kE 88 dO [],bY 4 2 88,bQ 3 false] .ret) .skip)) (.region [ae 89 5,dv 90 4 9,jd 91 4 51 [.t 90],qn 92 4 51 89 91,ae 5 92])))))))))) .skip)) (al [ae 93 0,kF 94 93,bE 95 1 1 94,bB 96 1 95,bc 97 .add 96 1,kF 98 93,bE 99 1 1 98,bY 1 99 97] (.seq (al [ae 100 4,a7 101 (.sidx (.t 100) (cO 0)),a7 102 (.bin .eql false (.t 101) (.c (.int .u8 63)))] (be 102 (al [ae 104 4,a7 105 (.ssl (.t 104) (some (cO 1)) none),ef 106 44 105,ae 103 106,eI 107 0 103,eI 108 1 103,ae 11 107,ae 12 108] (al [ae 109 11,ef 110 45 109,ae 111 12,ae 112 111,b7 112 true 113 11,aO 112 true (bc 114 .geq 113 0),ff 115 112 114,ae 116 115,b7 116 true 117 11,aO 116 true (bc 118 .leq 117 100000),ff 119 116 118,bY 4 2 110,ae 3 119] .ret)) .skip)) (.seq (al [ae 120 4,ef 121 41 120] (be 121 (al [ae 122 4,ef 123 46 122,bY 4 2 123,bQ 3 true] .ret) .skip)) (al [ae 125 4,ef 126 44 125,ae 124 126,eI 127 0 124,eI 128 1 124,ae 13 127,ae 14 128] (al [ae 129 13,ef 130 47 129,ae 131 14,bY 4 2 130,ae 3 131] .ret)))))))))
@[simp] def Tf:List cG:=[.cell 2 true 4,.tmp 3]
def Ge:C:=(al [hZ 2 dO] (al [kE 5 dO [],hZ 3 dO,bY 4 3 5] (.seq (al [ae 6 0,ee 7 6,bc 8 .sub 7 1,ae 4 8] (.block 0 (.loop (.seq (al [ae 9 4,bc 10 .geq 9 0] (be 10 .skip (.exit 0))) (.seq (.block 1 (.drawnL true 20 [ae 13 0,ae 14 4,eS 15 4 13 14,dv 16 4 15,dv 17 4 3] [⟨none,.opn (some 18) (.c (.func 43 [])) [.t 16,.t 17]⟩,bY 4 3 18])) (.region [ae 11 4,bc 12 .sub 11 1,ae 4 12])))))) (al [dv 19 4 3,bY 4 2 19] .ret))))
@[simp] def S8:List cG:=[.cell 2 true 4]
def Fe:List (Nat×cm):=[
 (3,⟨1,8,.int .i64,.int .i64 0⟩),
 (9,⟨1,16,.str,.str []⟩),
 (22,⟨1,24,.slice 51,.slice 4 .nil []⟩),
 (39,⟨2,32,.struct [(0,31),(1,3)],.agg [.slice 1 .nil [],.int .i64 0]⟩),
 (51,⟨4,56,.struct [(0,3),(1,3),(2,9),(3,22)],.agg [.int .i64 0,.int .i64 0,.str [],.slice 4 .nil []]⟩)]
theorem rs:dE aP Fe=true:=by kernel_rfl
theorem sI:dA Fe qy Tf 1 Tryd.f32=true:=by kernel_rfl
theorem rX:aP.funcs[(32:Nat)]? =some Tryd.f32:=Tryd.func32
theorem Sr:dA Fe Ge S8 1 Tryd.f42=true:=by kernel_rfl
theorem OJ:aP.funcs[(42:Nat)]? =some Tryd.f42:=Tryd.func42
def _root_.Go.Pv.T.k(t:T)(κ:Nat):ab:= .agg [.int .i64 t.kind,.int .i64 t.int,.str t.name,.slice 4 (.tr (.loc κ) 0) (t.args.map T.e)]
end
end Go.Proofs.YtlnndmgfngfeiaaDoor
namespace Go.Pv
section
open Go Go.RowKit
theorem CallDo.obK{P:bm}{n:Nat}{args:List ab}{st:aM}{d:aR Nat}{K:aM->Prop}{s:df}{Q:ab->df->Prop}(aH:FnK P n st.n args s Q)(ao:jU s)(af:∀k cs,look k s.b=some cs->look k st.b=some cs)(he:∀k o,look k s.e=some o->look k st.e=some o)
  (J:kinL (aI s) args) (o3: .loc st.n∉st.o) (h:∀r aj,Q r aj->Same s aj/\K ⟨eB d r st.t,bA s.b st.b++aj.b,bA s.e st.e++aj.e,st.n+1,st.o++ds aj⟩):CallDo P n args st d K:=by
 refine .inr ⟨s,Q,fun k cs aA=>⟨af k cs aA,.inl (by simp[aA]),ao.kb k cs aA⟩,fun k o ag=>⟨he k o ag,.inr (by simp[ag]),ao.ke k o ag⟩,ao.obj,J,o3,aH,fun r aj bj=>?_⟩;obtain⟨I,aa⟩:=h r aj bj;exact⟨⟨fun m hm=>.inl (by rw[I.b];exact hm),fun m hm=>.inl (by rw[I.e];exact hm)⟩,aa⟩
theorem dX.ob{cz:List cG}{κ:Nat}{s aj:df}{Q:ab->df->Prop}{e:Exit}{st:aM}(iA:e= .ret\/e= .normal)(ao:jU aj)(gi:aj.e=[])(dT:Same s aj)(af:∀k cs,look k aj.b=some cs->look k st.b=some cs)(h:match bd st cz with
  |some (c,aX)=>c/\(cI st.e (a6 aX)/\(cc st.e (a6 aX)).Nodup/\(bW (a6 aX)).Nodup)/\Q (fold κ st.e 0 (a6 aX)) aj
  |none=>cv):dX cz s κ Q e st:=by
 refine⟨iA,?_⟩;cases gf:bd st cz with
 |none=>simp[gf]at h
 |some x=>
  obtain⟨c,aX⟩:=x;simp only[gf]at h⊢;have zE:∀l:List (aq×List ab),(∀k x,(k,x)∈l->aI aj k)->lu aj l:=by
   intro l;induction l with
   |nil=>intro _;trivial
   |cons y l a8=>intro aB;obtain⟨k,x⟩:=y;exact⟨aB k x Ψ,a8 fun k x ad=>aB k x (by simp[ad])⟩
  refine⟨h.1,aj,gi,zE _ fun k x ad=>?_,fun k cs aA=>⟨af k cs aA,.inl (by simp[aA]),ao.kb k cs aA⟩,ao.obj,h.2.1,h.2.2⟩;exact .inl (by rw[<-dT.b];exact sD ad)
theorem iP.fd{P:bm}{ob:List aq}{f:FuncId}{args:List ab}{st:aM}{d:Nat}{K:aM->Prop}(h:iP P ob f args st (some d) fun st'=>tw ob st' d/\K (rY st' d)):iP P ob f args st (some d) K:=by intro C a w ν vs zs hr ht aG;refine(h C a w ν vs zs hr ht aG).mono fun e w' bn=>?_;obtain⟨v,st',ν',he,⟨I,aa⟩,bJ⟩:=bn;obtain⟨ν'',ak⟩:=Hs bJ (s:=d) (by rw[zs];exact I);exact⟨v,_,ν'',he,aa,ak⟩
theorem iP.fdK{P:bm}{ob:List aq}{f:FuncId}{args:List ab}{st:aM}{d:Nat}{K:aM->Prop}(h:∀K1:aM->Prop,(∀st',tw ob st' d->K (rY st' d)->K1 st')->iP P ob f args st (some d) K1):iP P ob f args st (some d) K:=iP.fd (h _ fun _ a b=>⟨a,b⟩)
theorem BQ(N:List aq):∀a b:List ab,eu N (a++b)=eu N a++eu N b
 |[],_=>rfl
 |x::a,b=>by simp[eu,BQ N a b]
theorem wV{α:Type}{N:List aq}{g:α->ab}(h:∀x,e3 N (g x)=g x):∀l:List α,eu N (l.map g)=l.map g
 |[]=>rfl
 |x::l=>by simp[eu,h x,wV h l]
theorem GO{α:Type}{N:List aq}{f:α->Nat->ab}(h:∀x n,aq.loc n∉N->e3 N (f x n)=f x n):∀l:List (α×Nat),(∀p∈l,aq.loc p.2∉N)->eu N (dk f l)=dk f l
 |[],_=>rfl
 |x::l,aB=>by have:=GO h l fun p aV=>aB p (by simp[aV]);unfold dk at this;simp[dk,eu,h x.1 x.2 (aB x Ψ),this]
end
end Go.Pv
namespace Go.Proofs.YtlnndmgfngfeiaaDoor
section
open Go Go.Pv
variable {ky:Nat}
theorem sy:mR T.k T.e:=⟨fun x n=>rfl,fun x n=>⟨trivial,trivial,trivial,nu n,trivial⟩,fun x n=>by simp[T.k,bC],fun S x n h=>by simp[T.k,Pv.kin,Pv.kinL,h]⟩
@[simp]theorem V3(t:T)(n:Nat):cells (t.k n)=[.int .i64 t.kind,.int .i64 t.int,.str t.name,.slice 4 (.tr (.loc n) 0) (t.args.map T.e)]:=rfl
@[simp]theorem Yt(t:T)(n:Nat):dK (t.k n)=true:=rfl
def sU(t:T):aR Nat->ab
 |some n=>t.k n
 |none=>.agg dO
theorem E3(N:List aq)(t:T):e3 N t.e=t.e:=by
 induction t with
 |pair a b Dr Ds=>simp only[T.e,e3,eu,Dr,Ds]
 |_=>simp only[T.e,e3,eu]
@[simp]theorem T9(N:List aq)(t:T)(n:Nat):e3 N (t.k n)=if aq.loc n∈N then t.e else t.k n:=by
 have h:aq.loc n≠dj:=nu n;by_cases aU:aq.loc n∈N
 ·rw[if_pos aU];simp only[T.k,e3,eu,aU,true_or,if_true,wV (E3 N)];rw[T.e_eq]
 ·rw[bh aU];simp[T.k,e3,eu,aU,h]
@[simp]theorem Wa(N:List aq)(l:List (List az)):eu N (dw l)=dw l:=wV (fun _=>rfl) l
@[simp]theorem V9(N:List aq)(l:List T):eu N (l.map T.e)=l.map T.e:=wV (E3 N) l
@[simp]theorem Xd(t:T)(n:Nat):Pv.isAgg 4 (t.k n):=⟨_,rfl,rfl⟩
def jr(acc:List (T×Nat))(m:Nat):List ab:=dk T.k (acc.take m)++(acc.drop m).map fun p=>p.1.e
@[simp]theorem Xe(acc:List (T×Nat))(m:Nat):(jr acc m).length=acc.length:=by simp[jr];omega
theorem I6(acc:List (T×Nat)):jr acc acc.length=dk T.k acc:=by simp[jr]
theorem I7{acc:List (T×Nat)}{m:Nat}{y:T×Nat}(bs:acc[m]? =some y):(jr acc (m+1))[m]? =some (y.1.k y.2):=by have hm:=(gp.1 bs).1;unfold jr;rw[nI (by simp;omega)];simp[dk,bs]
theorem zZ{S:aq->Prop}{acc:List (T×Nat)}{m:Nat}(h:∀p∈acc,S (.loc p.2)):Pv.kinL S (jr acc m):=by
 have RK:∀a b:List ab,Pv.kinL S a->Pv.kinL S b->Pv.kinL S (a++b):=fun a b b1 af=>by
  induction a with
  |nil=>exact af
  |cons x a a8=>simp only[Pv.kinL]at b1;simp only[eP,Pv.kinL];exact⟨b1.1,a8 b1.2⟩
 refine RK _ _ (sy.kiL _ fun p aV=>h p (List.mem_of_mem_take aV)) ?_;have:∀l:List (T×Nat),Pv.kinL S (l.map fun p=>p.1.e):=by
  intro l;induction l with
  |nil=>simp[Pv.kinL]
  |cons x l a8=>simp only[ig,Pv.kinL];exact⟨mC (S:=fun _=>cv) (fun _ h=>h.elim) _ Ψ,a8⟩
 exact this _
theorem Dw{N:List aq}{n:Nat}{acc:List (T×Nat)}{m:Nat}{y:T×Nat}(h3:lg n acc)(bs:acc[m]? =some y)(jZ:∀k,aq.loc k∈N->k=y.2\/n<=k)(Rk:aq.loc y.2∈N):eu N (jr acc (m+1))=jr acc m:=by
 obtain⟨hm,vo⟩:=gp.1 bs;have au:acc.take (m+1)=acc.take m++[y]:=by rw[List.take_succ_eq_append_getElem hm,vo]
 have aG:acc.drop m=y::acc.drop (m+1):=by rw[pJ hm,vo]
 unfold jr;rw[au,aG,BQ];have jO:dk T.k (acc.take m++[y])=dk T.k (acc.take m)++[y.1.k y.2]:=D2 T.k _ y.1 y.2;rw[jO,BQ];have b5:∀p∈acc.take m,aq.loc p.2∉N:=by
  intro p aV PR;rcases jZ _ PR with e|e
  ·have tN:=h3.nd;have Q4:acc=acc.take m++y::acc.drop (m+1):=by rw[<-aG,List.take_append_drop]
   rw[Q4,List.map_append,pM]at tN;exact tN.2.2 p.2 (lE.2 ⟨p,aV,rfl⟩) y.2 Ψ e
  ·have:=h3.lt p (List.mem_of_mem_take aV);omega
 rw[GO (fun x n aU=>by rw[T9,bh aU]) _ b5];have ak:eu N ((acc.drop (m+1)).map fun p=>p.1.e)=(acc.drop (m+1)).map fun p=>p.1.e:=wV (fun x=>E3 N x.1) _;rw[ak];simp[eu,Rk]
def rK(ky n:Nat)(l:List (List az))(j:Nat)(ob:List aq)(acc:List (T×Nat))(x:Nat×aR Nat×Nat):aM:=
 ⟨[(0,.slice 4 (.own (.loc 1)) (jr acc x.1)),(2,.ptr (.loc n) 0),(3,.ptr (.loc (n+1)) 0),(4,.int .i64 ((x.1:Int)-1))],
  [(.loc 0,dO),(.obj ky,[.slice 1 .no (dw l),.int .i64 j]),(.loc n,dO),(.loc (n+1),cells (sU (gv ((acc.drop x.1).map (·.1)) .nil) x.2.1))],
  [(.loc 1,⟨acc.length,51,4,none⟩)],x.2.2,ob⟩
theorem RP{n:Nat}(l:List (List az))(j:Nat)(acc:List (T×Nat))(t:List (Nat×ab))(K:aM->Prop)(h3:lg n acc)(aa:∀p∈acc,2<=p.2)(aU:2<=n)(hlen:acc.length<=1000000)(Rb:get 2 t= .ptr (.loc 0) 0)(o:List aq)(ag:∀m,aq.loc m∉o)(QW:aq.obj ky∈o)
  (cb:∀(b:List (aq×List ab)) (e:List (aq×cp)) (o:List aq) (q:Nat),n<=q->K ⟨[(2,.ptr (.loc 0) 0),(33,(gv (acc.map (·.1)) .nil).k q)],(.loc 0,dO)::(.obj ky,[.slice 1 .no (dw l),.int .i64 j])::b,e,q+1,o⟩):
  iP aP [.obj ky] 42 [.slice 4 (.own (.loc 1)) (dk T.k acc)] ⟨t,[(.loc 0,dO),(.obj ky,[.slice 1 .no (dw l),.int .i64 j])],[(.loc 1,⟨acc.length,51,4,none⟩)],n,o⟩ (some 33) K:=by
 refine iP.fdK fun U4 Ib=>?_;refine iP.of mixed rs OJ Sr Ψ [(2,.ptr (.loc 0) 0)] (fun k=>k= .loc 0) (by rintro k rfl;simp[fresh,ag];omega) (by simp[Rb,kin]) fun ob sj p3 sk=>?_;obtain⟨n,rfl⟩:∃k,n=k+2:=⟨n-2,Ω⟩;have qN:∀m,0<m->aq.loc m∉ob:=fun m hm h=>by
  rcases sj _ h with e|e|e
  ·cases e;omega
  ·exact ag _ e
  ·simp at e
 have QB:bk ((acc.length:Int)-1):=by unfold bk;omega
 have qO:aq.obj ky∈ob:=sk _ QW;clear sj p3 sk;have tO:¬n+1<=n:=Ω
 have fK:=sy.kin (h3.mono (show n+2<=n+4 by omega)) (cx _) ob;simp[fresh]at fK;unfold Ge;simp[qN];(with_reducible repeat' first|refine aK ?_|simp[qN,QB]);refine jI (rK ky (n+2) l j ob acc) (fun x=>x.1) (fun x=>x.1<=acc.length/\n+4<=x.2.2/\(x.2.1=none->x.1=acc.length)/\∀c,x.2.1=some c->n+2<=c/\c<x.2.2) (acc.length,none,n+4) (by simp[rK,I6,sU];exact⟨by simp[fresh,kinL,kin,cA,aI,Pv.look,dO,qO,tO,fK],fh (by simp[fresh,kinL,kin,cA,aI,Pv.look,dO,qO,tO,fK]),fi (by simp[fresh,kinL,kin,eD,aI,Pv.look,dO,qO,tO,fK]),Ψ⟩) ⟨cx _,cx _,fun _=>rfl,Ψ⟩ ?_;rintro⟨m,c,q⟩ ⟨hm,bj,qG,lT⟩ _;simp only at hm bj qG lT;cases m with
 |zero=>
  cases c with
  |none=>
   have:acc=[]:=List.length_eq_zero_iff.1 (qG rfl).symm;subst this;simp[rK,sU,gv];(with_reducible repeat' first|refine aK ?_|simp);simp[s4,bd,bo,a6];refine Ib _ ?_ ?_
   ·simp[cI,dZ,cc,dm,bW,di,qN q Ω]
   ·simp[cc,dm,bW,di,fold,eh,eg,bF];exact cb _ _ _ q Ω
  |some c=>
   simp[rK,sU];(with_reducible repeat' first|refine aK ?_|simp);simp[s4,bd,bo,a6];have ak:=lT c rfl;refine Ib _ ?_ ?_
   ·simp[cI,dZ,cc,dm,bW,di,qN q Ω,nu]
   ·simp[cc,dm,bW,di,fold,eh,eg,bF];exact cb _ _ _ q Ω
 |succ m=>
  have hz:m<acc.length:=hm;obtain⟨y,bs⟩:∃y,acc[m]? =some y:=⟨_,eo hz⟩;have gO:∀h,(jr acc (m+1))[m]'h=y.1.k y.2:=fun h=>by have:=I7 bs;rw[eo h]at this;exact iL this
  have o6:bk ((m:Int)-1):=by unfold bk;omega
  have zG:bk (m:Int):=by unfold bk;omega
  have iX:=aa y (gL bs);have Rl:=h3.lt y (gL bs);have b5:∀k,¬n=q+k:=fun k=>Ω
  have nj:∀k,¬q+k=n:=fun k=>Ω
  have Iv:Pv.kinL (fun k=> ¬fresh (q+20) ob k) (jr acc (m+1)):=zZ fun p aV h=>by have I:=h3.lt p aV;have ak:q+20<=p.2:=h.1;omega
  have im:gv ((acc.drop m).map (·.1)) .nil= .pair y.1 (gv ((acc.drop (m+1)).map (·.1)) .nil):=by obtain⟨e8,vo⟩:=gp.1 bs;rw[pJ e8,vo];rfl
  have mx:Pv.kinL (fun k=> ¬fresh (q+20+1+1+1+1+1) ob k) (jr acc m):=zZ fun p aV h=>by have I:=h3.lt p aV;have ak:q+20+1+1+1+1+1<=p.2:=h.1;omega
  simp[fresh]at mx;have iC:¬q+20+1+1+1+1+1<=n+2:=Ω
  have hd:¬q+20+1+1+1+1+1<=n+2+1:=Ω
  cases c with
  |none=>
   have QF:acc.drop (m+1)=[]:=List.drop_eq_nil_of_le (by have:=qG rfl;omega);have tD:=Dw (N:=[.loc y.2]) h3 bs Ψ Ψ;rw[QF,List.map_drop]at im;simp[rK,sU];(with_reducible repeat' first|refine aK ?_|simp[gO,hz,o6,zG]);refine iP.fdK fun K1 xe=>?_;refine iP.of mixed sY Ch Ec Ψ [(0,.slice 4 (.own (.loc 1)) (jr acc (m+1))),(2,.ptr (.loc (n+2)) 0),(3,.ptr (.loc (n+2+1)) 0),(4,.int .i64 m)] (fun k=> ¬fresh (q+20) ob k) (fun k h=>h) (by simp[kin,Iv];simp[fresh];omega) fun pq sj p3 sk=>?_;have pb:∀k,q+20<=k->aq.loc k∉pq:=fun k J h=>p3 _ h ⟨J,qN k Ω⟩;clear sj p3 sk;unfold yS;simp[pb,b5,nj];(with_reducible repeat' first|refine aK ?_|simp[pb,b5,nj]);simp[s4,bd,bo,a6,b5,nj];refine xe _ ?_ ?_
   ·simp[cI,dZ,dt,ej,cc,dm,bW,di,tn,tnL,nu,pb _ (show q+20<=q+20+1+1+1+1 by omega),qN y.2 Ω]
   ·simp[cc,dm,bW,di,tn,tnL,fold,eh,eg,bF,bC,tD,nu,b5,nj];refine⟨o6,?_⟩;refine cQ.whl (m,some (q+20+1+1+1+1),q+20+1+1+1+1+1) Ψ ⟨by simp;omega,by simp;omega,Ψ,fun c e=>by simp at e;subst e;simp;omega⟩ ?_;simp[rK,sU,im,T.kind,T.int,T.name,T.args,show gv [] T.nil=T.nil from rfl];exact⟨by simp[fresh,kinL,kin,cA,aI,Pv.look,qO,mx,iC,hd],fh (by simp[fresh,kinL,kin,cA,aI,Pv.look,qO,mx,iC,hd]),fi (by simp[fresh,kinL,kin,eD,aI,Pv.look,qO,mx,iC,hd]),Ψ⟩
  |some c=>
   obtain⟨zx,WN⟩:=lT c rfl;have Dp:¬y.2=c:=Ω
   rw[List.map_drop,List.map_drop]at im;have tD:=Dw (N:=[.loc y.2,.loc c]) h3 bs (by simp;omega) Ψ;have WM:¬fresh (q+20) ob (.loc c):=fun h=>by have:q+20<=c:=h.1;omega
   simp[rK,sU];(with_reducible repeat' first|refine aK ?_|simp[gO,hz,o6,zG]);refine iP.fdK fun K1 xe=>?_;refine iP.of mixed sY Ch Ec Ψ [(0,.slice 4 (.own (.loc 1)) (jr acc (m+1))),(2,.ptr (.loc (n+2)) 0),(3,.ptr (.loc (n+2+1)) 0),(4,.int .i64 m)] (fun k=> ¬fresh (q+20) ob k) (fun k h=>h) (by simp[kin,Iv];simp[fresh];omega) fun pq sj p3 sk=>?_;have pb:∀k,q+20<=k->aq.loc k∉pq:=fun k J h=>p3 _ h ⟨J,qN k Ω⟩;clear sj p3 sk;unfold yS;simp[pb,b5,nj];(with_reducible repeat' first|refine aK ?_|simp[pb,b5,nj]);simp[s4,bd,bo,a6,b5,nj];refine xe _ ?_ ?_
   ·simp[cI,dZ,dt,ej,cc,dm,bW,di,tn,tnL,nu,pb _ (show q+20<=q+20+1+1+1+1 by omega),qN y.2 Ω,qN c Ω,Dp]
   ·simp[cc,dm,bW,di,tn,tnL,fold,eh,eg,bF,bC,tD,nu,b5,nj];refine⟨o6,?_⟩;refine cQ.whl (m,some (q+20+1+1+1+1),q+20+1+1+1+1+1) Ψ ⟨by simp;omega,by simp;omega,Ψ,fun c e=>by simp at e;subst e;simp;omega⟩ ?_;simp[rK,sU,im,T.kind,T.int,T.name,T.args,show gv [] T.nil=T.nil from rfl];exact⟨by simp[fresh,kinL,kin,cA,aI,Pv.look,qO,mx,iC,hd],fh (by simp[fresh,kinL,kin,cA,aI,Pv.look,qO,mx,iC,hd]),fi (by simp[fresh,kinL,kin,eD,aI,Pv.look,qO,mx,iC,hd]),Ψ⟩
end
section
open Go Go.Pv
variable {ky:Nat}
def sV(ky:Nat)(l:List (List az))(o:aR (T×List (List az)))(κ:Nat)(r:ab)(aj:df):Prop:=match o with
 |some (t,rest)=>r= .tuple [t.k κ,.bool true]/\aj=ah ky l (l.length-rest.length)
 |none=> ∃(x:T) (j:Nat),j<=l.length/\r= .tuple [x.k κ,.bool false]/\aj=ah ky l j
theorem oy{l:List (List az)}{j κ:Nat}(h:j<=l.length)(x:T):sV ky l none κ (.tuple [x.k κ,.bool false]) (ah ky l j):=⟨x,j,h,rfl,rfl⟩
theorem wq{l:List (List az)}{j κ:Nat}{t:T}{rest:List (List az)}(h:l.length-rest.length=j):sV ky l (some (t,rest)) κ (.tuple [t.k κ,.bool true]) (ah ky l j):=⟨rfl,by rw[h]⟩
theorem dX.tm{l:List (List az)}{i κ:Nat}{o:aR (T×List (List az))}{st:aM}{e:Exit}(j:Nat)(x:T)(b:Bool)(iA:e= .ret\/e= .normal)(n4:sV ky l o κ (.tuple [x.k κ,.bool b]) (ah ky l j))(af:∀k cs,Pv.look k (ah ky l j).b=some cs->Pv.look k st.b=some cs)
  (h:match bd st [.cell 2 true 4,.tmp 3]with
   |some (c,aX)=>c/\(cI st.e (a6 aX)/\(cc st.e (a6 aX)).Nodup/\(bW (a6 aX)).Nodup)/\fold κ st.e 0 (a6 aX)= .tuple [x.k κ,.bool b]
   |none=>cv):dX [.cell 2 true 4,.tmp 3] (ah ky l i) κ (sV ky l o κ) e st:=by
 refine dX.ob iA (bp l j) rfl (cg _ _ _ _) af ?_;split at h
 ·rename_i c aX hr;(try rw[hr]);exact⟨h.1,h.2.1,by rw[h.2.2];exact n4⟩
 ·exact h.elim
theorem Jm(l:List (List az))(κ:Nat):FnK aP 32 κ [aF ky] (ah ky l l.length) (sV ky l none κ):=by have ao:=bp (ky:=ky) l l.length;have dh:=BY (ky:=ky) l;simp only[ah]at ao;refine FnK.mk mixed rs rX sI Ψ ao.obj rfl fun aT dG=>?_;unfold qy;clear aT dG;simp[aF,ah];(refine CallDo.ob (dh) (by first|exact bp _|exact bp ‹_› _) (by simp only[ah,aF,eP,fA];exact aS) (by simp only[ah,aF,eP,fA];exact aS) (by simp[aI,Pv.look,ah,aF]) ?_;rintro r aj ⟨rfl,rfl⟩;refine⟨(Same.keys (by simp[ah,aF]) (by simp[ah,aF])),?_⟩;simp[bA,ah,aF]);(with_reducible repeat' first|refine aK ?_|simp);refine dX.tm (l.length) (.nil) false Ψ (oy (cx _) _) (by simp only[ah];exact aS) ?_;simp[bd,bo,a6,cI,dZ,cc,dm,bW,di,tnL,tn,dt,ej,fold,eh,eg,eY,Pv.look,dj,bF,bC,T.k]
theorem tb{e:List (aq×cp)}{κ:Nat}{t:T}(h:t.args=[]):(cI e t.e/\(cc e t.e).Nodup/\(bW t.e).Nodup)/\fold κ e 0 t.e= .agg [.int .i64 t.kind,.int .i64 t.int,.str t.name,.slice 4 (.tr (.loc κ) 0) []]:=by rw[T.e_eq,h];simp[cI,dZ,cc,dm,bW,di,fold,eh,eg,bF]
theorem RD(l:List (List az))(aB:l.length<=100000){i:Nat}{w:List az}(ad:l[i]? =some w)(hw:w≠[])(IZ:w.length<=b0)(aV:w≠[40])(κ:Nat):FnK aP 32 κ [aF ky] (ah ky l i) (sV ky l ((fR w).map fun t=>(t,l.drop (i+1))) κ):=by
 have ao:=bp (ky:=ky) l i;have aD:=(gp.1 ad).1;have aG:=tl ad;have cU:bk ((i:Int)+1):=by unfold bk;omega
 obtain⟨c,w',rfl⟩:∃c w',w=c::w':=List.exists_cons_of_ne_nil hw;by_cases aA:c=63
 ·subst aA;have Ri:w'.length<=b0:=by simp at IZ;omega
  have fo:=LI w' Ri;unfold AE at fo;simp only[fR];cases aU:gQ w' with
  |none=>rw[aU]at fo;simp only[Option.getD,Option.isSome]at fo;simp only[Option.map_none];simp only[ah]at ao;refine FnK.mk mixed rs rX sI Ψ ao.obj rfl fun aT dG=>?_;unfold qy;clear aT dG;simp[aF,ah];(refine CallDo.ob (nZ aD) (by first|exact bp _|exact bp ‹_› _) (by simp only[ah,aF,eP,fA];exact aS) (by simp only[ah,aF,eP,fA];exact aS) (by simp[aI,Pv.look,ah,aF]) ?_;rintro r aj ⟨rfl,rfl⟩;refine⟨(Same.keys (by simp[ah,aF]) (by simp[ah,aF])),?_⟩;simp[bA,ah,aF]);(with_reducible repeat' first|refine aK ?_|simp);(refine CallDo.ob (lz ad) (by first|exact bp _|exact bp ‹_› _) (by simp only[ah,aF,eP,fA];exact aS) (by simp only[ah,aF,eP,fA];exact aS) (by simp[aI,Pv.look,ah,aF]) ?_;rintro r aj ⟨rfl,rfl⟩;refine⟨(Same.keys (by simp[ah,aF]) (by simp[ah,aF])),?_⟩;simp[bA,ah,aF]);(with_reducible repeat' first|refine aK ?_|refine bq fo ?_|refine br fo ?_|refine bq (sZ _) ?_|refine br (sZ _) ?_|simp[cU]);refine dX.tm (i+1) (.var 0) false Ψ (oy Ω _) (by simp only[ah];exact aS) ?_;simp[bd,bo,a6,cI,dZ,cc,dm,bW,di,tnL,tn,dt,ej,fold,eh,eg,eY,Pv.look,dj,bF,bC,T.k];exact tb rfl
  |some v=>
   rw[aU]at fo;simp only[Option.getD,Option.isSome]at fo;simp only;by_cases aY:0<=v/\v<=100000
   ·rw[if_pos aY];simp only[mP];simp only[ah]at ao;refine FnK.mk mixed rs rX sI Ψ ao.obj rfl fun aT dG=>?_;unfold qy;clear aT dG;simp[aF,ah];(refine CallDo.ob (nZ aD) (by first|exact bp _|exact bp ‹_› _) (by simp only[ah,aF,eP,fA];exact aS) (by simp only[ah,aF,eP,fA];exact aS) (by simp[aI,Pv.look,ah,aF]) ?_;rintro r aj ⟨rfl,rfl⟩;refine⟨(Same.keys (by simp[ah,aF]) (by simp[ah,aF])),?_⟩;simp[bA,ah,aF]);(with_reducible repeat' first|refine aK ?_|simp);(refine CallDo.ob (lz ad) (by first|exact bp _|exact bp ‹_› _) (by simp only[ah,aF,eP,fA];exact aS) (by simp only[ah,aF,eP,fA];exact aS) (by simp[aI,Pv.look,ah,aF]) ?_;rintro r aj ⟨rfl,rfl⟩;refine⟨(Same.keys (by simp[ah,aF]) (by simp[ah,aF])),?_⟩;simp[bA,ah,aF]);(with_reducible repeat' first|refine aK ?_|refine bq fo ?_|refine br fo ?_|refine bq (sZ _) ?_|refine br (sZ _) ?_|simp[cU,aY.1,aY.2]);refine dX.tm (i+1) (.var v) true Ψ (wq aG) (by simp only[ah];exact aS) ?_;simp[bd,bo,a6,cI,dZ,cc,dm,bW,di,tnL,tn,dt,ej,fold,eh,eg,eY,Pv.look,dj,bF,bC,T.k];exact tb rfl
   ·rw[bh aY];simp only[Option.map_none];simp only[ah]at ao;refine FnK.mk mixed rs rX sI Ψ ao.obj rfl fun aT dG=>?_;unfold qy;clear aT dG;simp[aF,ah];(refine CallDo.ob (nZ aD) (by first|exact bp _|exact bp ‹_› _) (by simp only[ah,aF,eP,fA];exact aS) (by simp only[ah,aF,eP,fA];exact aS) (by simp[aI,Pv.look,ah,aF]) ?_;rintro r aj ⟨rfl,rfl⟩;refine⟨(Same.keys (by simp[ah,aF]) (by simp[ah,aF])),?_⟩;simp[bA,ah,aF]);(with_reducible repeat' first|refine aK ?_|simp);(refine CallDo.ob (lz ad) (by first|exact bp _|exact bp ‹_› _) (by simp only[ah,aF,eP,fA];exact aS) (by simp only[ah,aF,eP,fA];exact aS) (by simp[aI,Pv.look,ah,aF]) ?_;rintro r aj ⟨rfl,rfl⟩;refine⟨(Same.keys (by simp[ah,aF]) (by simp[ah,aF])),?_⟩;simp[bA,ah,aF]);by_cases bR:0<=v
    ·have I:¬v<=100000:=fun h=>aY ⟨bR,h⟩;(with_reducible repeat' first|refine aK ?_|refine bq fo ?_|refine br fo ?_|refine bq (sZ _) ?_|refine br (sZ _) ?_|simp[cU,bR,I]);refine dX.tm (i+1) (.var v) false Ψ (oy Ω _) (by simp only[ah];exact aS) ?_;simp[bd,bo,a6,cI,dZ,cc,dm,bW,di,tnL,tn,dt,ej,fold,eh,eg,eY,Pv.look,dj,bF,bC,T.k];exact tb rfl
    ·(with_reducible repeat' first|refine aK ?_|refine bq fo ?_|refine br fo ?_|refine bq (sZ _) ?_|refine br (sZ _) ?_|simp[cU,bR]);refine dX.tm (i+1) (.var v) false Ψ (oy Ω _) (by simp only[ah];exact aS) ?_;simp[bd,bo,a6,cI,dZ,cc,dm,bW,di,tnL,tn,dt,ej,fold,eh,eg,eY,Pv.look,dj,bF,bC,T.k];exact tb rfl
 ·have b1:fR (c::w')=if gU (c::w')then some (.sym (c::w'))else(gQ (c::w')).map .num:=by
   unfold fR;split
   ·rename_i e;cases e;exact absurd rfl aA
   ·rfl
  have zx:¬c.toNat=63:=fun h=>aA (UInt8.toNat_inj.1 (by simpa using h));have CC:((c.toNat:Int)==63)=false:=beq_eq_false_iff_ne.2 Ω;have vh:(c==40&&w'.isEmpty)=false:=by
   rw[Bool.and_eq_false_iff];by_cases h:c=40
   ·right;cases w' with
    |nil=>exact absurd (by rw[h]) aV
    |cons=>rfl
   ·left;simpa using h
  have iZ:=Fi (c::w');rw[b1];by_cases tM:gU (c::w')=true
  ·rw[if_pos tM];rw[tM]at iZ;simp only[mP];simp only[ah]at ao;refine FnK.mk mixed rs rX sI Ψ ao.obj rfl fun aT dG=>?_;unfold qy;clear aT dG;simp[aF,ah];(refine CallDo.ob (nZ aD) (by first|exact bp _|exact bp ‹_› _) (by simp only[ah,aF,eP,fA];exact aS) (by simp only[ah,aF,eP,fA];exact aS) (by simp[aI,Pv.look,ah,aF]) ?_;rintro r aj ⟨rfl,rfl⟩;refine⟨(Same.keys (by simp[ah,aF]) (by simp[ah,aF])),?_⟩;simp[bA,ah,aF]);(with_reducible repeat' first|refine aK ?_|simp);(refine CallDo.ob (lz ad) (by first|exact bp _|exact bp ‹_› _) (by simp only[ah,aF,eP,fA];exact aS) (by simp only[ah,aF,eP,fA];exact aS) (by simp[aI,Pv.look,ah,aF]) ?_;rintro r aj ⟨rfl,rfl⟩;refine⟨(Same.keys (by simp[ah,aF]) (by simp[ah,aF])),?_⟩;simp[bA,ah,aF]);(with_reducible repeat' first|refine aK ?_|refine bq iZ ?_|refine br iZ ?_|refine bq (LO _) ?_|refine br (LO _) ?_|simp[cU,CC,vh]);refine dX.tm (i+1) (.sym (c::w')) true Ψ (wq aG) (by simp only[ah];exact aS) ?_;simp[bd,bo,a6,cI,dZ,cc,dm,bW,di,tnL,tn,dt,ej,fold,eh,eg,eY,Pv.look,dj,bF,bC,T.k];exact tb rfl
  ·rw[bh tM];rw[Bool.not_eq_true]at tM;rw[tM]at iZ;have fo:=LI (c::w') IZ;unfold AE at fo;cases aU:gQ (c::w')with
   |none=>rw[aU]at fo;simp only[Option.getD,Option.isSome]at fo;simp only[Option.map_none];simp only[ah]at ao;refine FnK.mk mixed rs rX sI Ψ ao.obj rfl fun aT dG=>?_;unfold qy;clear aT dG;simp[aF,ah];(refine CallDo.ob (nZ aD) (by first|exact bp _|exact bp ‹_› _) (by simp only[ah,aF,eP,fA];exact aS) (by simp only[ah,aF,eP,fA];exact aS) (by simp[aI,Pv.look,ah,aF]) ?_;rintro r aj ⟨rfl,rfl⟩;refine⟨(Same.keys (by simp[ah,aF]) (by simp[ah,aF])),?_⟩;simp[bA,ah,aF]);(with_reducible repeat' first|refine aK ?_|simp);(refine CallDo.ob (lz ad) (by first|exact bp _|exact bp ‹_› _) (by simp only[ah,aF,eP,fA];exact aS) (by simp only[ah,aF,eP,fA];exact aS) (by simp[aI,Pv.look,ah,aF]) ?_;rintro r aj ⟨rfl,rfl⟩;refine⟨(Same.keys (by simp[ah,aF]) (by simp[ah,aF])),?_⟩;simp[bA,ah,aF]);(with_reducible repeat' first|refine aK ?_|refine bq iZ ?_|refine br iZ ?_|refine bq fo ?_|refine br fo ?_|refine bq (Bo _) ?_|refine br (Bo _) ?_|simp[cU,CC,vh]);refine dX.tm (i+1) (.num 0) false Ψ (oy Ω _) (by simp only[ah];exact aS) ?_;simp[bd,bo,a6,cI,dZ,cc,dm,bW,di,tnL,tn,dt,ej,fold,eh,eg,eY,Pv.look,dj,bF,bC,T.k];exact tb rfl
   |some v=>rw[aU]at fo;simp only[Option.getD,Option.isSome]at fo;simp only[mP];simp only[ah]at ao;refine FnK.mk mixed rs rX sI Ψ ao.obj rfl fun aT dG=>?_;unfold qy;clear aT dG;simp[aF,ah];(refine CallDo.ob (nZ aD) (by first|exact bp _|exact bp ‹_› _) (by simp only[ah,aF,eP,fA];exact aS) (by simp only[ah,aF,eP,fA];exact aS) (by simp[aI,Pv.look,ah,aF]) ?_;rintro r aj ⟨rfl,rfl⟩;refine⟨(Same.keys (by simp[ah,aF]) (by simp[ah,aF])),?_⟩;simp[bA,ah,aF]);(with_reducible repeat' first|refine aK ?_|simp);(refine CallDo.ob (lz ad) (by first|exact bp _|exact bp ‹_› _) (by simp only[ah,aF,eP,fA];exact aS) (by simp only[ah,aF,eP,fA];exact aS) (by simp[aI,Pv.look,ah,aF]) ?_;rintro r aj ⟨rfl,rfl⟩;refine⟨(Same.keys (by simp[ah,aF]) (by simp[ah,aF])),?_⟩;simp[bA,ah,aF]);(with_reducible repeat' first|refine aK ?_|refine bq iZ ?_|refine br iZ ?_|refine bq fo ?_|refine br fo ?_|refine bq (Bo _) ?_|refine br (Bo _) ?_|simp[cU,CC,vh]);refine dX.tm (i+1) (.num v) true Ψ (wq aG) (by simp only[ah];exact aS) ?_;simp[bd,bo,a6,cI,dZ,cc,dm,bW,di,tnL,tn,dt,ej,fold,eh,eg,eY,Pv.look,dj,bF,bC,T.k];exact tb rfl
end
section
open Go Go.Pv
variable {ky:Nat}
theorem _root_.Go.Pv.FnK.mono{P:bm}{f κ:Nat}{args:List ab}{s:df}{Q oI:ab->df->Prop}(h:FnK P f κ args s Q)(bj:∀r aj,Q r aj->oI r aj):FnK P f κ args s oI:=fun w ν vs gl I aa ak=>(h w ν vs gl I aa ak).mono fun e w' bn=>by obtain⟨v,r,aj,ν',a,b,c⟩:=bn;exact⟨v,r,aj,ν',a,bj _ _ b,c⟩
def FQ(ky:Nat)(l:List (List az))(i:Nat)(o:aR (T×List (List az))):Prop:= ∀κ,FnK aP 32 κ [aF ky] (ah ky l i) (sV ky l o κ)
theorem DM{l:List (List az)}{i p:Nat}{t:T}{rest:List (List az)}(h:FQ ky l i (some (t,rest)))(aV:l.length-rest.length=p)(κ:Nat):FnK aP 32 κ [aF ky] (ah ky l i) fun r aj=>r= .tuple [t.k κ,.bool true]/\aj=ah ky l p:=(h κ).mono fun r aj bj=>by rw[<-aV];exact bj
def oK(ky:Nat)(l:List (List az))(x:List (T×Nat)×Nat×Nat×Nat):aM:=⟨[(0,.ptr (.obj ky) 0),(2,.ptr (.loc 0) 0),(5,.slice 4 (.own (.loc 1)) (dk T.k x.1))],[(.loc 0,dO),(.obj ky,[.slice 1 .no (dw l),.int .i64 x.2.1])],[(.loc 1,⟨x.1.length,51,4,none⟩)],x.2.2.2+2,[.obj ky]⟩
def wJ(ky:Nat)(l:List (List az))(acc:List (T×Nat))(t:T)(p q:Nat)(x:Nat×Nat×Nat):aM:=⟨[(2,.ptr (.loc 0) 0),(5,.slice 4 (.own (.loc 1)) (jr acc x.1)),(6,.ptr (.loc (q+3)) 0),(8,.int .i64 ((x.1:Int)-1))],[(.loc 0,dO),(.loc (q+3),cells ((gv ((acc.drop x.1).map (·.1)) t).k x.2.1)),(.obj ky,[.slice 1 .no (dw l),.int .i64 (p+1:Nat)])],[(.loc 1,⟨acc.length,51,4,none⟩)],x.2.2,[.obj ky]⟩
theorem RJ(l:List (List az))(aB:l.length<=100000)(hw:∀w∈l,w≠[]/\w.length<=b0):∀n i:Nat,i<=l.length->2*(l.length-i)+1<=n->FQ ky l i (rd fR n (l.drop i)):=by
 intro n;induction n using Nat.strongRecOn with
 |_ n a8=>
 intro i kV aU κ;obtain⟨n,rfl⟩:∃m,n=m+1:=⟨n-1,Ω⟩;rcases jB kV with rfl|aD
 ·rw[mb];exact Jm l κ
 obtain⟨w,ad⟩:∃w,l[i]? =some w:=⟨_,eo aD⟩;have vm:=hw w (gL ad);rw[fY ad];by_cases aV:w=[40];rotate_left
 ·have hr:rd fR (n+1) (w::l.drop (i+1))=(fR w).map fun t=>(t,l.drop (i+1)):=by
   simp only[rd,bh aV];split
   ·rename_i h;rcases h with rfl|rfl<;>rfl
   ·rfl
  rw[hr];exact RD l aB ad vm.1 vm.2 aV κ
 subst aV;have hr:rd fR (n+1) ([40]::l.drop (i+1))=bP fR n (l.drop (i+1)) []:=by simp[rd]
 rw[hr];have ao:=bp (ky:=ky) l i;have cU:bk ((i:Int)+1):=by unfold bk;omega
 obtain⟨R,bI⟩:∃R,R=bP fR n (l.drop (i+1)) []:=⟨_,rfl⟩;rw[<-bI];simp only[ah]at ao;refine FnK.mk mixed rs rX sI Ψ ao.obj rfl fun aT dG=>?_;unfold qy;clear aT dG;simp[aF,ah];(refine CallDo.ob (nZ aD) (by first|exact bp _|exact bp ‹_› _) (by simp only[ah,aF,eP,fA];exact aS) (by simp only[ah,aF,eP,fA];exact aS) (by simp[aI,Pv.look,ah,aF]) ?_;rintro r aj ⟨rfl,rfl⟩;refine⟨(Same.keys (by simp[ah,aF]) (by simp[ah,aF])),?_⟩;simp[bA,ah,aF]);(with_reducible repeat' first|refine aK ?_|simp);(refine CallDo.ob (lz ad) (by first|exact bp _|exact bp ‹_› _) (by simp only[ah,aF,eP,fA];exact aS) (by simp only[ah,aF,eP,fA];exact aS) (by simp[aI,Pv.look,ah,aF]) ?_;rintro r aj ⟨rfl,rfl⟩;refine⟨(Same.keys (by simp[ah,aF]) (by simp[ah,aF])),?_⟩;simp[bA,ah,aF]);(with_reducible repeat' first|refine aK ?_|simp[cU]);refine jI (oK ky l) (fun x=>l.length-x.2.1) (fun x=>x.2.1<=l.length/\2*(l.length-x.2.1)+2<=x.2.2.1/\x.2.2.1<=n/\bP fR x.2.2.1 (l.drop x.2.1) (x.1.map (·.1))=R/\x.1.length<=x.2.1/\lg (x.2.2.2+2) x.1/\∀p∈x.1,2<=p.2) ([],i+1,n,0) (by simp[oK];exact⟨by simp[fresh,kinL,kin,cA,aI,Pv.look,dO],fh (by simp[fresh,kinL,kin,cA,aI,Pv.look,dO]),fi (by simp[fresh,kinL,kin,eD,aI,Pv.look,dO]),Ψ⟩) ⟨aD,by simp;omega,cx _,bI.symm,Ψ,.nil _,Ψ⟩ ?_;rintro⟨acc,j,k,q⟩ ⟨av,J,tH,cY,h3,fL,n8⟩ _;simp only at av J tH cY h3 fL n8;clear bI hr cU ad vm;subst cY;obtain⟨k,rfl⟩:∃m,k=m+1:=⟨k-1,Ω⟩;have o4:j<=1000000:=Ω
 rcases jB av with rfl|eR
 ·rw[mb];simp only[bP];have ez:=j9 (ky:=ky) (l:=l) (i:=l.length) (s:=[41]) o4 Ψ;have ke:=Jm (ky:=ky) l;simp[oK];refine CallDo.ob (ez) (bp _ _) (by simp only[ah];exact aS) (by simp only[ah];exact aS) (by simp[aI,Pv.look,ah,aF,kinL,kin]) ?_;rintro r aj ⟨rfl,rfl⟩;refine⟨cg _ _ _ _,?_⟩;simp[bA,ah,aF];(with_reducible repeat' first|refine aK ?_|simp);refine CallDo.ob (S0 l) (bp _ _) (by simp only[ah];exact aS) (by simp only[ah];exact aS) (by simp[aI,Pv.look,ah,aF,kinL,kin]) ?_;rintro r aj ⟨rfl,rfl⟩;refine⟨cg _ _ _ _,?_⟩;simp[bA,ah,aF];(with_reducible repeat' first|refine aK ?_|simp);refine CallDo.obK (ke _) (bp _ _) (by simp only[ah];exact aS) (by simp only[ah];exact aS) (by simp[aI,Pv.look,ah,aF,kinL,kin]) Ψ ?_;rintro r aj ⟨x,gw,bj,rfl,rfl⟩;refine⟨cg _ _ _ _,?_⟩;simp[bA,ah,aF];(with_reducible repeat' first|refine aK ?_|simp);refine dX.tm (gw) (.nil) false Ψ (oy bj _) (by simp only[ah];exact aS) ?_;simp[bd,bo,a6,cI,dZ,cc,dm,bW,di,tnL,tn,dt,ej,fold,eh,eg,eY,Pv.look,dj,bF,bC,T.k]
 obtain⟨v,aY⟩:∃v,l[j]? =some v:=⟨_,eo eR⟩;rw[fY aY];have gD:bk ((j:Int)+1):=by unfold bk;omega
 by_cases gq:v=[41]
 ·subst gq;have zD:bP fR (k+1) ([41]::l.drop (j+1)) (acc.map (·.1))=some (gv (acc.map (·.1)) .nil,l.drop (j+1)):=by simp[bP]
  rw[zD];have ez:=qi (ky:=ky) o4 aY;have aG:=tl aY;simp[oK];refine CallDo.ob (ez) (bp _ _) (by simp only[ah];exact aS) (by simp only[ah];exact aS) (by simp[aI,Pv.look,ah,aF,kinL,kin]) ?_;rintro r aj ⟨rfl,rfl⟩;refine⟨cg _ _ _ _,?_⟩;simp[bA,ah,aF];(with_reducible repeat' first|refine aK ?_|simp);refine RP l (j+1) acc _ _ fL n8 Ω Ω (by simp[Pv.get]) _ Ψ Ψ fun b e o jb WY=>?_;simp;(with_reducible repeat' first|refine aK ?_|simp);refine dX.tm (j+1) (gv (acc.map (·.1)) .nil) true Ψ (wq aG) (by simp only[ah];exact aS) ?_;simp[bd,bo,a6,cI,dZ,cc,dm,bW,di,tnL,tn,dt,ej,fold,eh,eg,eY,Pv.look,dj,bF,bC,T.k]
 have ez:=j9 (ky:=ky) o4 (show l[j]?≠some [41] by rw[aY];simpa using gq);by_cases mq:v=[46]
 ·subst mq;have dh:=nZ (ky:=ky) eR;have cT:=a8 k Ω (j+1) Ω Ω;cases dN:rd fR k (l.drop (j+1))with
  |none=>
   rw[dN]at cT;have he:bP fR (k+1) ([46]::l.drop (j+1)) (acc.map (·.1))=none:=by simp[bP,dN]
   rw[he];simp[oK];refine CallDo.ob (ez) (bp _ _) (by simp only[ah];exact aS) (by simp only[ah];exact aS) (by simp[aI,Pv.look,ah,aF,kinL,kin]) ?_;rintro r aj ⟨rfl,rfl⟩;refine⟨cg _ _ _ _,?_⟩;simp[bA,ah,aF];(with_reducible repeat' first|refine aK ?_|simp);refine CallDo.ob (lz aY) (bp _ _) (by simp only[ah];exact aS) (by simp only[ah];exact aS) (by simp[aI,Pv.look,ah,aF,kinL,kin]) ?_;rintro r aj ⟨rfl,rfl⟩;refine⟨cg _ _ _ _,?_⟩;simp[bA,ah,aF];(with_reducible repeat' first|refine aK ?_|simp);refine CallDo.ob (dh) (bp _ _) (by simp only[ah];exact aS) (by simp only[ah];exact aS) (by simp[aI,Pv.look,ah,aF,kinL,kin]) ?_;rintro r aj ⟨rfl,rfl⟩;refine⟨cg _ _ _ _,?_⟩;simp[bA,ah,aF];(with_reducible repeat' first|refine aK ?_|simp[gD]);refine CallDo.obK (cT _) (bp _ _) (by simp only[ah];exact aS) (by simp only[ah];exact aS) (by simp[aI,Pv.look,ah,aF,kinL,kin]) Ψ ?_;rintro r aj ⟨x,gw,bj,rfl,rfl⟩;refine⟨cg _ _ _ _,?_⟩;simp[bA,ah,aF];(with_reducible repeat' first|refine aK ?_|simp);refine dX.tm (gw) (.nil) false Ψ (oy bj _) (by simp only[ah];exact aS) ?_;simp[bd,bo,a6,cI,dZ,cc,dm,bW,di,tnL,tn,dt,ej,fold,eh,eg,eY,Pv.look,dj,bF,bC,T.k]
  |some tr=>
   obtain⟨t,rest⟩:=tr;rw[dN]at cT;obtain⟨gh,n9⟩:=yk (qb k _ _ _ dN).1;obtain⟨p,aV⟩:∃p,p=l.length-rest.length:=⟨_,rfl⟩;rw[<-aV]at gh;have qX:=DM cT aV.symm;have gE:p<=l.length:=Ω
   by_cases b1:acc=[]
   ·subst b1;rw[show bP fR (k+1) ([46]::l.drop (j+1)) (([]:List (T×Nat)).map (·.1))=none by simp[bP]];simp[oK];refine CallDo.ob (ez) (bp _ _) (by simp only[ah];exact aS) (by simp only[ah];exact aS) (by simp[aI,Pv.look,ah,aF,kinL,kin]) ?_;rintro r aj ⟨rfl,rfl⟩;refine⟨cg _ _ _ _,?_⟩;simp[bA,ah,aF];(with_reducible repeat' first|refine aK ?_|simp);refine CallDo.ob (lz aY) (bp _ _) (by simp only[ah];exact aS) (by simp only[ah];exact aS) (by simp[aI,Pv.look,ah,aF,kinL,kin]) ?_;rintro r aj ⟨rfl,rfl⟩;refine⟨cg _ _ _ _,?_⟩;simp[bA,ah,aF];(with_reducible repeat' first|refine aK ?_|simp);refine CallDo.ob (dh) (bp _ _) (by simp only[ah];exact aS) (by simp only[ah];exact aS) (by simp[aI,Pv.look,ah,aF,kinL,kin]) ?_;rintro r aj ⟨rfl,rfl⟩;refine⟨cg _ _ _ _,?_⟩;simp[bA,ah,aF];(with_reducible repeat' first|refine aK ?_|simp[gD]);refine CallDo.obK (qX _) (bp _ _) (by simp only[ah];exact aS) (by simp only[ah];exact aS) (by simp[aI,Pv.look,ah,aF,kinL,kin]) Ψ ?_;rintro r aj ⟨rfl,rfl⟩;refine⟨cg _ _ _ _,?_⟩;simp[bA,ah,aF];(with_reducible repeat' first|refine aK ?_|simp);refine dX.tm (p) (.nil) false Ψ (oy gE _) (by simp only[ah];exact aS) ?_;simp[bd,bo,a6,cI,dZ,cc,dm,bW,di,tnL,tn,dt,ej,fold,eh,eg,eY,Pv.look,dj,bF,bC,T.k]
   ·have lk:0<acc.length:=pL.2 b1;have WG:¬acc.length=0:=Ω
    have WH:acc.length<=100000:=Ω
    have va:((acc.length:Int)==0)=false:=beq_eq_false_iff_ne.2 Ω;by_cases xc:l[p]? =some [41]
    ·have Aa:=qi (ky:=ky) (show p<=1000000 by omega) xc;have zO:rest=[41]::l.drop (p+1):=by rw[gh];exact fY xc
     rw[show bP fR (k+1) ([46]::l.drop (j+1)) (acc.map (·.1))=some (gv (acc.map (·.1)) t,l.drop (p+1)) by simp[bP,dN,zO,b1]];have aG:=tl xc;have zv:bk ((acc.length:Int)-1):=by unfold bk;omega
     have fK:=sy.kin (fL.mono (show q+2<=q+2+2 by omega)) (cx _) [.obj ky];simp[fresh]at fK;simp[oK];refine CallDo.ob (ez) (bp _ _) (by simp only[ah];exact aS) (by simp only[ah];exact aS) (by simp[aI,Pv.look,ah,aF,kinL,kin]) ?_;rintro r aj ⟨rfl,rfl⟩;refine⟨cg _ _ _ _,?_⟩;simp[bA,ah,aF];(with_reducible repeat' first|refine aK ?_|simp);refine CallDo.ob (lz aY) (bp _ _) (by simp only[ah];exact aS) (by simp only[ah];exact aS) (by simp[aI,Pv.look,ah,aF,kinL,kin]) ?_;rintro r aj ⟨rfl,rfl⟩;refine⟨cg _ _ _ _,?_⟩;simp[bA,ah,aF];(with_reducible repeat' first|refine aK ?_|simp);refine CallDo.ob (dh) (bp _ _) (by simp only[ah];exact aS) (by simp only[ah];exact aS) (by simp[aI,Pv.look,ah,aF,kinL,kin]) ?_;rintro r aj ⟨rfl,rfl⟩;refine⟨cg _ _ _ _,?_⟩;simp[bA,ah,aF];(with_reducible repeat' first|refine aK ?_|simp[gD]);refine CallDo.obK (qX _) (bp _ _) (by simp only[ah];exact aS) (by simp only[ah];exact aS) (by simp[aI,Pv.look,ah,aF,kinL,kin]) Ψ ?_;rintro r aj ⟨rfl,rfl⟩;refine⟨cg _ _ _ _,?_⟩;simp[bA,ah,aF];(with_reducible repeat' first|refine aK ?_|simp[va]);refine CallDo.ob (Aa) (bp _ _) (by simp only[ah];exact aS) (by simp only[ah];exact aS) (by simp[aI,Pv.look,ah,aF,kinL,kin]) ?_;rintro r aj ⟨rfl,rfl⟩;refine⟨cg _ _ _ _,?_⟩;simp[bA,ah,aF];(with_reducible repeat' first|refine aK ?_|simp[zv]);refine jI (wJ ky l acc t p q) (fun x=>x.1) (fun x=>x.1<=acc.length/\q+4<=x.2.2/\q+2<=x.2.1/\x.2.1<x.2.2) (acc.length,q+2,q+4) (by simp[wJ,I6,gv,zv];exact⟨by simp[fresh,kinL,kin,cA,aI,Pv.look,dO,fK],fh (by simp[fresh,kinL,kin,cA,aI,Pv.look,dO,fK]),fi (by simp[fresh,kinL,kin,eD,aI,Pv.look,dO,fK]),Ψ⟩) ⟨cx _,cx _,cx _,Ψ⟩ ?_;rintro⟨m,c,r⟩ ⟨hm,hr,lT,mu⟩ _;simp only at hm hr lT mu;clear ez Aa cT qX dh dN zO gh fK;cases m with
     |zero=>simp[wJ];(with_reducible repeat' first|refine aK ?_|simp);refine dX.tm (p+1) (gv (acc.map (·.1)) t) true Ψ (wq aG) (by simp only[ah];exact aS) ?_;simp[bd,bo,a6,cI,dZ,cc,dm,bW,di,tnL,tn,dt,ej,fold,eh,eg,eY,Pv.look,dj,bF,bC,T.k]
     |succ m=>
      have hz:m<acc.length:=hm;obtain⟨y,bs⟩:∃y,acc[m]? =some y:=⟨_,eo hz⟩;have gO:∀h,(jr acc (m+1))[m]'h=y.1.k y.2:=fun h=>by have:=I7 bs;rw[eo h]at this;exact iL this
      have o6:bk ((m:Int)-1):=by unfold bk;omega
      have zG:bk (m:Int):=by unfold bk;omega
      have iX:=n8 y (gL bs);have Rl:=fL.lt y (gL bs);have b5:∀k,¬q=r+k:=fun k=>Ω
      have nj:∀k,¬r+k=q:=fun k=>Ω
      have Qw:Pv.kinL (fun k=> ¬fresh (r+132) [.obj ky] k) (jr acc (m+1)):=zZ fun p aV h=>by have I:=fL.lt p aV;have ak:r+132<=p.2:=h.1;omega
      have im:gv ((acc.drop m).map (·.1)) t= .pair y.1 (gv ((acc.drop (m+1)).map (·.1)) t):=by obtain⟨e8,vo⟩:=gp.1 bs;rw[pJ e8,vo];rfl
      rw[List.map_drop,List.map_drop]at im;have mx:Pv.kinL (fun k=> ¬fresh (r+132+1+1+1+1+1) [.obj ky] k) (jr acc m):=zZ fun p aV h=>by have I:=fL.lt p aV;have ak:r+132+1+1+1+1+1<=p.2:=h.1;omega
      simp[fresh]at mx;have iC:¬r+132+1+1+1+1+1<=q+3:=Ω
      have Dp:¬y.2=c:=Ω
      have tD:=Dw (N:=[.loc y.2,.loc c]) fL bs (by simp;omega) Ψ;simp[wJ];(with_reducible repeat' first|refine aK ?_|simp[gO,hz,o6,zG]);refine iP.fdK fun K1 xe=>?_;refine iP.of mixed sY Ch Ec Ψ [(2,.ptr (.loc 0) 0),(5,.slice 4 (.own (.loc 1)) (jr acc (m+1))),(6,.ptr (.loc (q+3)) 0),(8,.int .i64 m)] (fun k=> ¬fresh (r+132) [.obj ky] k) (fun k h=>h) (by simp[kin,Qw];simp[fresh];omega) fun pq sj p3 sk=>?_;have pb:∀k,r+132<=k->aq.loc k∉pq:=fun k J h=>p3 _ h ⟨J,Ψ⟩;clear sj p3 sk;unfold yS;simp[pb,b5,nj];(with_reducible repeat' first|refine aK ?_|simp[pb,b5,nj]);simp[s4,bd,bo,a6,b5,nj];refine xe _ ?_ ?_
      ·simp[cI,dZ,dt,ej,cc,dm,bW,di,tn,tnL,nu,pb _ (show r+132<=r+132+1+1+1+1 by omega),Dp]
      ·simp[cc,dm,bW,di,tn,tnL,fold,eh,eg,bF,bC,tD,nu,b5,nj];refine⟨o6,?_⟩;refine cQ.whl (m,r+132+1+1+1+1,r+132+1+1+1+1+1) Ψ ⟨by simp;omega,by simp;omega,by simp;omega,Ψ⟩ ?_;simp[wJ,im,T.kind,T.int,T.name,T.args];exact⟨by simp[fresh,kinL,kin,cA,aI,Pv.look,mx,iC],fh (by simp[fresh,kinL,kin,cA,aI,Pv.look,mx,iC]),fi (by simp[fresh,kinL,kin,eD,aI,Pv.look,mx,iC]),Ψ⟩
    ·have Aa:=j9 (ky:=ky) (show p<=1000000 by omega) xc;have h4:bP fR (k+1) ([46]::l.drop (j+1)) (acc.map (·.1))=none:=by
      cases rest with
      |nil=>simp[bP,dN,b1]
      |cons v r=>
       have:l[p]? =some v:=by rw[<-List.head?_drop,<-gh];rfl
       have Rc:¬v=[41]:=by rintro rfl;exact xc this
       simp[bP,dN,b1,Rc]
     rw[h4];simp[oK];refine CallDo.ob (ez) (bp _ _) (by simp only[ah];exact aS) (by simp only[ah];exact aS) (by simp[aI,Pv.look,ah,aF,kinL,kin]) ?_;rintro r aj ⟨rfl,rfl⟩;refine⟨cg _ _ _ _,?_⟩;simp[bA,ah,aF];(with_reducible repeat' first|refine aK ?_|simp);refine CallDo.ob (lz aY) (bp _ _) (by simp only[ah];exact aS) (by simp only[ah];exact aS) (by simp[aI,Pv.look,ah,aF,kinL,kin]) ?_;rintro r aj ⟨rfl,rfl⟩;refine⟨cg _ _ _ _,?_⟩;simp[bA,ah,aF];(with_reducible repeat' first|refine aK ?_|simp);refine CallDo.ob (dh) (bp _ _) (by simp only[ah];exact aS) (by simp only[ah];exact aS) (by simp[aI,Pv.look,ah,aF,kinL,kin]) ?_;rintro r aj ⟨rfl,rfl⟩;refine⟨cg _ _ _ _,?_⟩;simp[bA,ah,aF];(with_reducible repeat' first|refine aK ?_|simp[gD]);refine CallDo.obK (qX _) (bp _ _) (by simp only[ah];exact aS) (by simp only[ah];exact aS) (by simp[aI,Pv.look,ah,aF,kinL,kin]) Ψ ?_;rintro r aj ⟨rfl,rfl⟩;refine⟨cg _ _ _ _,?_⟩;simp[bA,ah,aF];(with_reducible repeat' first|refine aK ?_|simp[va]);refine CallDo.ob (Aa) (bp _ _) (by simp only[ah];exact aS) (by simp only[ah];exact aS) (by simp[aI,Pv.look,ah,aF,kinL,kin]) ?_;rintro r aj ⟨rfl,rfl⟩;refine⟨cg _ _ _ _,?_⟩;simp[bA,ah,aF];(with_reducible repeat' first|refine aK ?_|simp);refine dX.tm (p) (.nil) false Ψ (oy gE _) (by simp only[ah];exact aS) ?_;simp[bd,bo,a6,cI,dZ,cc,dm,bW,di,tnL,tn,dt,ej,fold,eh,eg,eY,Pv.look,dj,bF,bC,T.k]
 ·have cT:=a8 k Ω j av Ω;have hW:(v==[46])=false:=beq_eq_false_iff_ne.2 mq;rw[fY aY]at cT;cases dN:rd fR k (v::l.drop (j+1))with
  |none=>rw[dN]at cT;rw[show bP fR (k+1) (v::l.drop (j+1)) (acc.map (·.1))=none by simp[bP,dN,gq,mq]];simp[oK];refine CallDo.ob (ez) (bp _ _) (by simp only[ah];exact aS) (by simp only[ah];exact aS) (by simp[aI,Pv.look,ah,aF,kinL,kin]) ?_;rintro r aj ⟨rfl,rfl⟩;refine⟨cg _ _ _ _,?_⟩;simp[bA,ah,aF];(with_reducible repeat' first|refine aK ?_|simp);refine CallDo.ob (lz aY) (bp _ _) (by simp only[ah];exact aS) (by simp only[ah];exact aS) (by simp[aI,Pv.look,ah,aF,kinL,kin]) ?_;rintro r aj ⟨rfl,rfl⟩;refine⟨cg _ _ _ _,?_⟩;simp[bA,ah,aF];(with_reducible repeat' first|refine aK ?_|simp[hW]);refine CallDo.obK (cT _) (bp _ _) (by simp only[ah];exact aS) (by simp only[ah];exact aS) (by simp[aI,Pv.look,ah,aF,kinL,kin]) Ψ ?_;rintro r aj ⟨x,gw,bj,rfl,rfl⟩;refine⟨cg _ _ _ _,?_⟩;simp[bA,ah,aF];(with_reducible repeat' first|refine aK ?_|simp);refine dX.tm (gw) (.nil) false Ψ (oy bj _) (by simp only[ah];exact aS) ?_;simp[bd,bo,a6,cI,dZ,cc,dm,bW,di,tnL,tn,dt,ej,fold,eh,eg,eY,Pv.look,dj,bF,bC,T.k]
  |some tr=>
   obtain⟨t,rest⟩:=tr;rw[dN]at cT;obtain⟨sr,ss⟩:=qb k _ _ _ dN;rw[<-fY aY]at sr ss;obtain⟨gh,n9⟩:=yk sr;obtain⟨p,aV⟩:∃p,p=l.length-rest.length:=⟨_,rfl⟩;rw[<-aV]at gh;have qX:=DM cT aV.symm;have gE:p<=l.length:=Ω
   have IP:j<p:=by simp at ss;omega
   rw[show bP fR (k+1) (v::l.drop (j+1)) (acc.map (·.1))=bP fR k rest ((acc++[(t,q+2)]).map (·.1)) by simp[bP,dN,gq,mq]];have lk:acc.length+1<=b0:=by unfold b0;omega
   simp[oK];refine CallDo.ob (ez) (bp _ _) (by simp only[ah];exact aS) (by simp only[ah];exact aS) (by simp[aI,Pv.look,ah,aF,kinL,kin]) ?_;rintro r aj ⟨rfl,rfl⟩;refine⟨cg _ _ _ _,?_⟩;simp[bA,ah,aF];(with_reducible repeat' first|refine aK ?_|simp);refine CallDo.ob (lz aY) (bp _ _) (by simp only[ah];exact aS) (by simp only[ah];exact aS) (by simp[aI,Pv.look,ah,aF,kinL,kin]) ?_;rintro r aj ⟨rfl,rfl⟩;refine⟨cg _ _ _ _,?_⟩;simp[bA,ah,aF];(with_reducible repeat' first|refine aK ?_|simp[hW]);refine CallDo.obK (qX _) (bp _ _) (by simp only[ah];exact aS) (by simp only[ah];exact aS) (by simp[aI,Pv.look,ah,aF,kinL,kin]) Ψ ?_;rintro r aj ⟨rfl,rfl⟩;refine⟨cg _ _ _ _,?_⟩;simp[bA,ah,aF];(with_reducible repeat' first|refine aK ?_|simp[lk]);have ba:=fL.snoc t (cx (q+2)) (show q+2<q+3+2 by omega);have fK:=sy.kin ba (cx _) [.obj ky];simp[fresh]at fK;refine cQ.whl (acc++[(t,q+2)],p,k,q+3) (by simp;omega) ⟨gE,by simp;omega,by simp;omega,by simp[<-gh],by simp;omega,ba,fun YK YL ad=>?_⟩ ?_
   ·rcases hp.1 ad with ad|ad
    ·exact n8 _ ad
    ·simp at ad;omega
   simp[oK];exact⟨by simp[fresh,kinL,kin,cA,aI,Pv.look];exact⟨rfl,fK⟩,fh (by simp[fresh,kinL,kin,cA,aI,Pv.look]),fi (by simp[fresh,kinL,kin,cA,aI,Pv.look,eD]),Ψ⟩
end
section
open Go Go.Pv
theorem A9{α:Type}{p:α->Bool}{s:List α}{i k:Nat}(jk:i<=k)(J:k<=s.length)(mr:∀c∈(s.drop i).take (k-i),p c=true)(hT:∀c,s[k]? =some c->p c=false):(s.drop i).takeWhile p=(s.drop i).take (k-i)/\(s.drop i).dropWhile p=s.drop k:=by
 have I:s.drop i=(s.drop i).take (k-i)++s.drop k:=by have:=(List.take_append_drop (k-i) (s.drop i)).symm;rwa[List.drop_drop,show i+(k-i)=k by omega]at this
 have aa:(s.drop k).takeWhile p=[]/\(s.drop k).dropWhile p=s.drop k:=by
  cases h:s.drop k with
  |nil=>simp
  |cons c r=>
   have:s[k]? =some c:=by rw[<-List.head?_drop,h];rfl
   have aA:=hT c this;simp[aA]
 constructor
 ·conv=>lhs;rw[I]
  rw[List.takeWhile_append_of_pos mr,aa.1,List.append_nil]
 ·conv=>lhs;rw[I]
  rw[List.dropWhile_append_of_pos mr,aa.2]
def ka(o:aR (List (List az))):ab:=match o with
 |some l=>.tuple [.slice 1 .no (dw l),.bool true]
 |none=>.tuple [.slice 1 .no [],.bool false]
theorem J1(c:az):ps c=true↔(c.toNat:Int)=10\/(32<=(c.toNat:Int)/\(c.toNat:Int)<=126):=by
 unfold ps;simp only[Bool.or_eq_true,da,bD,fQ];have:c=10↔c.toNat=10:=by rw[<-UInt8.toNat_inj];rfl
 rw[this];omega
theorem mM{c d:az}(h:c≠d):((c.toNat:Int)==(d.toNat:Int))=false:=beq_eq_false_iff_ne.2 fun e=>h (UInt8.toNat_inj.1 Ω)
theorem uv{c d:az}(h:c≠d):((c.toNat:Int) !=(d.toNat:Int))=true:=by simp only[bne,mM h];rfl
def BN:C:=(al [jA 1 0,bQ 2 false] (al [dv 3 4 1,l7 4 27 [.t 3,(cO 80)],bc 5 .leq 4 80,ae 6 5,aO 6 true (dv 7 4 1),aO 6 true (ef 8 28 7),ff 9 6 8,ae 2 9] .ret))
@[simp] def El:List cG:=[.tmp 2]
def GF:C:=(al [rD 0 1] (al [fk (.bsl 1 1 9 [(.c (.str [116,114,117,101])),(.c (.str [102,97,105,108])),(.c (.str [61])),(.c (.str [47,61])),(.c (.str [115,121,109,98,111,108])),(.c (.str [110,117,109,98,101,114])),(.c (.str [97,98,115,101,110,116])),(.c (.str [97,110,100])),(.c (.str [111,114])),(.c (.str [])),(.c (.str [110,111,116]))]),ae 0 1] .ret))
@[simp] def Ts:List cG:=[.tmp 0]
def GD:C:=(al [jA 2 0,cF 4 0] (al [cF 5 1] (.seq (al [bE 8 3 1 2,bB 9 1 8,ee 10 9,cF 11 0] (uy 12 11 10 (.seq (.block 1 (al [eS 13 4 9 11,dv 14 4 13,fk (.alloc 7 none (.agg [.int .i64 0,.str [],.slice 4 .nil [],.slice 4 .nil []])),bY 4 7 14] (.seq (al [ae 15 5,ae 16 1,c6 17 .gtr 15 16] (be 17 (al [ae 18 5,ae 4 18] .ret) .skip)) (.region [ae 19 5,dv 20 4 7,ae 21 1,ae 22 5,c6 23 .sub 21 22,gK 24 27 20 23,c6 25 .add 19 24,ae 5 25])))) (.region [bc 26 .add 11 1,ae 11 26])))) (al [ae 27 5,ae 4 27] .ret))))
@[simp] def Tr:List cG:=[.tmp 4]
def oL:C:=(al [jA 1 0,bQ 2 false] (.seq (al [bE 6 0 1 1,bB 7 1 6,l7 8 24 [.t 7,(cO 0),(cO 10)],eK 9 8,ae 10 9,aO 10 false (bE 11 0 1 1),aO 10 false (bB 12 1 11),aO 10 false (bc 13 .neq 12 9),b7 10 false 14 13,aO 14 true (bE 15 1 1 1),aO 14 true (bB 16 1 15),lD 14 true 17 (.bin .neq false (.t 16) (.c (.str []))),aO 10 false (ff 18 14 17),dD 19 10 18,ae 20 19,aO 20 false (bE 21 2 1 1),aO 20 false (bB 22 1 21),aO 20 false (ef 23 39 22),aO 20 false (eK 24 23),dD 25 20 24] (be 25 (al [bQ 2 false] .ret) .skip)) (al [bE 26 2 1 1,bB 27 1 26,ee 28 27,jd 29 1 3 [(cO 0),(cO 0),(cO 2),(cO 2),(cO 1),(cO 1),(cO 2),(cO 0),(cO 0),.t 28,(cO 0)],bE 30 0 1 1,bB 31 1 30,eS 32 1 29 31,bB 33 1 32,ae 3 33] (.seq (al [bE 34 2 1 1,bB 35 1 34,ee 36 35,ae 37 3,c6 38 .neq 36 37,ae 39 38,b7 39 false 40 3,aO 39 false (bc 41 .gtr 40 4),dD 42 39 41,ae 43 42,aO 43 false (bE 44 0 1 1),aO 43 false (bB 45 1 44),aO 43 false (bc 46 .lss 45 7),b7 43 false 47 46,aO 47 true (bE 48 3 1 1),aO 47 true (bB 49 1 48),aO 47 true (ee 50 49),aO 47 true (bc 51 .gtr 50 0),aO 43 false (ff 52 47 51),dD 53 43 52,ae 54 53,aO 54 false (bE 55 3 1 1),aO 54 false (bB 56 1 55),aO 54 false (ee 57 56),aO 54 false (bc 58 .gtr 57 8),dD 59 54 58] (be 59 (al [bQ 2 false] .ret) .skip)) (.seq (al [bE 60 3 1 1,bB 61 1 60,ee 62 61,cF 63 0] (uy 64 63 62 (.seq (.block 1 (al [eS 65 4 61 63,dv 66 4 65,fk (.alloc 5 none (.agg [.int .i64 0,.str [],.slice 4 .nil [],.slice 4 .nil []])),bY 4 5 66] (al [dv 67 4 5,ef 68 28 67,eK 69 68] (be 69 (al [bQ 2 false] .ret) .skip)))) (.region [bc 70 .add 63 1,ae 63 70])))) (.seq (al [bE 71 0 1 1,bB 72 1 71] (.block 2 (al [bc 74 .eql 72 6,ae 73 74] (be 73 (al [bE 75 2 1 1,bB 76 1 75,s0 77 4 76 0,bE 78 0 1 77,bB 79 1 78,bc 80 .eql 79 2,ae 2 80] .ret) (al [bc 82 .eql 72 9,ae 81 82] (be 81 (al [bE 83 3 1 1,bB 84 1 83,ee 85 84,bc 86 .eql 85 0,ae 87 86,aO 87 true (bE 88 1 1 1),aO 87 true (bB 89 1 88),aO 87 true (ef 90 40 89),ff 91 87 90,ae 2 91] .ret) (al [bc 93 .eql 72 10,ae 92 93] (be 92 (al [bE 94 3 1 1,bB 95 1 94,ee 96 95,bc 97 .eql 96 1,ae 98 97,aO 98 true (bE 99 3 1 1),aO 98 true (bB 100 1 99),aO 98 true (s0 101 4 100 0),aO 98 true (bE 102 0 1 101),aO 98 true (bB 103 1 102),aO 98 true (bc 104 .eql 103 9),ff 105 98 104,ae 2 105] .ret) .skip)))))))) (al [bQ 2 true] .ret)))))))
@[simp] def vV:List cG:=[.tmp 2]
def Gy:C:=(al [bQ 2 false] (.seq (al [ae 5 0,ee 6 5,cF 7 0] (uy 8 7 6 (.seq (.block 1 (al [eS 9 4 5 7,dv 10 4 9,hZ 4 dO,bY 4 4 10] (al [dv 11 4 4,ef 12 55 11,eK 13 12] (be 13 (al [bQ 2 false] .ret) .skip)))) (.region [bc 14 .add 7 1,ae 7 14])))) (al [bQ 2 true] .ret)))
@[simp] def To:List cG:=[.tmp 2]
def Gv:C:=(al [bQ 2 false] (.seq (al [fk (.bsl 5 1 9 [(.c (.str [116,114,117,101])),(.c (.str [102,97,105,108])),(.c (.str [115,121,109,98,111,108])),(.c (.str [110,117,109,98,101,114])),(.c (.str [97,98,115,101,110,116])),(.c (.str [97,110,100])),(.c (.str [111,114])),(.c (.str [110,111,116])),(.c (.str [100,101,102,105,110,101]))]),ee 6 5,cF 7 0] (uy 8 7 6 (.seq (.block 1 (al [eS 9 1 5 7,bB 10 1 9,ae 4 10] (al [ae 11 4,ae 12 0,c6 13 .eql 11 12] (be 13 (al [bQ 2 false] .ret) .skip)))) (.region [bc 14 .add 7 1,ae 7 14])))) (al [ae 15 0,ef 16 50 15,ae 2 16] .ret)))
@[simp] def Tl:List cG:=[.tmp 2]
def yV:C:=(al [a7 2 (.mov (.c (.str [])))] (.seq (al [ae 4 0,bc 5 .lss 4 0] (be 5 (.seq (al [ae 6 0,bc 7 .quo 6 10,bc 8 .eql 7 0] (be 8 (al [ae 9 0,a7 10 (.bin .sub false (cO 48) (.t 9)),a7 11 (.conv .u8 (.t 10)),jd 12 1 5 [.t 11],a7 13 (.b2s (.t 12)),a7 14 (.bin .add false (.c (.str [45])) (.t 13)),ae 2 14] .ret) .skip)) (.seq (.drawn true 44 [ae 15 0,bc 16 .quo 15 10,ef 17 58 16,ae 18 0,bc 19 .rem 18 10,a7 20 (.bin .sub false (cO 48) (.t 19)),a7 21 (.conv .u8 (.t 20)),jd 22 1 5 [.t 21],a7 23 (.b2s (.t 22)),c6 24 .add 17 23,ae 2 24]) .ret)) .skip)) (al [a7 3 (.mov (.c (.str [])))] (.seq (.block 0 (.loop (.seq (al [ae 25 0,bc 26 .gtr 25 9] (be 26 .skip (.exit 0))) (.block 1 (al [ae 27 0,bc 28 .rem 27 10,a7 29 (.bin .add false (cO 48) (.t 28)),a7 30 (.conv .u8 (.t 29)),jd 31 1 5 [.t 30],a7 32 (.b2s (.t 31)),ae 33 3,c6 34 .add 32 33,ae 3 34] (.region [ae 35 0,bc 36 .quo 35 10,ae 0 36])))))) (al [ae 37 0,a7 38 (.bin .add false (cO 48) (.t 37)),a7 39 (.conv .u8 (.t 38)),jd 40 1 5 [.t 39],a7 41 (.b2s (.t 40)),ae 42 3,c6 43 .add 41 42,ae 2 43] .ret)))))
@[simp] def AO:List cG:=[.tmp 2]
def sX:List (Nat×cm):=[
 (3,⟨1,8,.int .i64,.int .i64 0⟩),
 (5,⟨1,1,.int .u8,.int .u8 0⟩),
 (9,⟨1,16,.str,.str []⟩),
 (22,⟨1,24,.slice 51,.slice 4 .nil []⟩),
 (23,⟨1,24,.slice 25,.slice 4 .nil []⟩),
 (25,⟨4,72,.struct [(0,3),(1,9),(2,22),(3,23)],.agg [.int .i64 0,.str [],.slice 4 .nil [],.slice 4 .nil []]⟩),
 (31,⟨1,24,.slice 9,.slice 1 .nil []⟩),
 (51,⟨4,56,.struct [(0,3),(1,3),(2,9),(3,22)],.agg [.int .i64 0,.int .i64 0,.str [],.slice 4 .nil []]⟩),
 (64,⟨1,24,.slice 3,.slice 1 .nil []⟩),
 (72,⟨1,24,.slice 5,.slice 1 .nil []⟩)]
theorem kc:dE aP sX=true:=by kernel_rfl
theorem Kb:dA sX BN El 1 Tryd.f11=true:=by kernel_rfl
theorem Hq:aP.funcs[(11:Nat)]? =some Tryd.f11:=Tryd.func11
theorem SP:dA sX GF Ts 0 Tryd.f25=true:=by kernel_rfl
theorem O7:aP.funcs[(25:Nat)]? =some Tryd.f25:=Tryd.func25
theorem SO:dA sX GD Tr 2 Tryd.f27=true:=by kernel_rfl
theorem O6:aP.funcs[(27:Nat)]? =some Tryd.f27:=Tryd.func27
theorem p9:dA sX oL vV 1 Tryd.f28=true:=by kernel_rfl
theorem pU:aP.funcs[(28:Nat)]? =some Tryd.f28:=Tryd.func28
theorem SJ:dA sX Gy To 1 Tryd.f39=true:=by kernel_rfl
theorem O1:aP.funcs[(39:Nat)]? =some Tryd.f39:=Tryd.func39
theorem SG:dA sX Gv Tl 1 Tryd.f40=true:=by kernel_rfl
theorem OY:aP.funcs[(40:Nat)]? =some Tryd.f40:=Tryd.func40
theorem Ef:dA sX yV AO 1 Tryd.f58=true:=by kernel_rfl
theorem Ck:aP.funcs[(58:Nat)]? =some Tryd.f58:=Tryd.func58
theorem Bp(d:Nat)(h:d<10):IntKind.u8.wrap (48+(d:Int))=((48+d:Nat):Int):=by rcases(by omega:d=0\/d=1\/d=2\/d=3\/d=4\/d=5\/d=6\/d=7\/d=8\/d=9)with rfl|rfl|rfl|rfl|rfl|rfl|rfl|rfl|rfl|rfl<;>rfl
theorem G6(d:Nat):lF (48+(d:Int)).toNat=48+lF d:=by rw[show(48+(d:Int)).toNat=48+d by omega];simp
theorem G5(d:Nat)(h:d<10):lF (IntKind.u8.wrap (48+(d:Int))).toNat=48+lF d:=by rw[Bp d h,Int.toNat_natCast];simp
theorem G4(m:Nat)(h:m<18446744073709551616):(Lib.decDigits m).length<=25:=by
 have:∀(k:Nat) (m:Nat),m<10 ^ (k+1)->(Lib.decDigits m).length<=k+1:=by
  intro k;induction k with
  |zero=>intro m hm;rw[pR (by simpa using hm)];simp
  |succ k a8=>
   intro m hm;by_cases h:m<10
   ·rw[pR h];simp
   ·rw[rR Ω,jT];have:=a8 (m/10) (by rw[Nat.pow_succ]at hm;omega);simp;omega
 exact this 24 m Ω
theorem TK(m:Nat)(h:m<=9223372036854775807):ca aP 58 [.int .i64 m] (.str (Lib.decDigits m)):=by
 have bR:¬(m:Int)<0:=Ω
 have nf:=G4 m Ω;generalize bI:Lib.decDigits m=R at nf;refine bZ kc Ck Ef fun aT=>?_;unfold yV;clear aT;simp;(with_reducible repeat' first|refine aK ?_|simp[bR]);refine jI (fun(x:Nat×List az)=>⟨[(0,.int .i64 x.1),(3,.str x.2)],[],[],0,[]⟩) (fun x=>x.1) (fun x=>x.1<=9223372036854775807/\Lib.decDigits x.1++x.2=R) (m,[]) (by simp;exact dQ) ⟨h,by simp[bI]⟩ ?_;rintro⟨j,o⟩ ⟨I,aa⟩ _;simp only at I aa;have zM:o.length<=25:=by rw[<-aa]at nf;simp at nf;omega
 have iC:1+o.length<=b0:=by unfold b0;omega
 have hd:o.length+1<=b0:=by unfold b0;omega
 by_cases av:9<j
 ·have aG:(j:Int).tdiv 10=(j/10:Nat):=by rw[Int.tdiv_eq_ediv_of_nonneg Ω];omega
  have hm:(j:Int).tmod 10=(j%10:Nat):=by rw[Int.tmod_eq_emod_of_nonneg Ω];omega
  have tQ:=Bp (j%10) Ω;have kO:bk (48+((j%10:Nat):Int)):=by unfold bk;omega
  have hw:jS.wrap ((j/10:Nat):Int)=((j/10:Nat):Int):=k9 _ Ω;have Dm:jS.wrap ((j%10:Nat):Int)=((j%10:Nat):Int):=k9 _ Ω;have xL:jS.wrap ((j:Int)/10)=(j:Int)/10:=k9 _ Ω;have xM:lF (IntKind.u8.wrap (48+(j:Int)%10)).toNat=48+lF (j%10):=by have:=G5 (j%10) Ω;rwa[Int.natCast_emod]at this
  have jL:(9:Int)<j:=Ω
  rw[rR Ω]at aa;simp[jL,av];(with_reducible repeat' first|refine aK ?_|simp[aG,hm,tQ,kO,hw,Dm,iC,hd]);refine cQ.whl (j/10,lF (48+j%10)::o) (by simp;omega) ⟨by simp;omega,by rw[<-aa];simp⟩ ⟨by simp[fresh,kinL,kin,cA,aI,Pv.look,xL,xM],fh (by simp[fresh,kinL,kin,cA,aI,Pv.look,xL,xM]),fi (by simp[fresh,kinL,kin,eD,aI,Pv.look,xL,xM]),Ψ⟩
 ·have jL:¬(9:Int)<j:=Ω
  have tQ:=Bp j Ω;have kO:bk (48+(j:Int)):=by unfold bk;omega
  rw[pR Ω]at aa;subst aa;simp[jL,av];(with_reducible repeat' first|refine aK ?_|simp[tQ,kO,iC,hd]);simp[cC,AO,bd,bo,a6];exact G6 j
theorem TJ:∀m:Nat,1<=m->m<=9223372036854775808->ca aP 58 [.int .i64 (-(m:Int))] (.str (45::Lib.decDigits m)):=by
 intro m;induction m using Nat.strongRecOn with
 |_ m a8=>
 intro I aa;have bR:0<m:=Ω
 have nf:=G4 m Ω;have aG:(-(m:Int)).tdiv 10= -((m/10:Nat):Int):=by rw[Int.neg_tdiv,Int.tdiv_eq_ediv_of_nonneg Ω];omega
 have hm:(-(m:Int)).tmod 10= -((m%10:Nat):Int):=by rw[Int.neg_tmod,Int.tmod_eq_emod_of_nonneg Ω];omega
 have hw:jS.wrap (-((m/10:Nat):Int))= -((m/10:Nat):Int):=k9 _ Ω;have Dm:jS.wrap (-((m%10:Nat):Int))= -((m%10:Nat):Int):=k9 _ Ω;by_cases ao:m<10
 ·have eZ:m/10=0:=Ω
  have tQ:=Bp m ao;have kO:bk (48+(m:Int)):=by unfold bk;omega
  have qJ:(-(m:Int)).tdiv 10=0:=by rw[aG,eZ];rfl
  have Rg:jS.wrap 0=0:=rfl;have Dc:(48:Int)- -(m:Int)=48+m:=Ω
  rw[pR ao];refine bZ kc Ck Ef fun aT=>?_;unfold yV;clear aT;simp;(with_reducible repeat' first|refine aK ?_|simp[bR,qJ,Rg,Dc,tQ,kO]);simp[cC,AO,bd,bo,a6];exact G6 m
 ·have aN:(-(m:Int)).tdiv 10= -((m:Int)/10):=by rw[aG];simp
  have hB:(-(m:Int)).tmod 10= -((m:Int)%10):=by rw[hm];simp
  have xL:jS.wrap (-((m:Int)/10))= -((m:Int)/10):=k9 _ Ω;have xM:jS.wrap (-((m:Int)%10))= -((m:Int)%10):=k9 _ Ω;have QQ:((-((m:Int)/10))==0)=false:=beq_eq_false_iff_ne.2 Ω;have cT:=a8 (m/10) Ω Ω Ω;rw[Int.natCast_ediv]at cT;have tQ:lF (IntKind.u8.wrap (48+(m:Int)%10)).toNat=48+lF (m%10):=by have:=G5 (m%10) Ω;rwa[Int.natCast_emod]at this
  have kO:bk (48+(m:Int)%10):=by unfold bk;omega
  have Dc:(48:Int)- -((m:Int)%10)=48+(m:Int)%10:=Ω
  rw[rR Ω]at nf⊢;simp at nf;have iC:(Lib.decDigits (m/10)).length+1+1<=b0:=by unfold b0;omega
  clear aG hm hw Dm a8 nf;refine bZ kc Ck Ef fun aT=>?_;unfold yV;clear aT;simp;(with_reducible repeat' first|refine aK ?_|refine bq cT ?_|refine br cT ?_|simp[bR,aN,hB,xL,xM,QQ,Dc,tQ,kO,iC]);simp[cC,AO,bd,bo,a6]
theorem LM(n:Int)(h:bk n):ca aP 58 [.int .i64 n] (.str (Lib.itoa n)):=by
 unfold bk at h;unfold Lib.itoa;by_cases bR:n<0
 ·rw[if_pos bR];have:=TJ n.natAbs Ω Ω;rwa[show-(n.natAbs:Int)=n by omega]at this
 ·rw[bh bR];have:=TK n.toNat Ω;rwa[show(n.toNat:Int)=n by omega]at this
def Gx:C:=(al [bQ 6 false] (al [ae 7 0,ae 8 1,c6 9 .geq 7 8,ae 10 9,b7 10 true 11 0,b7 10 true 12 2,aO 10 true (c6 13 .leq 11 12),ff 14 10 13,ae 6 14] .ret))
@[simp] def KB:List cG:=[.tmp 6]
def Gu:C:=(al [bQ 2 false] (.seq (al [cF 3 0] (.block 0 (.loop (.seq (al [ae 5 3,ae 6 0,a7 7 (.slen (.t 6)),c6 8 .lss 5 7] (be 8 .skip (.exit 0))) (.seq (.block 1 (al [ae 11 0,ae 12 3,a7 13 (.sidx (.t 11) (.t 12)),a7 14 (.bin .geq false (.t 13) (.c (.int .u8 97))),ae 15 14,b7 15 true 16 0,b7 15 true 17 3,aO 15 true (a7 18 (.sidx (.t 16) (.t 17))),aO 15 true (a7 19 (.bin .leq false (.t 18) (.c (.int .u8 122)))),ff 20 15 19,ae 4 20] (al [ae 21 4,eK 22 21,ae 23 22,b7 23 true 24 3,aO 23 true (bc 25 .eql 24 0),b7 23 true 26 25,b7 26 false 27 0,b7 26 false 28 3,aO 26 false (a7 29 (.sidx (.t 27) (.t 28))),aO 26 false (a7 30 (.bin .neq false (.t 29) (.c (.int .u8 45)))),b7 26 false 31 30,b7 31 true 32 0,b7 31 true 33 3,aO 31 true (a7 34 (.sidx (.t 32) (.t 33))),aO 31 true (a7 35 (.conv .i64 (.t 34))),aO 31 true (l7 36 24 [.t 35,(cO 48),(cO 57)]),aO 31 true (eK 37 36),aO 26 false (ff 38 31 37),aO 23 true (dD 39 26 38),ff 40 23 39] (be 40 (al [bQ 2 false] .ret) .skip)))) (.region [ae 9 3,bc 10 .add 9 1,ae 3 10])))))) (al [ae 41 0,a7 42 (.slen (.t 41)),l7 43 24 [.t 42,(cO 1),(cO 12)],ae 2 43] .ret)))
@[simp] def vU:List cG:=[.tmp 2]
def jW:C:=(al [jA 1 0,bQ 2 false] (.seq (al (bE 3 0 1 1::bB 4 1 3::bc 5 .neq 4 1::ae 6 5::aO 6 true (bE 7 0 1 1)::aO 6 true (bB 8 1 7)::aO 6 true (bc 9 .neq 8 3)::ff 10 6 9::ae 11 10::aO 11 true (bE 12 1 1 1)::aO 11 true (bB 13 1 12)::aO 11 true (bc 14 .neq 13 0)::ff 15 11 14::ae 16 15::aO 16 false (bE 17 0 1 1)::aO 16 false (bB 18 1 17)::aO 16 false (bc 19 .neq 18 2)::b7 16 false 20 19::aO 20 true (bE 21 2 1 1)::aO 20 true (bB 22 1 21)::lD 20 true 23 (.bin .neq false (.t 22) (.c (.str [])))::aO 16 false (ff 24 20 23)::dD 25 16 24::ae 26 25::aO 26 false (bE 27 0 1 1)::aO 26 false (bB 28 1 27)::aO 26 false (bc 29 .neq 28 4)::b7 26 false 30 29::aO 30 true (bE 31 3 1 1)::aO 30 true (bB 32 1 31)::aO 30 true (ee 33 32)::aO 30 true (bc 34 .gtr 33 0)::aO 26 false (ff 35 30 34)::dD 36 26 35::[]) (be 36 (al [bQ 2 false] .ret) .skip)) (.seq (al [bE 37 0 1 1,bB 38 1 37] (.block 0 (al [bc 40 .eql 38 0,ae 39 40] (be 39 (al [bQ 2 true] .ret) (al [bc 42 .eql 38 1,ae 41 42] (be 41 (al [bE 43 1 1 1,bB 44 1 43,l7 45 24 [.t 44,(cO 0),(cO 100000)],ae 2 45] .ret) (al [bc 47 .eql 38 2,ae 46 47] (be 46 (al [bE 48 2 1 1,bB 49 1 48,ef 50 50 49,ae 2 50] .ret) (al [bc 52 .eql 38 3,ae 51 52] (be 51 (al [bE 53 1 1 1,bB 54 1 53,l7 55 24 [.t 54,(cO (-1000000000)),(cO 1000000000)],ae 2 55] .ret) (al [bc 57 .eql 38 4,ae 56 57] (be 56 (al [bE 58 3 1 1,bB 59 1 58,ee 60 59,bc 61 .eql 60 2,ae 62 61,aO 62 true (bE 63 3 1 1),aO 62 true (bB 64 1 63),aO 62 true (s0 65 4 64 0),aO 62 true (dv 66 4 65),aO 62 true (ef 67 53 66),ff 68 62 67,ae 69 68,aO 69 true (bE 70 3 1 1),aO 69 true (bB 71 1 70),aO 69 true (s0 72 4 71 1),aO 69 true (dv 73 4 72),aO 69 true (ef 74 53 73),ff 75 69 74,ae 2 75] .ret) .skip)))))))))))) (al [bQ 2 false] .ret))))
@[simp] def jP:List cG:=[.tmp 2]
def Gw:C:=(al [jA 1 0,bQ 2 false] (al [dv 3 4 1,l7 4 59 [.t 3,(cO 5000)],bc 5 .leq 4 5000,ae 6 5,aO 6 true (dv 7 4 1),aO 6 true (ef 8 53 7),ff 9 6 8,ae 2 9] .ret))
@[simp] def Tm:List cG:=[.tmp 2]
def Gz:C:=(al [jA 2 0,cF 4 0] (al [cF 5 1] (.seq (al [bE 8 3 1 2,bB 9 1 8,ee 10 9,cF 11 0] (uy 12 11 10 (.seq (.block 1 (al [eS 13 4 9 11,dv 14 4 13,hZ 7 dO,bY 4 7 14] (.seq (al [ae 15 5,ae 16 1,c6 17 .gtr 15 16] (be 17 (al [ae 18 5,ae 4 18] .ret) .skip)) (.region [ae 19 5,dv 20 4 7,ae 21 1,ae 22 5,c6 23 .sub 21 22,gK 24 59 20 23,c6 25 .add 19 24,ae 5 25])))) (.region [bc 26 .add 11 1,ae 11 26])))) (al [ae 27 5,ae 4 27] .ret))))
@[simp] def Em:List cG:=[.tmp 4]
def wu:List (Nat×cm):=[
 (3,⟨1,8,.int .i64,.int .i64 0⟩),
 (5,⟨1,1,.int .u8,.int .u8 0⟩),
 (9,⟨1,16,.str,.str []⟩),
 (22,⟨1,24,.slice 51,.slice 4 .nil []⟩),
 (51,⟨4,56,.struct [(0,3),(1,3),(2,9),(3,22)],.agg [.int .i64 0,.int .i64 0,.str [],.slice 4 .nil []]⟩)]
theorem jc:dE aP wu=true:=by kernel_rfl
theorem SI:dA wu Gx KB 3 Tryd.f24=true:=by kernel_rfl
theorem O0:aP.funcs[(24:Nat)]? =some Tryd.f24:=Tryd.func24
theorem SF:dA wu Gu vU 1 Tryd.f50=true:=by kernel_rfl
theorem OX:aP.funcs[(50:Nat)]? =some Tryd.f50:=Tryd.func50
theorem kC:dA wu jW jP 1 Tryd.f53=true:=by kernel_rfl
theorem kn:aP.funcs[(53:Nat)]? =some Tryd.f53:=Tryd.func53
theorem SH:dA wu Gw Tm 1 Tryd.f55=true:=by kernel_rfl
theorem OZ:aP.funcs[(55:Nat)]? =some Tryd.f55:=Tryd.func55
theorem SK:dA wu Gz Em 2 Tryd.f59=true:=by kernel_rfl
theorem O2:aP.funcs[(59:Nat)]? =some Tryd.f59:=Tryd.func59
mutual
def jX:aZ->Int->Int
 | .mk _ _ _ args,m=>cntLS args 1 m
def cntLS:List aZ->Int->Int->Int
 |[],n,_=>n
 |x::xs,n,m=>if m<n then n else cntLS xs (n+jX x (m-n)) m
end
mutual
theorem BU:∀(t:aZ) (m:Int),0<=m->1<=jX t m/\jX t m<=m+1
 | .mk _ _ _ args,m,h=>by simp only[jX];exact GW args 1 m h Ω Ω
theorem GW:∀(l:List aZ) (n m:Int),0<=m->1<=n->n<=m+1->1<=cntLS l n m/\cntLS l n m<=m+1
 |[],n,m,_,I,aa=>by simp only[cntLS];exact⟨I,aa⟩
 |x::xs,n,m,bR,I,aa=>by
  simp only[cntLS];split
  ·exact⟨I,aa⟩
  ·have:=BU x (m-n) Ω;exact GW xs _ m bR Ω Ω
end
theorem BT:∀(t:T) (m:Int),0<=m->(jX t.tm m<=m↔(t.size:Int)<=m)/\((t.size:Int)<=m->jX t.tm m=t.size)
 | .pair a b,m,h=>by
  have b1:=T.size_pos a;have af:=T.size_pos b;simp only[T.tm,jX,cntLS,T.size];by_cases I:m<1
  ·rw[if_pos I];exact⟨Ω,fun h=>Ω⟩
  ·rw[bh I];obtain⟨bt,a2⟩:=BT a (m-1) Ω;have a3:=BU a.tm (m-1) Ω;by_cases aa:(a.size:Int)<=m-1
   ·have e:=a2 aa;rw[e];by_cases ak:m<1+(a.size:Int)
    ·omega
    ·rw[bh ak];obtain⟨bO,bU⟩:=BT b (m-(1+a.size)) Ω;refine⟨Ω,fun h=>?_⟩;rw[bU Ω];omega
   ·have:¬jX a.tm (m-1)<=m-1:=fun h=>aa (bt.1 h);rw[if_pos Ω];exact⟨Ω,fun h=>Ω⟩
 | .nil,m,h=>by simp[T.tm,jX,cntLS,T.size]
 | .var _,m,h=>by simp[T.tm,jX,cntLS,T.size]
 | .sym _,m,h=>by simp[T.tm,jX,cntLS,T.size]
 | .num _,m,h=>by simp[T.tm,jX,cntLS,T.size]
theorem Ng(t:aZ)(m:Int):jX t m=cntLS t.args 1 m:=by cases t;rfl
theorem Ux(t:aZ):∀m:Int,0<=m->m<=1000000->ca aP 59 [enc t,.int .i64 m] (.int .i64 (jX t m)):=by
 suffices H:∀(k:Nat) (t:aZ),t.sz<=k->∀m:Int,0<=m->m<=1000000->ca aP 59 [enc t,.int .i64 m] (.int .i64 (jX t m))from H _ t (cx _)
 intro k;induction k with
 |zero=>intro t au;cases t;simp[aZ.sz]at au
 |succ k a8=>
  intro t au m bR I;refine bZ jc O2 SK fun aT=>?_;unfold Gz;have hf:t.args.length<=68719476736:=by rw[uQ]at aT;simp[je,jE,jf,b0]at aT;omega
  simp;refine Ca [1,9,10] (fun i (n:Int)=>[(5,.int .i64 n),(11,.int .i64 i)]) t.args.length (fun i n=>(1<=n/\n<=m+1)/\cntLS (t.args.drop i) n m=jX t m) 1 dQ ⟨Ω,by simp[Ng]⟩ (fun n av _=>?_) (fun i n aD av _=>?_)
  ·simp;(with_reducible repeat' first|refine aK ?_|simp);simp[cC,Em,bd,bo,a6];have:=av.2;simp[cntLS]at this;exact this
  ·obtain⟨⟨xv,n8⟩,av⟩:=av;obtain⟨x,ad,hX⟩:=h0 aD;have aG:t.args.drop i=x::t.args.drop (i+1):=by rw[pJ aD,hX]
   have cE:x.sz<=k:=by have:=Lj (gL ad);omega
   rw[aG]at av;simp only[cntLS]at av;simp[aD,hX];by_cases af:m<n
   ·rw[if_pos af]at av;(with_reducible repeat' first|refine aK ?_|simp[af]);simp[cC,Em,bd,bo,a6];exact av
   ·rw[bh af]at av;have aA:=BU x (m-n) Ω;((with_reducible repeat' first|refine aK ?_|refine bq (a8 x cE (m-n) Ω Ω) ?_|refine br (a8 x cE (m-n) Ω Ω) ?_|simp[af]|((first|apply dY|apply ed|apply ec)<;>intro h<;>try simp at h))<;>(try exact eM));exact cQ.rng (n+jX x (m-n)) aD ⟨Ω,av⟩ dQ
theorem dH(n lo aD:Int):ca aP 24 [.int .i64 n,.int .i64 lo,.int .i64 aD] (.bool (decide (lo<=n/\n<=aD))):=by
 refine bZ jc O0 SI fun aT=>?_;unfold Gx;simp;((with_reducible repeat' first|refine aK ?_|simp|((first|apply dY|apply ed|apply ec)<;>intro h<;>try simp at h))<;>(try exact eM));all_goals simp[cC,KB,bd,bo,a6]
 all_goals first|omega|(simp;done)|(simp;omega)
def eT:aZ->Bool
 | .mk k n s [a,b]=>k==4&&n==0&&s==[]&&eT a&&eT b
 | .mk k n s []=>ju k n s
 |_=>false
theorem wh:∀x:T,eT x.tm=x.ok
 | .nil=>by simp[T.tm,eT,ju,T.ok]
 | .var _=>by simp[T.tm,eT,ju,T.ok]
 | .sym _=>by simp[T.tm,eT,ju,T.ok]
 | .num _=>by simp[T.tm,eT,ju,T.ok]
 | .pair a b=>by simp[T.tm,eT,T.ok,wh a,wh b]
theorem TV:∀(m:Nat) (t:aZ),t.sz<=m->eT t=true->∃x:T,x.tm=t:=by
 intro m;induction m with
 |zero=>intro t au;cases t;simp[aZ.sz]at au
 |succ m a8=>
  rintro⟨k,n,s,args⟩ au h;match args with
  |[a,b]=>
   simp[aZ.sz,aZ.szL]at au;simp only[eT,bD,da]at h;obtain⟨⟨⟨⟨rfl,rfl⟩,ak⟩,I⟩,aa⟩:=h;obtain⟨x,rfl⟩:=a8 a Ω I;obtain⟨y,rfl⟩:=a8 b Ω aa;have:s=[]:=by simpa using ak
   subst this;exact⟨.pair x y,rfl⟩
  |[]=>
   simp only[eT,ju]at h;split at h
   ·subst_vars;simp at h;exact⟨.nil,by simp[T.tm,h]⟩
   split at h
   ·subst_vars;simp at h;exact⟨.var n,by simp[T.tm,h]⟩
   split at h
   ·subst_vars;simp at h;exact⟨.sym s,by simp[T.tm,h]⟩
   split at h
   ·subst_vars;simp at h;exact⟨.num n,by simp[T.tm,h]⟩
   ·simp at h
  |[_]=>simp[eT]at h
  |_::_::_::_=>simp[eT]at h
theorem Pd(t:aZ):t.fits=(decide (jX t 5000<=5000)&&eT t):=by
 by_cases h:eT t=true
 ·obtain⟨x,rfl⟩:=TV _ t (cx _) h;have:=(BT x 5000 Ω).1;rw[aZ.fits_T,T.fit,h];rw[wh]at h;simp[h,this];omega
 ·have bR:t.fits=false:=by
   cases aH:t.fits with
   |false=>rfl
   |true=>obtain⟨x,rfl,ad⟩:=aZ.fits_ex aH;rw[wh]at h;simp[T.fit]at ad;exact absurd ad.1 h
  simp at h;rw[bR,h];simp
def Dy(s:List az)(i:Nat):Prop:=i<=s.length/\∀k,k<i->j5 (s.getD k 0)=true/\(k=0->low (s.getD k 0)=true)
theorem Rv{s:List az}(h:Dy s s.length):gU s=decide (1<=s.length/\s.length<=12):=by
 unfold gU;by_cases aB:1<=s.length
 ·have I:=(h.2 0 Ω).2 rfl;have aa:(s.drop 1).all j5=true:=by rw[kd];intro b af;obtain⟨i,aD,e⟩:=List.getElem_of_mem af;simp at aD e;have:=(h.2 (i+1) Ω).1;rw[List.getD_eq_getElem?_getD,eo Ω]at this;simp only[oG]at this;rw[<-e];exact this
  rw[I,aa];simp
 ·have:decide (1<=s.length/\s.length<=12)=false:=by simp;omega
  rw[this];simp
theorem Ru{s:List az}{i:Nat}(aD:i<s.length)(h:j5 (s.getD i 0)=false\/(i=0/\low (s.getD i 0)=false)):gU s=false:=by
 cases e:gU s with
 |false=>rfl
 |true=>
  exfalso;simp only[gU,bD,kd]at e;obtain⟨⟨_,ai⟩,aE⟩:=e;rcases h with h|⟨rfl,h⟩
  ·by_cases bR:i=0
   ·subst bR;rw[j5,ai]at h;simp at h
   ·have:=aE (s.getD i 0) (by rw[List.getD_eq_getElem?_getD,eo aD];simp only[oG];refine List.mem_iff_getElem.2 ⟨i-1,by simp;omega,?_⟩;simp[show i-1+1=i from by omega])
    rw[this]at h;cases h
  ·rw[ai]at h;cases h
theorem fW(s:List az):ca aP 50 [.str s] (.bool (gU s)):=by
 generalize bI:gU s=R;refine bZ jc OX SF fun aT=>?_;unfold Gu;have hf:s.length<=68719476736:=by simp[je,jE,jf,b0]at aT;omega
 simp;refine N4 [0] (fun(i:Nat)=>[(3,.int .i64 i)]) (fun i=>s.length-i) (Dy s) 0 dQ ⟨Ω,fun k J=>Ω⟩ (fun i av _=>?_);have jM:=av.1;by_cases aD:i<s.length
 ·have gd:=Ru aD;rw[bI]at gd;obtain⟨c,aA,eE⟩:=h0 aD;have CA:s.getD i 0=c:=by simp[List.getD_eq_getElem?_getD,aA]
  rw[CA]at gd;have fE:j5 c=true->(i=0->low c=true)->Dy s (i+1):=fun I aa=>⟨Ω,fun k J=>by
   rcases(by omega:k<i\/k=i)with h|rfl
   ·exact av.2 k h
   ·rw[CA];exact⟨I,aa⟩⟩
  have hw:jS.wrap (c.toNat:Int)=c.toNat:=k9 _ (by have:=c.toNat_lt;omega);simp[aD,eE,aA];by_cases bL:(97:Int)<=c.toNat
  ·by_cases ck:(c.toNat:Int)<=122
   ·have aB:low c=true:=by simp[low];omega
    (with_reducible repeat' first|refine aK ?_|refine bq (dH _ _ _) ?_|refine br (dH _ _ _) ?_|simp[aD,eE,aA,bL,ck]);exact cQ.whl (i+1) Ω (fE (by simp[j5,aB]) (fun _=>aB)) dQ
   ·have aB:low c=false:=by simp[low];omega
    by_cases bR:i=0
    ·rw[gd (.inr ⟨bR,aB⟩)];have oW:((i:Int)==0)=true:=by simp[bR]
     (with_reducible repeat' first|refine aK ?_|refine bq (dH _ _ _) ?_|refine br (dH _ _ _) ?_|simp[aD,eE,aA,bL,ck,oW,hw]);simp[cC,vU,bd,bo,a6]
    ·have oW:((i:Int)==0)=false:=by simp[bR]
     by_cases dd:(c.toNat:Int)=45
     ·have q6:((c.toNat:Int) !=45)=false:=by simp[dd]
      (with_reducible repeat' first|refine aK ?_|refine bq (dH _ _ _) ?_|refine br (dH _ _ _) ?_|simp[aD,eE,aA,bL,ck,oW,hw,dd,q6]);all_goals exact cQ.whl (i+1) Ω (fE (by simp[j5];omega) (fun h=>absurd h bR)) dQ
     ·have q6:((c.toNat:Int) !=45)=true:=by simp[dd]
      by_cases du:(48:Int)<=c.toNat/\(c.toNat:Int)<=57
      ·(with_reducible repeat' first|refine aK ?_|refine bq (dH _ _ _) ?_|refine br (dH _ _ _) ?_|simp[aD,eE,aA,bL,ck,oW,hw,dd,q6,du]);all_goals exact cQ.whl (i+1) Ω (fE (by simp[j5];omega) (fun h=>absurd h bR)) dQ
      ·rw[gd (.inl (by simp[j5,aB];omega))];(with_reducible repeat' first|refine aK ?_|refine bq (dH _ _ _) ?_|refine br (dH _ _ _) ?_|simp[aD,eE,aA,bL,ck,oW,hw,dd,q6,du]);simp[cC,vU,bd,bo,a6]
  ·have aB:low c=false:=by simp[low];omega
   by_cases bR:i=0
   ·rw[gd (.inr ⟨bR,aB⟩)];have oW:((i:Int)==0)=true:=by simp[bR]
    (with_reducible repeat' first|refine aK ?_|refine bq (dH _ _ _) ?_|refine br (dH _ _ _) ?_|simp[aD,eE,aA,bL,oW,hw]);simp[cC,vU,bd,bo,a6]
   ·have oW:((i:Int)==0)=false:=by simp[bR]
    by_cases dd:(c.toNat:Int)=45
    ·have q6:((c.toNat:Int) !=45)=false:=by simp[dd]
     (with_reducible repeat' first|refine aK ?_|refine bq (dH _ _ _) ?_|refine br (dH _ _ _) ?_|simp[aD,eE,aA,bL,oW,hw,dd,q6]);all_goals exact cQ.whl (i+1) Ω (fE (by simp[j5];omega) (fun h=>absurd h bR)) dQ
    ·have q6:((c.toNat:Int) !=45)=true:=by simp[dd]
     by_cases du:(48:Int)<=c.toNat/\(c.toNat:Int)<=57
     ·(with_reducible repeat' first|refine aK ?_|refine bq (dH _ _ _) ?_|refine br (dH _ _ _) ?_|simp[aD,eE,aA,bL,oW,hw,dd,q6,du]);all_goals exact cQ.whl (i+1) Ω (fE (by simp[j5];omega) (fun h=>absurd h bR)) dQ
     ·rw[gd (.inl (by simp[j5,aB];omega))];(with_reducible repeat' first|refine aK ?_|refine bq (dH _ _ _) ?_|refine br (dH _ _ _) ?_|simp[aD,eE,aA,bL,oW,hw,dd,q6,du]);simp[cC,vU,bd,bo,a6]
 ·have:i=s.length:=Ω
  subst this;rw[Rv av]at bI;simp[aD];(with_reducible repeat' first|refine aK ?_|refine bq (dH _ _ _) ?_|refine br (dH _ _ _) ?_|simp[aD]);simp[cC,vU,bd,bo,a6];rw[<-bI,Bool.eq_iff_iff];simp;omega
end
end Go.Proofs.YtlnndmgfngfeiaaDoor
