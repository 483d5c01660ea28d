/- From a contract to the row: texts that come in. -/
import Derived.Test.YtlnndmgfngfeiaaGreatDoorProg
import Derived.ProofKit
import Derived.Carry
import Derived.WalkKit
import Derived.Deep.Slices
import Derived.Lib.LaidTab
import Derived.Stop.LaidErr
import Derived.Lib.ItoaNum
import Derived.Test.YtlnndmgfngfeiaaGreatDoorZp9
set_option linter.all false
set_option maxHeartbeats 4000000
set_option maxRecDepth 4000
open Bool renaming and_eq_true->bM
open Go renaming TypeId->fI
open Go.Proofs.Tryz renaming f7->jM,prog->aQ
open Go.Value renaming int->nK
open List renaming all_eq_true->jy,cons_append->dm,drop_eq_getElem_cons->pd,drop_length->jN,getElem?_drop->k2,getElem?_eq_getElem->cF,getElem?_eq_some_iff->e3,length_cons->lx,length_drop->hg,length_take->pe,map_cons->gY,mem_append->hv,mem_cons->gp,mem_map->lZ,mem_of_getElem?->fJ,take_add_one->k3,take_append_drop->q3,take_length->j4
open Nat renaming eq_or_lt_of_le->iX,le_refl->cq,lt_or_ge->ly
open Option renaming getD->oG,map_eq_some_iff->ij
open Option.some renaming inj->gq
open _root_ renaming ByteArray->jL,False->cZ,Option->aT,UInt8->al,beq_eq_false_iff_ne->jm,decide_eq_true_eq->fK,if_neg->bq
namespace Go.Proofs.YtlnndmgfngfeiaaGreatDoor
section
open Go Go.Pv
def o6(o:aT (List Rl)):ae:=match o with
 |some P=>.tuple [ie P,.bool true]
 |none=>.tuple [ie [],.bool false]
@[simp]theorem aff:ae.agg [.slice 7 .no []]=ie []:=rfl
@[simp]theorem afg(a:Rl)(eE:List Rl):ae.agg [.slice 7 .no (a.e::eE.map Rl.e)]=ie (a::eE):=rfl
theorem UK(w:List al): -1<=fB w/\fB w<=1:=by unfold fB;split<;>(try split)<;>omega
theorem GJ(a:List (List al))(w:List al):et (a++[w])=et a+fB w:=by
 induction a with
 |nil=>simp[et]
 |cons x a bo=>simp only[dm,et,bo];omega
theorem MK:∀l:List (List al),-(l.length:Int)<=et l/\et l<=l.length
 |[]=>by simp[et]
 |w::l=>by have:=UK w;have:=MK l;simp only[et,lx];omega
def iE(l:List (List al))(i:Nat):List Rl×Nat×Int->aS
 |([],fr,d)=>⟨[(2,.ptr (.loc 0) 0),(4,.slice 1 .no (bZ l)),(6,.ptr (.loc 1) 0),(7,.int .i64 fr),(8,.int .i64 d),(22,.slice 1 .no (bZ l)),(23,.int .i64 l.length),(24,.int .i64 i)],[(.loc 0,[.slice 7 .nil []]),(.loc 1,[.slice 7 .nil []])],[],2,[]⟩
 |(x::xs,fr,d)=>⟨[(2,.ptr (.loc 0) 0),(4,.slice 1 .no (bZ l)),(6,.ptr (.loc 1) 0),(7,.int .i64 fr),(8,.int .i64 d),(22,.slice 1 .no (bZ l)),(23,.int .i64 l.length),(24,.int .i64 i)],[(.loc 0,[.slice 7 .nil []]),(.loc 1,[.slice 7 (.own (.loc 4)) (x.e::xs.map Rl.e)])],[(.loc 4,⟨xs.length+1,86,7,none⟩)],5,[]⟩
structure pj (l:List (List al)) (R:ae) (i:Nat) (x:List Rl×Nat×Int):Prop where
 fr:x.2.1<=i
 d:x.2.2=et ((l.drop x.2.1).take (i-x.2.1))
 op:∀m,0<m->m<=i-x.2.1->0<et ((l.drop x.2.1).take m)
 res:∃n,(l.drop x.2.1).length<=n/\o6 (nH ((ov n (l.drop x.2.1)).map (x.1++ ·)))=R
 len:x.1.length<=x.2.1
theorem pj.zero{l:List (List al)}{R:ae}{n:Nat}(aK:l.length<=n)(h:o6 (nH (ov n l))=R):pj l R 0 ([],0,0):=⟨cq _,rfl,fun m I J=>Ω,⟨n,by simpa using aK,by simpa using h⟩,Ψ⟩
theorem pj.more{l:List (List al)}{R:ae}{i:Nat}{P:List Rl}{fr:Nat}{d:Int}(h:pj l R i (P,fr,d)){w:List al}(hw:l[i]? =some w)(aF:0<d+fB w):pj l R (i+1) (P,fr,d+fB w):=by
 obtain⟨I,J,ao,aO,bp⟩:=h;simp only at I J ao aO bp;have e:(l.drop fr).take (i+1-fr)=(l.drop fr).take (i-fr)++[w]:=by rw[show i+1-fr=(i-fr)+1 by omega,k3,k2,show fr+(i-fr)=i by omega,hw];rfl
 refine⟨by simp only;omega,by simp only;rw[e,GJ,<-J],fun m hm HB=>?_,aO,bp⟩;simp only at HB⊢;rcases ly (i-fr) m with bS|il
 ·have:m=i+1-fr:=Ω
  rw[this,e,GJ,<-J];exact aF
 ·exact ao m hm il
theorem pj.end'{l:List (List al)}{R:ae}{i:Nat}{P:List Rl}{fr:Nat}{d:Int}(h:pj l R i (P,fr,d)){w:List al}(hw:l[i]? =some w)(aF:¬0<d+fB w):
  (mF ((l.drop fr).take (i+1-fr))=none->R=o6 none)/\∀x,mF ((l.drop fr).take (i+1-fr))=some x->pj l R (i+1) (P++[x],i+1,0):=by
 obtain⟨I,J,ao,⟨n,aO,cj⟩,bp⟩:=h;simp only at I J ao aO bp cj;have az:=(e3.1 hw).1;have e:(l.drop fr).take (i+1-fr)=(l.drop fr).take (i-fr)++[w]:=by rw[show i+1-fr=(i-fr)+1 by omega,k3,k2,show fr+(i-fr)=i by omega,hw];rfl
 have hlen:((l.drop fr).take (i+1-fr)).length=i+1-fr:=by rw[pe,hg];omega
 have jf:ps 0 (l.drop fr)=some (i+1-fr):=by
  have:=Gu ((l.drop fr).take (i+1-fr)) ((l.drop fr).drop (i+1-fr)) 0 (fun h=>by rw[h]at hlen;simp at hlen;omega) (by rw[e,GJ,<-J];omega) fun k aa gh=>by rw[hlen]at gh;have:=ao k aa Ω;rw[List.take_take,Nat.min_eq_left Ω];omega
  rwa[q3,hlen]at this
 have fL:(l.drop fr).drop (i+1-fr)=l.drop (i+1):=by rw[List.drop_drop];congr 1;omega
 obtain⟨u,us,hu⟩:∃u us,l.drop fr=u::us:=by
  cases aE:l.drop fr with
  |nil=>rw[aE]at hlen;simp at hlen;omega
  |cons u us=>exact⟨u,us,rfl⟩
 obtain⟨n,rfl⟩:∃m,n=m+1:=⟨n-1,by rw[hu]at aO;simp at aO;omega⟩;have HR:ov (n+1) (l.drop fr)=match mF ((l.drop fr).take (i+1-fr))with
   |some x=>(ov n (l.drop (i+1))).map (x:: ·)
   |none=>none:=by
  conv=>lhs;rw[hu];unfold ov
  rw[<-hu,jf];simp only[fL];cases mF ((l.drop fr).take (i+1-fr))<;>rfl
 rw[HR]at cj;constructor
 ·intro aK;rw[aK]at cj;exact cj.symm
 ·intro x af;rw[af]at cj;have XK:(l.drop (i+1)).length<=n:=by simp only[hg]at aO⊢;omega
  refine⟨cq _,by simp[et],fun m hm HB=>by simp only at HB;omega,⟨n,XK,?_⟩,by simp;omega⟩;rw[<-cj];simp only[Option.map_map];congr 3;funext y;simp
theorem pj.fin{l:List (List al)}{R:ae}{P:List Rl}{fr:Nat}{d:Int}(h:pj l R l.length (P,fr,d)):(fr<l.length->0<d/\R=o6 none)/\(fr=l.length->d=0/\R=o6 (nH (some P))):=by
 obtain⟨I,J,ao,⟨n,aO,cj⟩,bp⟩:=h;simp only at I J ao aO bp cj;constructor
 ·intro bS;have aG:(l.drop fr).length=l.length-fr:=hg ..;refine⟨by rw[J];exact ao _ Ω (cq _),?_⟩;have jf:ps 0 (l.drop fr)=none:=by
   cases aE:ps 0 (l.drop fr)with
   |none=>rfl
   |some k=>obtain⟨bB,a2,a3,_⟩:=Gv _ _ _ aE;have:=ao k bB Ω;omega
  obtain⟨u,us,hu⟩:∃u us,l.drop fr=u::us:=by
   cases aE:l.drop fr with
   |nil=>rw[aE]at aG;simp at aG;omega
   |cons u us=>exact⟨u,us,rfl⟩
  have HR:ov n (l.drop fr)=none:=by
   cases n with
   |zero=>rw[hu];rfl
   |succ n=>
    conv=>lhs;rw[hu];unfold ov
    rw[<-hu,jf]
  rw[HR]at cj;exact cj.symm
 ·intro he;subst he;refine⟨by rw[J];simp[et],?_⟩;rw[<-cj,jN];cases n<;>simp[ov]
theorem xM(S:aC->Prop):∀a b:List ae,kinL S (a++b)↔kinL S a/\kinL S b
 |[],b=>by simp[kinL]
 |x::r,b=>by simp only[dm,kinL,xM S r b,and_assoc]
theorem MH(w:List al):mF [w]=none:=by
 unfold mF;cases h:num [] [w]with
 |none=>rfl
 |some p=>
  obtain⟨T,M⟩:=p;have:=Qs h;match T,this with
  |[t],_=>rfl
set_option maxRecDepth 8000 in
theorem aes(s:List al)(aq:s.length<=bN):b6 aQ 37 [.str s] (o6 (pV s)):=by
 have cx:=aev s aq;obtain⟨R,bu⟩:∃R,R=o6 (pV s):=⟨_,rfl⟩;rw[<-bu];have pG:kin (fun _=>cZ) R:=by rw[bu];unfold o6;split<;>simp[kin,kinL]
 rw[abT]at bu;cases aD:iB s with
 |none=>rw[aD]at cx bu;simp only[lU]at cx;simp only[o6]at bu;refine bQ k0 Ng QO (fun aN=>?_) (hr:=pG);unfold Gp;clear aN;simp;(with_reducible repeat' first|refine aA ?_|refine a8 cx ?_|refine ba cx ?_|simp);rw[bu];simp[cg,qL,a1,be,aV]
 |some l=>
 rw[aD]at cx bu;simp only[lU]at cx;simp only at bu;have aG:l.length<=20000/\∀w∈l,w≠[]:=by
  unfold iB at aD;split at aD
  ·rename_i h;cases aD;exact⟨h.2.2,z7 s.length s (cq _)⟩
  ·cases aD
 obtain⟨aG,hw⟩:=aG;refine bQ k0 Ng QO (fun aN=>?_) (hr:=pG);unfold Gp;clear aN;simp;(with_reducible repeat' first|refine aA ?_|refine a8 cx ?_|refine ba cx ?_|simp);clear cx;refine gu (iE l) l.length (fun i x=>pj l R i x) ([],0,0) (by simp[iE];exact⟨by simp[fresh,kinL,kin,bt,au,Pv.look,dT],cR (by simp[fresh,kinL,kin,bt,au,Pv.look,dT]),cS (by simp[fresh,kinL,kin,cB,au,Pv.look,dT]),Ψ⟩) (pj.zero (cq _) bu.symm) (fun x aw _=>?_) (fun i x az aw _=>?_)
 ·obtain⟨P,fr,d⟩:=x;obtain⟨f1,f2⟩:=aw.fin;have ku:=aw.fr;simp only at ku;have b8:=aet P;clear bu aw;rcases ly fr l.length with bS|il
  ·obtain⟨I,hz⟩:=f1 bS;simp only[o6]at hz;have ah:(d !=0)=true:=by simp;omega
   clear f1 f2 b8;cases P with
   |nil=>simp[iE];(with_reducible repeat' first|refine aA ?_|simp[ah]);rw[hz];simp[cg,qL,a1,be,aV]
   |cons a eE=>simp[iE];(with_reducible repeat' first|refine aA ?_|simp[ah]);rw[hz];simp[cg,qL,a1,be,aV]
  ·obtain⟨I,hz⟩:=f2 Ω;subst I;clear f1 f2;cases dS:mr P
   ·rw[dS]at b8;replace hz:R= .tuple [ie [],.bool false]:=by rw[hz];simp[nH,dS,o6]
    cases P with
    |nil=>simp[iE];(with_reducible repeat' first|refine aA ?_|refine a8 b8 ?_|refine ba b8 ?_|simp);rw[hz];simp[cg,qL,a1,be,aV]
    |cons a eE=>simp[iE];(with_reducible repeat' first|refine aA ?_|refine a8 b8 ?_|refine ba b8 ?_|simp);rw[hz];simp[cg,qL,a1,be,aV]
   ·rw[dS]at b8;replace hz:R= .tuple [ie P,.bool true]:=by rw[hz];simp[nH,dS,o6]
    cases P with
    |nil=>simp[iE];(with_reducible repeat' first|refine aA ?_|refine a8 b8 ?_|refine ba b8 ?_|simp);rw[hz];simp[cg,qL,a1,be,aV]
    |cons a eE=>simp[iE];(with_reducible repeat' first|refine aA ?_|refine a8 b8 ?_|refine ba b8 ?_|simp);rw[hz];simp[cg,qL,a1,be,aV]
 obtain⟨P,fr,d⟩:=x;obtain⟨w,af⟩:∃v,l[i]? =some v:=⟨_,cF az⟩;have eQ:∀de,((bZ l)[i]'de)= .str w:=fun de=>by rw[mx az];rw[cF az]at af;rw[gq af]
 have b1:aY ((i:Int)+1):=by unfold aY;omega
 have ku:=aw.fr;have fm:=aw.len;have fL:=aw.d;simp only at ku fm fL;have mg:=MK ((l.drop fr).take (i-fr));rw[<-fL]at mg;have Yj:((l.drop fr).take (i-fr)).length<=20000:=by rw[pe,hg];omega
 have hT:P.length+1<=bN:=by unfold bN;omega
 have d64:aY (d+1):=by unfold aY;omega
 have Dk:aY (d-1):=by unfold aY;omega
 have f1:(fr:Int)<=(i:Int)+1:=Ω
 have f2:(i:Int)+1<=l.length:=Ω
 have rJ:=fun h=>aw.more af h;obtain⟨qv,rC⟩:_/\_:=⟨fun h=>(aw.end' af h).1,fun h=>(aw.end' af h).2⟩;have jH:=Xh ((l.drop fr).take (i+1-fr)) (by rw[pe,hg];omega) fun w oh=>hw w (List.mem_of_mem_drop (List.mem_of_mem_take oh));have lK:((bZ l).take (i+1)).drop fr=bZ ((l.drop fr).take (i+1-fr)):=by unfold bZ;rw[<-List.map_take,<-List.map_drop,List.drop_take]
 have nq:0<=d/\(d=0->(l.drop fr).take (i+1-fr)=[w]):=by
  rcases ly fr i with bS|il
  ·have:=aw.op (i-fr) (by first|omega|(simp only;omega)) (by first|omega|(simp only;omega));simp only at this;exact⟨Ω,fun h=>Ω⟩
  ·have e:fr=i:=Ω
   subst e;refine⟨by simp[fL,et],fun _=>?_⟩;rw[show fr+1-fr=1 by omega,List.take_one,List.head?_drop,af];rfl
 obtain⟨nq,j6⟩:=nq;clear bu aw fL mg Yj;by_cases KI:w=[40]
 ·subst KI;have sP:d+fB [40]=d+1:=by simp[fB]
  rw[sP]at rJ;have aF:0<d+1:=Ω
  have fD:=rJ aF;clear rJ qv rC jH lK sP j6;cases P with
  |nil=>simp[iE,az];(with_reducible repeat' first|refine aA ?_|simp[az,eQ,af,d64,aF,nq,b1]);refine b9.rng (([]:List Rl),fr,d+1) az fD ?_;simp[iE];exact⟨by simp[fresh,kinL,kin,bt,au,Pv.look,dT],cR (by simp[fresh,kinL,kin,bt,au,Pv.look,dT]),cS (by simp[fresh,kinL,kin,cB,au,Pv.look,dT]),Ψ⟩
  |cons a eE=>simp[iE,az];(with_reducible repeat' first|refine aA ?_|simp[az,eQ,af,d64,aF,nq,b1]);refine b9.rng (a::eE,fr,d+1) az fD ?_;simp[iE];exact⟨by simp[fresh,kinL,kin,bt,au,Pv.look,dT],cR (by simp[fresh,kinL,kin,bt,au,Pv.look,dT]),cS (by simp[fresh,kinL,kin,cB,au,Pv.look,dT]),Ψ⟩
 have r2:=uL KI;by_cases KJ:w=[41]
 ·subst KJ;have sP:d+fB [41]=d-1:=by simp[fB];omega
  rw[sP]at rJ qv rC;by_cases aF:0<d-1
  ·have fD:=rJ aF;have hU:1<d:=Ω
   clear rJ qv rC jH lK sP j6;cases P with
   |nil=>simp[iE,az];(with_reducible repeat' first|refine aA ?_|simp[az,eQ,af,Dk,aF,hU,b1]);refine b9.rng (([]:List Rl),fr,d-1) az fD ?_;simp[iE];exact⟨by simp[fresh,kinL,kin,bt,au,Pv.look,dT],cR (by simp[fresh,kinL,kin,bt,au,Pv.look,dT]),cS (by simp[fresh,kinL,kin,cB,au,Pv.look,dT]),Ψ⟩
   |cons a eE=>simp[iE,az];(with_reducible repeat' first|refine aA ?_|simp[az,eQ,af,Dk,aF,hU,b1]);refine b9.rng (a::eE,fr,d-1) az fD ?_;simp[iE];exact⟨by simp[fresh,kinL,kin,bt,au,Pv.look,dT],cR (by simp[fresh,kinL,kin,bt,au,Pv.look,dT]),cS (by simp[fresh,kinL,kin,cB,au,Pv.look,dT]),Ψ⟩
  replace qv:=qv aF;replace rC:=rC aF;have Yo:d=0\/d=1:=Ω
  clear rJ sP;cases kM:mF ((l.drop fr).take (i+1-fr))with
  |none=>
   have hz:=qv kM;simp only[o6]at hz;clear qv rC j6;have hU:¬1<d:=Ω
   cases P with
   |nil=>simp[iE,az];(with_reducible repeat' first|refine aA ?_|simp[az,eQ,af,Dk,aF,hU,b1,f1,f2,lK]);refine CallDo.ob jH jv (fun k cs h=>by simp[Pv.look]at h) (fun k cs h=>by simp[Pv.look]at h) (by simp[kinL,kin]) ?_;rintro r ai bn;rw[kM]at bn;obtain⟨rfl,x,rfl⟩:=bn;refine⟨Same.refl _,?_⟩;simp[bg];(with_reducible repeat' first|refine aA ?_|simp);rw[hz];simp[cg,qL,a1,be,aV]
   |cons a eE=>simp[iE,az];(with_reducible repeat' first|refine aA ?_|simp[az,eQ,af,Dk,aF,hU,b1,f1,f2,lK]);refine CallDo.ob jH jv (fun k cs h=>by simp[Pv.look]at h) (fun k cs h=>by simp[Pv.look]at h) (by simp[kinL,kin]) ?_;rintro r ai bn;rw[kM]at bn;obtain⟨rfl,x,rfl⟩:=bn;refine⟨Same.refl _,?_⟩;simp[bg];(with_reducible repeat' first|refine aA ?_|simp);rw[hz];simp[cg,qL,a1,be,aV]
  |some x=>
   rcases Yo with rfl|rfl
   ·rw[j6 rfl,MH]at kM;cases kM
   have fD:=rC x kM;clear qv rC j6;have i0:aY 0:=by unfold aY;omega
   cases P with
   |nil=>simp[iE,az];(with_reducible repeat' first|refine aA ?_|simp[az,eQ,af,i0,b1,f1,f2,lK]);refine CallDo.ob jH jv (fun k cs h=>by simp[Pv.look]at h) (fun k cs h=>by simp[Pv.look]at h) (by simp[kinL,kin]) ?_;rintro r ai bn;rw[kM]at bn;obtain⟨rfl,rfl⟩:=bn;refine⟨Same.refl _,?_⟩;simp[bg];(with_reducible repeat' first|refine aA ?_|simp[hT,b1]);refine b9.rng ([x],i+1,0) az fD ?_;simp[iE];exact⟨by simp[fresh,kinL,kin,bt,au,Pv.look,dT,xM],cR (by simp[fresh,kinL,kin,bt,au,Pv.look,dT,xM]),cS (by simp[fresh,kinL,kin,cB,au,Pv.look,dT,xM]),Ψ⟩
   |cons a eE=>simp[iE,az];(with_reducible repeat' first|refine aA ?_|simp[az,eQ,af,i0,b1,f1,f2,lK]);refine CallDo.ob jH jv (fun k cs h=>by simp[Pv.look]at h) (fun k cs h=>by simp[Pv.look]at h) (by simp[kinL,kin]) ?_;rintro r ai bn;rw[kM]at bn;obtain⟨rfl,rfl⟩:=bn;refine⟨Same.refl _,?_⟩;simp[bg];(with_reducible repeat' first|refine aA ?_|simp[hT,b1]);refine b9.rng (a::(eE++[x]),i+1,0) az fD ?_;simp[iE];exact⟨by simp[fresh,kinL,kin,bt,au,Pv.look,dT,xM],cR (by simp[fresh,kinL,kin,bt,au,Pv.look,dT,xM]),cS (by simp[fresh,kinL,kin,cB,au,Pv.look,dT,xM]),Ψ⟩
 have qG:=uL KJ;have sP:d+fB w=d:=by unfold fB;simp[KI,KJ]
 rw[sP]at rJ qv rC;by_cases aF:0<d
 ·have fD:=rJ aF;clear rJ qv rC jH lK sP j6;cases P with
  |nil=>simp[iE,az];(with_reducible repeat' first|refine aA ?_|simp[az,eQ,af,r2,qG,aF,b1]);refine b9.rng (([]:List Rl),fr,d) az fD ?_;simp[iE];exact⟨by simp[fresh,kinL,kin,bt,au,Pv.look,dT],cR (by simp[fresh,kinL,kin,bt,au,Pv.look,dT]),cS (by simp[fresh,kinL,kin,cB,au,Pv.look,dT]),Ψ⟩
  |cons a eE=>simp[iE,az];(with_reducible repeat' first|refine aA ?_|simp[az,eQ,af,r2,qG,aF,b1]);refine b9.rng (a::eE,fr,d) az fD ?_;simp[iE];exact⟨by simp[fresh,kinL,kin,bt,au,Pv.look,dT],cR (by simp[fresh,kinL,kin,bt,au,Pv.look,dT]),cS (by simp[fresh,kinL,kin,cB,au,Pv.look,dT]),Ψ⟩
 have de:d=0:=Ω
 subst de;have kM:mF ((l.drop fr).take (i+1-fr))=none:=by rw[j6 rfl];exact MH w
 have hz:=qv aF kM;simp only[o6]at hz;clear rJ sP qv rC j6;cases P with
 |nil=>simp[iE,az];(with_reducible repeat' first|refine aA ?_|simp[az,eQ,af,r2,qG,b1,f1,f2,lK]);refine CallDo.ob jH jv (fun k cs h=>by simp[Pv.look]at h) (fun k cs h=>by simp[Pv.look]at h) (by simp[kinL,kin]) ?_;rintro r ai bn;rw[kM]at bn;obtain⟨rfl,x,rfl⟩:=bn;refine⟨Same.refl _,?_⟩;simp[bg];(with_reducible repeat' first|refine aA ?_|simp);rw[hz];simp[cg,qL,a1,be,aV]
 |cons a eE=>simp[iE,az];(with_reducible repeat' first|refine aA ?_|simp[az,eQ,af,r2,qG,b1,f1,f2,lK]);refine CallDo.ob jH jv (fun k cs h=>by simp[Pv.look]at h) (fun k cs h=>by simp[Pv.look]at h) (by simp[kinL,kin]) ?_;rintro r ai bn;rw[kM]at bn;obtain⟨rfl,x,rfl⟩:=bn;refine⟨Same.refl _,?_⟩;simp[bg];(with_reducible repeat' first|refine aA ?_|simp);rw[hz];simp[cg,qL,a1,be,aV]
def abO(b:Bool)(k:Int):Bool:= !(k==10)&& !(b&&decide (3<=k/\k<=6))
end
end Go.Proofs.YtlnndmgfngfeiaaGreatDoor
namespace Go.Pv
open Go.Proofs.YtlnndmgfngfeiaaGreatDoor
mutual
def Gm.on(b:Bool):Gm->Bool
 | .mk k _ _ g=>abO b k&&Gm.onL b g
def Gm.onL(b:Bool):List Gm->Bool
 |[]=>true
 |x::xs=>x.on b&&Gm.onL b xs
end
end Go.Pv
namespace Go.Proofs.YtlnndmgfngfeiaaGreatDoor
section
open Go Go.Pv
def F8:C:=(ag [gb 1 0,bD 2 false] (.seq (ag [bm 5 0 1 1,bf 6 1 5,c7 7 6,bc 8 .gtr 7 8] (bh 8 (ag [bD 2 false] .ret) .skip)) (.seq (ag [bm 9 0 1 1,bf 10 1 9,c7 11 10,cd 12 0] (lX 13 12 11 (.seq (.block 1 (ag [ab 14 12,cQ 15 7 10 12,ck 16 7 15,dY (.alloc 4 none (.agg [.str [],.int .i64 0,.int .i64 0,.int .i64 0,.str [],.slice 4 .nil [],.slice 4 .nil []])),ab 3 14,bE 7 4 16] (.seq (ag (bm 17 0 1 4::bf 18 1 17::cK 19 103 18::dB 20 19::ab 21 20::aI 21 false (ck 22 1 1)::aI 21 false (bm 23 0 1 4)::aI 21 false (bf 24 1 23)::aI 21 false (eZ 25 119 22 24)::bP 21 false 26 3::aI 21 false (cz 27 .neq 25 26)::dk 28 21 27::ab 29 28::aI 29 false (bm 30 1 1 4)::aI 29 false (bf 31 1 30)::aI 29 false (bc 32 .lss 31 0)::dk 33 29 32::ab 34 33::aI 34 false (bm 35 1 1 4)::aI 34 false (bf 36 1 35)::aI 34 false (bc 37 .gtr 36 4)::dk 38 34 37::ab 39 38::aI 39 false (bm 40 2 1 4)::aI 39 false (bf 41 1 40)::aI 39 false (bc 42 .lss 41 0)::dk 43 39 42::ab 44 43::aI 44 false (bm 45 2 1 4)::aI 44 false (bf 46 1 45)::aI 44 false (bc 47 .gtr 46 8)::dk 48 44 47::[]) (bh 48 (ag [bD 2 false] .ret) .skip)) (ag [nb 49 3 4 4,ck 50 4 49,kC 51 117 [.t 50,(da 60)],bc 52 .lss 51 0,ab 53 52,aI 53 false (nb 54 3 4 4),aI 53 false (ck 55 4 54),aI 53 false (bm 56 1 1 4),aI 53 false (bf 57 1 56),aI 53 false (bm 58 2 1 4),aI 53 false (bf 59 1 58),aI 53 false (cz 60 .add 57 59),aI 53 false (eZ 61 120 55 60),aI 53 false (dB 62 61),dk 63 53 62,ab 64 63,aI 64 false (ck 65 1 1),aI 64 false (nb 66 3 4 4),aI 64 false (ck 67 4 66),aI 64 false (eZ 68 121 65 67),aI 64 false (dB 69 68),dk 70 64 69] (bh 70 (ag [bD 2 false] .ret) .skip))))) (.region [bc 71 .add 12 1,ab 12 71])))) (ag [bD 2 true] .ret))))
@[simp] def r9:List cr:=[.tmp 2]
def LH:C:=(ag [gb 2 0,cd 4 0] (.seq (ag [bm 7 0 1 2,bf 8 1 7,c7 9 8,cd 10 0] (lX 11 10 9 (.seq (.block 1 (ag [ab 12 10,cQ 13 7 8 10,ck 14 7 13,dY (.alloc 6 none (.agg [.str [],.int .i64 0,.int .i64 0,.int .i64 0,.str [],.slice 4 .nil [],.slice 4 .nil []])),ab 5 12,bE 7 6 14] (ag [bm 15 0 1 6,bf 16 1 15,ab 17 1,cz 18 .eql 16 17] (bh 18 (ag [ab 19 5,ab 4 19] .ret) .skip)))) (.region [bc 20 .add 10 1,ab 10 20])))) (ag [cd 4 (-1)] .ret)))
@[simp] def aca:List cr:=[.tmp 4]
def Ly:C:=(ag [dY (.box 2 (some 306) (.t 0)),gb 3 1,bD 4 false] (ag [dY (.alloc 5 (some 307) (.bool false)),dY (.store 1 (.t 5) (.c (.bool true)))] (ag [ck 6 4 3,bk 7 (.mkf 184 [.t 2,.t 5]),eZ 8 157 6 7] (ag [bf 9 1 5,ab 4 9] .ret))))
@[simp] def ab7:List cr:=[.tmp 4]
def AE:C:=(ag [gb 3 0] (ag [bm 5 0 1 3,bf 6 1 5,bc 7 .eql 6 9] (bh 7 (ag [ck 8 1 1,bm 9 1 1 3,bf 10 1 9,eZ 11 119 8 10,ab 4 11] (.seq (.drawn true 26 [ab 12 4,bc 13 .lss 12 0,ab 14 13,aI 14 false (bm 15 0 1 1),aI 14 false (bf 16 1 15),bP 14 false 17 4,aI 14 false (cQ 18 7 16 17),aI 14 false (bm 19 1 1 18),aI 14 false (bf 20 1 19),aI 14 false (bm 21 2 1 3),aI 14 false (bf 22 1 21),aI 14 false (c7 23 22),aI 14 false (cz 24 .neq 20 23),dk 25 14 24]) (bh 25 (.region [dY (.store 1 (.t 2) (.c (.bool false)))]) .skip))) .skip)))
@[simp] def Ce:List cr:=[]
def CH:List (Nat×cJ):=[
 (3,⟨1,8,.int .i64,.int .i64 0⟩),
 (4,⟨1,1,.bool,.bool false⟩),
 (9,⟨1,16,.str,.str []⟩),
 (38,⟨1,24,.slice 40,.slice 4 .nil []⟩),
 (40,⟨4,56,.struct [(0,3),(1,3),(2,9),(3,38)],.agg [.int .i64 0,.int .i64 0,.str [],.slice 4 .nil []]⟩),
 (59,⟨1,24,.slice 86,.slice 7 .nil []⟩),
 (61,⟨1,24,.struct [(0,59)],.agg [.slice 7 .nil []]⟩),
 (63,⟨1,24,.slice 65,.slice 4 .nil []⟩),
 (65,⟨4,72,.struct [(0,3),(1,9),(2,38),(3,63)],.agg [.int .i64 0,.str [],.slice 4 .nil [],.slice 4 .nil []]⟩),
 (86,⟨7,104,.struct [(0,9),(1,3),(2,3),(3,65)],.agg [.str [],.int .i64 0,.int .i64 0,.int .i64 0,.str [],.slice 4 .nil [],.slice 4 .nil []]⟩),
 (191,⟨1,8,.other,.junk⟩)]
theorem wK:ez aQ CH=true:=by kernel_rfl
theorem QC:c8 CH F8 r9 1 Tryz.f50=true:=by kernel_rfl
theorem M3:aQ.funcs[(50:Nat)]? =some Tryz.f50:=Tryz.func50
theorem abh:c8 CH LH aca 2 Tryz.f119=true:=by kernel_rfl
theorem Wf:aQ.funcs[(119:Nat)]? =some Tryz.f119:=Tryz.func119
theorem aa9:c8 CH Ly ab7 2 Tryz.f121=true:=by kernel_rfl
theorem V7:aQ.funcs[(121:Nat)]? =some Tryz.f121:=Tryz.func121
theorem EU:c8 CH AE Ce 3 Tryz.f184=true:=by kernel_rfl
theorem Du:aQ.funcs[(184:Nat)]? =some Tryz.f184:=Tryz.func184
theorem SS(P:List Rl)(s:List al):b6 aQ 119 [ie P,.str s] (.int .i64 (nc P s)):=by
 generalize bu:nc P s=R;refine bQ wK Wf abh fun aN=>?_;unfold LH;have gJ:P.length<=68719476736:=by simp[ie,-nV,iZ,js,ja,bN]at aN;exact aN.1
 clear aN;simp;(with_reducible repeat' first|refine aA ?_|simp);refine gu (fun i (_:Unit)=>⟨[(1,.str s),(8,.slice 7 .no (P.map Rl.e)),(9,.int .i64 P.length),(10,.int .i64 i)],[],[],0,[]⟩) P.length (fun i _=>Eo P s i) () (by simp;exact dw) (fun k b aa=>Ω) (fun _ aw _=>?_) (fun i _ az aw _=>?_)
 ·have:R= -1:=by rw[<-bu];exact Rv fun j f aL=>aw j f (e3.1 aL).1 aL
  subst this;clear aw bu;exact cw
 ·obtain⟨e,he,Yp⟩:=hj az;have b1:aY ((i:Int)+1):=by unfold aY;omega
  by_cases aK:e.name=s
  ·have:R=i:=by rw[<-bu];exact JG he aK aw
   subst this;clear aw bu;subst aK;exact cw
  ·have gK:(e.name==s)=false:=by simpa using aK
   have jB:Eo P s (i+1):=fun k f aa aL=>by
    rcases ly k i with h|h
    ·exact aw k f h aL
    ·obtain rfl:k=i:=Ω
     rw[he]at aL;cases aL;exact aK
   clear aw bu;exact r7
def hx(P:List Rl)(a:Bool):dD:=⟨[(.obj 306,[.slice 7 .no (P.map Rl.e)]),(.obj 307,[.bool a])],[]⟩
theorem wS{P:List Rl}(a:Bool):h8 (hx P a):=by unfold hx;exact h8.of ⟨by intro m;simp[Pv.look],by intro m;simp[Pv.look]⟩ (by simp[kinL,kin,au,Pv.look]) Ψ
theorem Ap{P:List Rl}(a b:Bool):Same (hx P a) (hx P b):=by
 refine⟨fun k=>?_,fun k=>rfl⟩;simp only[hx,Pv.look];repeat' split
 all_goals rfl
def w5(P:List Rl)(g:Gm):Bool:=if g.kind=9 then(match P.find? fun r=>r.name==g.name with|some r=>r.ar==(g.ts.length:Int)|none=>false)else true
theorem T0{P:List Rl}(g:Gm)(h:g.shape=true)(a:Bool):(a&&g.cf P)=g.gs.foldl (fun a x=>a&&x.cf P) (a&&w5 P g):=by
 have aL:∀(l:List Gm) (a:Bool),l.foldl (fun a x=>a&&x.cf P) a=(a&&l.all fun x=>x.cf P):=by
  intro l;induction l with
  |nil=>intro a;simp
  |cons x l bo=>intro a;rw[List.foldl_cons,bo,List.all_cons,Bool.and_assoc]
 rw[aL,Mn,w5,Gs,Bool.and_assoc];by_cases e6:g.kind=9
 ·rw[if_pos e6,if_pos e6];have:g.gs=[]:=by rw[oA,bM]at h;have J:=h.2;rw[bq Ω,if_pos e6]at J;simp at J;exact J.1.2
  rw[this,List.all_nil,Bool.and_true];cases P.find? fun r=>r.name==g.name<;>rfl
 ·rw[bq e6,bq e6,Bool.true_and]
def w6(P:List Rl)(l:List Gm)(a:Bool):Bool:=l.foldl (fun a x=>a&&x.cf P) a
theorem TZ{P:List Rl}{l:List Gm}{i:Nat}{x:Gm}(h:l[i]? =some x)(a:Bool):w6 P (l.take (i+1)) a=(w6 P (l.take i) a&&x.cf P):=by unfold w6;rw[k3,h];simp
theorem W6{P:List Rl}(g:Gm)(a:Bool):b7 aQ 184 [g.e,.ptr (.obj 306) 0,.ptr (.obj 307) 0] (hx P a) fun r ai=>r= .tuple []/\ai=hx P (a&&w5 P g):=by
 have aq:=wS (P:=P) a;have gT:=wS (P:=P) (a&&w5 P g);have gi:=Ap (P:=P) a (a&&w5 P g);have dz:=SS P g.name;unfold w5 at gT gi⊢;by_cases e6:g.kind=9;rotate_left
 ·have xk:(g.kind==9)=false:=jm.2 e6;rw[bq e6,Bool.and_true]at gT gi⊢;unfold hx at aq gT gi⊢;refine b7.mk mixed wK Du EU Ψ aq.obj fun aN b3=>?_;unfold AE;clear aN b3;simp;(with_reducible repeat' first|refine aA ?_|simp[xk]);all_goals refine cW.at _ (.inr rfl) gT gi aB aB ?_
  all_goals simp[du,Ce,a1,be,aV]
 rw[if_pos e6]at gT gi⊢;rcases Ru P g.name with⟨I,J⟩|⟨k,r,I,J,ao⟩
 ·rw[I]at dz;rw[J,Bool.and_false]at gT gi⊢;unfold hx at aq gT gi⊢;refine b7.mk mixed wK Du EU Ψ aq.obj fun aN b3=>?_;unfold AE;clear aN b3;simp;(with_reducible repeat' first|refine aA ?_|refine a8 dz ?_|refine ba dz ?_|simp[e6]);all_goals refine cW.at _ (.inr rfl) gT gi aB aB ?_
  all_goals simp[du,Ce,a1,be,aV]
 ·rw[I]at dz;rw[ao]at gT gi⊢;have aa:=(e3.1 J).1;have fe:∀h,(P[k]'h)=r:=fun h=>by rw[cF aa]at J;exact gq J
  simp only at gT gi⊢;by_cases DP:r.ar=(g.ts.length:Int)
  ·have bp:(r.ar==(g.ts.length:Int))=true:=by simpa using DP
   have cj:(r.ar !=(g.ts.length:Int))=false:=by simpa using DP
   rw[bp,Bool.and_true]at gT gi⊢;unfold hx at aq gT gi⊢;refine b7.mk mixed wK Du EU Ψ aq.obj fun aN b3=>?_;unfold AE;clear aN b3;simp;((with_reducible repeat' first|refine aA ?_|refine a8 dz ?_|refine ba dz ?_|simp[e6,aa,fe,J,cj]|((first|apply dG|apply dJ|apply dI)<;>intro h<;>try simp at h))<;>(try exact ev));all_goals refine cW.at _ (.inr rfl) gT gi aB aB ?_
   all_goals simp[du,Ce,a1,be,aV]
  ·have bp:(r.ar==(g.ts.length:Int))=false:=by simpa using DP
   have cj:(r.ar !=(g.ts.length:Int))=true:=by simpa using DP
   rw[bp,Bool.and_false]at gT gi⊢;unfold hx at aq gT gi⊢;refine b7.mk mixed wK Du EU Ψ aq.obj fun aN b3=>?_;unfold AE;clear aN b3;simp;((with_reducible repeat' first|refine aA ?_|refine a8 dz ?_|refine ba dz ?_|simp[e6,aa,fe,J,cj]|((first|apply dG|apply dJ|apply dI)<;>intro h<;>try simp at h))<;>(try exact ev));all_goals refine cW.at _ (.inr rfl) gT gi aB aB ?_
   all_goals simp[du,Ce,a1,be,aV]
theorem W7(P:List Rl):∀(n:Nat) (g:Gm),g.sz<=n->g.shape=true->∀a:Bool,b7 aQ 157 [g.e,.func 184 [.ptr (.obj 306) 0,.ptr (.obj 307) 0]] (hx P a) fun r ai=>r= .tuple []/\ai=hx P (a&&g.cf P):=by
 intro n;induction n with
 |zero=>intro g aR;have:=g.sz_pos;omega
 |succ n bo=>
 intro g aR gx a;have aq:=wS (P:=P) a;have gT:=wS (P:=P) (a&&g.cf P);have gi:=Ap (P:=P) a (a&&g.cf P);have pO:=W6 (P:=P) g a;have zd:∀x∈g.gs,∀a:Bool,b7 aQ 157 [x.e,.func 184 [.ptr (.obj 306) 0,.ptr (.obj 307) 0]] (hx P a) fun r ai=>r= .tuple []/\ai=hx P (a&&x.cf P):=fun x af a=>bo x (by have:=g.gs_lt af;omega) (shape_gs gx x af) a;have eI:=T0 (P:=P) g gx a;rw[eI,<-w6]at gT gi⊢;generalize iM:(a&&w5 P g)=fc at pO gT gi eI⊢;have Yw:g.gs.length<=1000000:=by have:=(J4 gx).1;omega
 unfold hx at aq;refine b7.mk mixed lV M5 QE Ψ aq.obj fun aN b3=>?_;unfold Ga;clear aN b3;unfold hx;simp;refine CallDo.ob (pO) (wS _) (by unfold hx;exact aB) (by unfold hx;exact aB) (by simp[au,hx,Pv.look]) ?_;rintro r ai ⟨rfl,rfl⟩;refine⟨Ap _ _,?_⟩;unfold hx;simp[bg];(with_reducible repeat' first|refine aA ?_|simp);refine gu (fun i (_:Unit)=>⟨[(1,.func 184 [.ptr (.obj 306) 0,.ptr (.obj 307) 0]),(10,.slice 4 .no (g.gs.map Gm.e)),(11,.int .i64 g.gs.length),(12,.int .i64 i)],(hx P (w6 P (g.gs.take i) fc)).b,[],0,[.obj 306,.obj 307]⟩) g.gs.length (fun _ _=>True) () (by simp[hx,w6];exact⟨by simp[fresh,kinL,kin,bt,au,Pv.look,cX],cR (by simp[fresh,kinL,kin,bt,au,Pv.look,cX]),cS (by simp[fresh,kinL,kin,cB,au,Pv.look,cX]),Ψ⟩) trivial (fun _ _ _=>?_) (fun i _ az _ _=>?_)
 ·simp only[j4,hx]at gT gi⊢;simp;(with_reducible repeat' first|refine aA ?_|simp);all_goals refine cW.at _ (.inr rfl) gT gi aB aB ?_
  all_goals simp[du,Ju,a1,be,aV]
 ·obtain⟨b,ah,oP⟩:=hj az;have kb:=zd b (fJ ah) (w6 P (g.gs.take i) fc);rw[<-TZ ah]at kb;have b1:aY ((i:Int)+1):=by unfold aY;omega
  clear gT gi;simp only[hx];simp[az,oP];(with_reducible repeat' first|refine aA ?_|simp[az,oP]);refine CallDo.ob (kb) (wS _) (by unfold hx;exact aB) (by unfold hx;exact aB) (by simp[au,hx,Pv.look]) ?_;rintro r ai ⟨rfl,rfl⟩;refine⟨Ap _ _,?_⟩;unfold hx;simp[bg];(with_reducible repeat' first|refine aA ?_|simp[b1]);all_goals refine b9.rng () az trivial (by simp[hx];exact⟨by simp[fresh,kinL,kin,bt,au,Pv.look,cX],cR (by simp[fresh,kinL,kin,bt,au,Pv.look,cX]),cS (by simp[fresh,kinL,kin,cB,au,Pv.look,cX]),Ψ⟩)
theorem SL(P:List Rl)(g:Gm)(h:g.shape=true):b6 aQ 121 [ie P,g.e] (.bool (g.cf P)):=by have pO:=W7 P g.sz g (cq _) h true;rw[Bool.true_and]at pO;refine bQ wK V7 aa9 fun aN=>?_;unfold Ly;clear aN;simp;((with_reducible repeat' first|refine aA ?_|simp|((first|apply dG|apply dJ|apply dI)<;>intro h<;>try simp at h))<;>(try exact ev));refine CallDo.ob (pO) (wS _) (by unfold hx;exact aB) (by unfold hx;exact aB) (by simp[au,hx,Pv.look]) ?_;rintro r ai ⟨rfl,rfl⟩;refine⟨Ap _ _,?_⟩;unfold hx;simp[bg];exact cw
theorem KW(P:List Rl)(i:Nat)(r:Rl):sF P i r↔gL r.name=true/\nc P r.name=(i:Nat)/\(0<=r.ar/\r.ar<=4)/\(0<=r.loc/\r.loc<=8)/\0<=iS r.body 60/\qW r.body (r.ar+r.loc)=true/\r.body.cf P=true:=by
 unfold sF iS Gm.fits;simp only[bM,fK];have:=r.body.sz_pos;constructor
 ·rintro⟨I,J,ao,aO,⟨⟨⟨bp,cj⟩,eu⟩,gB⟩,e6⟩;rw[if_pos ⟨bp,cj⟩]at e6;exact⟨J,I,ao,aO,by rw[if_pos ⟨bp,Ω⟩];omega,gB,eu⟩
 ·rintro⟨I,J,ao,aO,bp,cj,eu⟩;split at bp
  ·rename_i h;refine⟨J,I,ao,aO,⟨⟨⟨h.1,Ω⟩,eu⟩,cj⟩,?_⟩;split<;>omega
  ·omega
theorem EI{g:Gm}{n:Int}(h:0<=iS g n):g.shape=true:=by
 unfold iS at h;split at h
 ·rename_i J;exact J.1
 ·omega
def oL(P:List Rl)(i:Nat)(_:Unit):aS:=⟨[(1,.ptr (.loc 0) 0),(10,.slice 7 .no (P.map Rl.e)),(11,.int .i64 P.length),(12,.int .i64 i)],[(.loc 0,[.slice 7 .no (P.map Rl.e)])],[],1,[]⟩
set_option maxRecDepth 8000 in
theorem SN(P:List Rl):b6 aQ 50 [ie P] (.bool (mr P)):=by
 have od:=Qy P;generalize mr P=R at od;by_cases gB:P.length<=8;rotate_left
 ·have:R=false:=by
   cases R with
   |false=>rfl
   |true=>exact absurd (od.1 rfl).1 gB
  subst this;have A4:(8:Int)<P.length:=Ω
  refine bQ wK M3 QC fun aN=>?_;unfold F8;clear aN;exact cw
 have A4:¬(8:Int)<P.length:=Ω
 refine bQ wK M3 QC fun aN=>?_;unfold F8;clear aN;simp;((with_reducible repeat' first|refine aA ?_|simp[A4]|((first|apply dG|apply dJ|apply dI)<;>intro h<;>try simp at h))<;>(try exact ev));refine gu (oL P) P.length (fun i _=> ∀(k:Nat) (r:Rl),k<i->P[k]? =some r->sF P k r) () (by simp[oL];exact dw) (fun k b aa=>Ω) (fun _ aw _=>?_) (fun i _ az aw _=>?_)
 ·have:R=true:=od.2 ⟨gB,fun i r hr=>aw i r (e3.1 hr).1 hr⟩;subst this;clear aw od;simp[oL];((with_reducible repeat' first|refine aA ?_|simp|((first|apply dG|apply dJ|apply dI)<;>intro h<;>try simp at h))<;>(try exact ev));simp[cg,r9,a1,be,aV]
 obtain⟨r,hr⟩:∃e,P[i]? =some e:=⟨_,cF az⟩;have iu:∀h,(P[i]'h)=r:=fun h=>by rw[cF az]at hr;exact gq hr
 have b1:aY ((i:Int)+1):=by unfold aY;omega
 have dz:=SS P r.name;have cD:=Kw r.name;have lN:=ad4 r.body.sz r.body (cq _) 60 Ω;by_cases cm:sF P i r
 ·have jB:∀(k:Nat) (q:Rl),k<i+1->P[k]? =some q->sF P k q:=fun k q aa bn=>by
   rcases ly k i with h|h
   ·exact aw k q h bn
   ·obtain rfl:k=i:=Ω
    rw[hr]at bn;cases bn;exact cm
  obtain⟨aj,aJ,bs,ch,fa,dd,l9⟩:=(KW P i r).1 cm;have iP:=SX r.body (EI fa) (r.ar+r.loc);have jG:=SL P r.body (EI fa);rw[aj]at cD;rw[aJ]at dz;rw[dd]at iP;rw[l9]at jG;have eV:aY (r.ar+r.loc):=by unfold aY;omega
  have bR:¬r.ar<0:=Ω
  have cA:¬4<r.ar:=Ω
  have dE:¬r.loc<0:=Ω
  have dM:¬8<r.loc:=Ω
  have cP:¬iS r.body 60<0:=Ω
  clear aw od aj aJ dd l9;simp[oL,az,iu];((with_reducible repeat' first|refine aA ?_|refine a8 cD ?_|refine ba cD ?_|refine a8 dz ?_|refine ba dz ?_|refine a8 lN ?_|refine ba lN ?_|refine a8 iP ?_|refine ba iP ?_|refine a8 jG ?_|refine ba jG ?_|simp[az,iu,b1,eV,bR,cA,dE,dM,cP]|((first|apply dG|apply dJ|apply dI)<;>intro h<;>try simp at h))<;>(try exact ev));exact b9.rng () az jB (by simp[oL];exact dw)
 have:R=false:=by
  cases R with
  |false=>rfl
  |true=>exact absurd ((od.1 rfl).2 i r hr) cm
 subst this;rw[KW]at cm;clear aw od;cases aj:gL r.name with
 |false=>rw[aj]at cD;clear cm dz lN;simp[oL,az,iu];(with_reducible repeat' first|refine aA ?_|refine a8 cD ?_|refine ba cD ?_|simp[az,iu]);simp[cg,r9,a1,be,aV]
 |true=>
 rw[aj]at cD;generalize nc P r.name=m at dz cm;by_cases cN:m=i;rotate_left
 ·have ah:(m !=(i:Int))=true:=by simpa using cN
  clear cm lN;simp[oL,az,iu];(with_reducible repeat' first|refine aA ?_|refine a8 cD ?_|refine ba cD ?_|refine a8 dz ?_|refine ba dz ?_|simp[az,iu,ah]);simp[cg,r9,a1,be,aV]
 subst cN;by_cases c3:0<=r.ar;rotate_left
 ·have bR:r.ar<0:=Ω
  clear cm lN;simp[oL,az,iu];(with_reducible repeat' first|refine aA ?_|refine a8 cD ?_|refine ba cD ?_|refine a8 dz ?_|refine ba dz ?_|simp[az,iu,bR]);simp[cg,r9,a1,be,aV]
 have bR:¬r.ar<0:=Ω
 by_cases c4:r.ar<=4;rotate_left
 ·have cA:4<r.ar:=Ω
  clear cm lN;simp[oL,az,iu];(with_reducible repeat' first|refine aA ?_|refine a8 cD ?_|refine ba cD ?_|refine a8 dz ?_|refine ba dz ?_|simp[az,iu,bR,cA]);simp[cg,r9,a1,be,aV]
 have cA:¬4<r.ar:=Ω
 by_cases c5:0<=r.loc;rotate_left
 ·have dE:r.loc<0:=Ω
  clear cm lN;simp[oL,az,iu];(with_reducible repeat' first|refine aA ?_|refine a8 cD ?_|refine ba cD ?_|refine a8 dz ?_|refine ba dz ?_|simp[az,iu,bR,cA,dE]);simp[cg,r9,a1,be,aV]
 have dE:¬r.loc<0:=Ω
 by_cases kH:r.loc<=8;rotate_left
 ·have dM:8<r.loc:=Ω
  clear cm lN;simp[oL,az,iu];(with_reducible repeat' first|refine aA ?_|refine a8 cD ?_|refine ba cD ?_|refine a8 dz ?_|refine ba dz ?_|simp[az,iu,bR,cA,dE,dM]);simp[cg,r9,a1,be,aV]
 have dM:¬8<r.loc:=Ω
 have eV:aY (r.ar+r.loc):=by unfold aY;omega
 by_cases tR:0<=iS r.body 60;rotate_left
 ·have cP:iS r.body 60<0:=Ω
  clear cm;simp[oL,az,iu];(with_reducible repeat' first|refine aA ?_|refine a8 cD ?_|refine ba cD ?_|refine a8 dz ?_|refine ba dz ?_|refine a8 lN ?_|refine ba lN ?_|simp[az,iu,bR,cA,dE,dM,cP]);simp[cg,r9,a1,be,aV]
 have cP:¬iS r.body 60<0:=Ω
 have iP:=SX r.body (EI tR) (r.ar+r.loc);have jG:=SL P r.body (EI tR);cases dd:qW r.body (r.ar+r.loc)with
 |false=>rw[dd]at iP;clear cm jG;simp[oL,az,iu];(with_reducible repeat' first|refine aA ?_|refine a8 cD ?_|refine ba cD ?_|refine a8 dz ?_|refine ba dz ?_|refine a8 lN ?_|refine ba lN ?_|refine a8 iP ?_|refine ba iP ?_|simp[az,iu,eV,bR,cA,dE,dM,cP]);simp[cg,r9,a1,be,aV]
 |true=>
 rw[dd]at iP;cases l9:r.body.cf P with
 |false=>rw[l9]at jG;clear cm;simp[oL,az,iu];((with_reducible repeat' first|refine aA ?_|refine a8 cD ?_|refine ba cD ?_|refine a8 dz ?_|refine ba dz ?_|refine a8 lN ?_|refine ba lN ?_|refine a8 iP ?_|refine ba iP ?_|refine a8 jG ?_|refine ba jG ?_|simp[az,iu,eV,bR,cA,dE,dM,cP]|((first|apply dG|apply dJ|apply dI)<;>intro h<;>try simp at h))<;>(try exact ev));simp[cg,r9,a1,be,aV]
 |true=>exact absurd ⟨aj,rfl,⟨c3,c4⟩,⟨c5,kH⟩,tR,dd,l9⟩ cm
theorem MF{l r:List (List al)}{x:Rl}(h:n2 l=some (x,r)):r<:+l/\r.length<l.length:=by
 unfold n2 at h;split at h
 ·rename_i d name IG;split at h
  ·split at h
   ·rename_i c6 ms aK;simp only[ij]at h;obtain⟨⟨y,eW⟩,ah,e⟩:=h;cases e;refine⟨((List.drop_suffix _ _).trans ⟨[[40],d,[40],name],rfl⟩),by simp;omega⟩
   ·cases h
  ·cases h
 ·cases h
@[simp]theorem afZ(x:Rl)(n:Nat):cells (x.k n)=[.str x.name,.int .i64 x.ar,.int .i64 x.loc,.int .i64 x.body.kind,.str x.body.name,.slice 4 (.tr (.loc n) 0) (x.body.ts.map enc),.slice 4 (.tr (.loc n) 1) (x.body.gs.map Gm.e)]:=rfl
@[simp]theorem aiF(x:Rl)(n:Nat):eD (x.k n)=true:=rfl
theorem acR(x:Rl)(n:Nat):bC (x.k n)=x.e:=by rw[Rl.e_eq];simp[Rl.k,bC,bz]
theorem RO:∀l:List (Rl×Nat),ey (cY Rl.k l)
 |[]=>by simp[cY,ey]
 |x::l=>by have:=RO l;unfold cY at this;exact⟨⟨trivial,trivial,trivial,trivial,trivial,oq _,oq _,trivial⟩,this⟩
theorem RP:∀l:List (Rl×Nat),bz (cY Rl.k l)=(l.map (·.1)).map Rl.e
 |[]=>by simp[cY,bz]
 |x::l=>by have:=RP l;unfold cY at this;simp[cY,bz,acR,this]
theorem RQ:∀(l:List (Rl×Nat)),∀x∈tnL (cY Rl.k l),∃p∈l,x.1= .loc p.2
 |[],x,h=>by simp[cY,tnL]at h
 |p::l,x,h=>by
  have e:tnL (cY Rl.k (p::l))=(.loc p.2,0)::(.loc p.2,1)::tnL (cY Rl.k l):=by simp[cY,tnL,tn,Rl.k]
  rw[e]at h;simp only[gp]at h;rcases h with rfl|rfl|h
  ·exact⟨p,Ψ,rfl⟩
  ·exact⟨p,Ψ,rfl⟩
  ·obtain⟨lS,I,J⟩:=RQ l x h;exact⟨lS,by simp[I],J⟩
theorem RN:∀{l:List (Rl×Nat)},(l.map (·.2)).Nodup->(tnL (cY Rl.k l)).Nodup
 |[],_=>by simp[cY,tnL]
 |p::l,h=>by
  have e:tnL (cY Rl.k (p::l))=(.loc p.2,0)::(.loc p.2,1)::tnL (cY Rl.k l):=by simp[cY,tnL,tn,Rl.k]
  simp only[gY,List.nodup_cons]at h;have aK:∀j,(aC.loc p.2,j)∉tnL (cY Rl.k l):=fun j aw=>by obtain⟨lS,I,J⟩:=RQ l _ aw;simp only[aC.loc.injEq]at J;exact h.1 (lZ.2 ⟨lS,I,J.symm⟩)
  rw[e,List.nodup_cons,List.nodup_cons];exact⟨by simp[aK 0],aK 1,RN h.2⟩
theorem RM{S:aC->Prop}:∀(l:List (Rl×Nat)),(∀p∈l,S (.loc p.2))->Pv.kinL S (cY Rl.k l)
 |[],_=>by simp[cY,Pv.kinL]
 |x::l,gC=>by have:=RM l fun p aU=>gC p (by simp[aU]);unfold cY at this;have I:=gC x Ψ;simp only[cY,gY,Pv.kinL];exact⟨by simp[Rl.k,Pv.kin,Pv.kinL,I],this⟩
theorem acQ{n m:Nat}{l:List (Rl×Nat)}(aG:lz n l)(hm:n<=m)(o:List aC):Pv.kinL (fun k=> ¬fresh m o k) (cY Rl.k l):=RM l fun p aU aL=>by have I:=aG.lt p aU;have J:m<=p.2:=aL.1;omega
def wo(o:aT (List Rl))(κ:Nat):ae:= .tuple [.agg [.slice 7 (.tr (.loc κ) 0) ((o.getD []).map Rl.e)],.bool o.isSome]
def qg(l:List (List al))(i q:Nat):List (Rl×Nat)->aS
 |[]=>⟨[(2,.ptr (.loc 0) 0),(3,.bool false),(6,.ptr (.obj 871) 0),(7,.ptr (.loc 1) 0)],[(.loc 0,[.slice 7 .nil []]),(.obj 871,[.slice 1 .no (bZ l),.int .i64 i]),(.loc 1,[.slice 7 .nil []])],[],2,[.obj 871]⟩
 |x::xs=>⟨[(2,.ptr (.loc 0) 0),(3,.bool false),(6,.ptr (.obj 871) 0),(7,.ptr (.loc 1) 0)],[(.loc 0,[.slice 7 .nil []]),(.obj 871,[.slice 1 .no (bZ l),.int .i64 i]),(.loc 1,[.slice 7 (.own (.loc 5)) (cY Rl.k (x::xs))])],[(.loc 5,⟨xs.length+1,86,7,none⟩)],q+6,[.obj 871]⟩
structure BO (l:List (List al)) (O:aT (List Rl)) (x:List (Rl×Nat)×Nat×Nat):Prop where
 j:∃n,(l.drop x.2.1).length<=n/\nH ((sb n (l.drop x.2.1)).map ((x.1.map (·.1))++ ·))=O
 le:x.2.1<=l.length
 len:x.1.length<=x.2.1
 nm:lz (x.2.2+6) x.1
theorem ZZ{l:List (List al)}{O:aT (List Rl)}{P:List (Rl×Nat)}{i q:Nat}(h:BO l O (P,i,q))(az:i<l.length)(aF:n2 (l.drop i)=none):O=none:=by obtain⟨⟨n,aK,bu⟩,_,_,_⟩:=h;simp only at aK bu;rw[hg]at aK;obtain⟨m,rfl⟩:∃m,n=m+1:=⟨n-1,Ω⟩;rw[<-bu];obtain⟨w,r,H8⟩:∃w r,l.drop i=w::r:=⟨_,_,pd az⟩;rw[H8]at aF⊢;simp only[sb,aF];rfl
theorem Pw{l:List (List al)}{O:aT (List Rl)}{P:List (Rl×Nat)}{i q q' m':Nat}(h:BO l O (P,i,q)){x:Rl}{r:List (List al)}(aF:n2 (l.drop i)=some (x,r))(ft:lz (q'+6) (P++[(x,m')])):BO l O (P++[(x,m')],l.length-r.length,q'):=by obtain⟨⟨n,aK,bu⟩,I,J,_⟩:=h;simp only at aK bu I J;obtain⟨d1,d2⟩:=MF aF;rw[hg]at aK d2;obtain⟨m,rfl⟩:∃m,n=m+1:=⟨n-1,Ω⟩;have hr:r=l.drop (l.length-r.length):=(tt d1).1;refine⟨⟨m,by rw[<-hr];omega,?_⟩,by simp only;omega,by simp;omega,ft⟩;rw[<-bu];simp only;rw[<-hr];obtain⟨w,cE,H8⟩:∃w cE,l.drop i=w::cE:=⟨_,_,pd Ω⟩;rw[H8]at aF⊢;simp only[sb,aF,Option.map_map];congr 2;funext y;simp
theorem ZY{l:List (List al)}{O:aT (List Rl)}{P:List (Rl×Nat)}{q:Nat}(h:BO l O (P,l.length,q)):O=nH (some (P.map (·.1))):=by obtain⟨⟨n,_,bu⟩,_,_,_⟩:=h;simp only[jN]at bu;rw[<-bu];cases n<;>simp[sb]
set_option maxRecDepth 8000 in
theorem aa1(s:List al)(aq:s.length<=bN):tH aQ 38 [.str s] (wo (pV s)):=by
 have cx:=adW s aq;obtain⟨O,fW⟩:∃O,O=pV s:=⟨_,rfl⟩;rw[<-fW];unfold pV at fW;cases aD:iB s with
 |none=>rw[aD]at cx fW;simp only[lU]at cx;have hz:O=none:=fW;refine tH.mk mixed yd M2 QB Ψ fun aN κ=>?_;unfold F7;clear aN;simp;(with_reducible repeat' first|refine aA ?_|refine a8 cx ?_|refine ba cx ?_|simp);(refine dy.val Ψ ?_;simp[wu,a1,be,aV,cH,dV,cp,dx,bY,dt,fold,eb,ea,eP,Pv.look,dv,bz,hz,wo,hN])
 |some l=>
 rw[aD]at cx fW;simp only[lU]at cx;simp only at fW;obtain⟨iM,hl⟩:=adG aD;refine tH.mk mixed yd M2 QB Ψ fun aN κ=>?_;unfold F7;clear aN;simp;(with_reducible repeat' first|refine aA ?_|refine a8 cx ?_|refine ba cx ?_|simp);clear cx;refine h1 (fun x:List (Rl×Nat)×Nat×Nat=>qg l x.2.1 x.2.2 x.1) (fun x=>l.length-x.2.1) (fun x=>BO l O x) ([],0,0) (by simp[qg];exact⟨by simp[fresh,kinL,kin,bt,au,Pv.look,dT],cR (by simp[fresh,kinL,kin,bt,au,Pv.look,dT]),cS (by simp[fresh,kinL,kin,cB,au,Pv.look,dT]),Ψ⟩) ⟨⟨l.length,Ψ,by simpa using fW.symm⟩,Nat.zero_le _,cq _,.nil _⟩ ?_;clear fW;rintro⟨P,i,q⟩ aw _;simp only;have gZ:=aw.le;have fm:=aw.len;have ft:=aw.nm;simp only at gZ fm ft;rcases iX gZ with rfl|bS
 ·have dA:=AP (ky:=871) l;have hz:=ZY aw;have b8:=SN (P.map (·.1));have s5:=RP P;have uo:=RN ft.nd;clear aw;have zj:=SN [];simp only[ie]at b8;rw[<-s5]at b8;obtain⟨M,oO⟩:∃M,bz (cY Rl.k P)=M:=⟨_,rfl⟩;rw[oO]at b8 s5;have y6:∀S,Pv.kinL S M=True:=fun S=>by rw[s5];exact aah S _
  cases dS:mr (P.map (·.1))
  ·rw[dS]at b8;replace hz:O=none:=by rw[hz];simp[nH,dS]
   cases P with
   |nil=>rw[show mr ([]:List Rl)=false from dS]at zj;clear b8 oO y6;simp[qg];refine CallDo.ob (dA) (a7 _ _) (by simp only[ad];exact aB) (by simp only[ad];exact aB) (by simp[au,Pv.look,ad,av,dF,kinL,kin]) ?_;rintro r ai ⟨rfl,rfl⟩;refine⟨bJ _ _ _ _,?_⟩;simp[bg,ad,av];(with_reducible repeat' first|refine aA ?_|refine a8 zj ?_|refine ba zj ?_|simp);(refine dy.val Ψ ?_;simp[wu,a1,be,aV,cH,dV,cp,dx,bY,dt,fold,eb,ea,eP,Pv.look,dv,bz,hz,wo,hN])
   |cons a eE=>simp[qg];refine CallDo.ob (dA) (a7 _ _) (by simp only[ad];exact aB) (by simp only[ad];exact aB) (by simp[au,Pv.look,ad,av,dF,kinL,kin]) ?_;rintro r ai ⟨rfl,rfl⟩;refine⟨bJ _ _ _ _,?_⟩;simp[bg,ad,av];(with_reducible repeat' first|refine aA ?_|simp[oO,y6]);refine CallDo.val (by simp[kinL,kin,y6]) b8 ?_;simp;(with_reducible repeat' first|refine aA ?_|simp);(refine dy.val Ψ ?_;simp[wu,a1,be,aV,cH,dV,cp,dx,bY,dt,fold,eb,ea,eP,Pv.look,dv,bz,hz,wo,hN])
  ·rw[dS]at b8;replace hz:O=some (P.map (·.1)):=by rw[hz];simp[nH,dS]
   cases P with
   |nil=>rw[show mr ([]:List Rl)=true from dS]at zj;clear b8 oO y6;simp[qg];refine CallDo.ob (dA) (a7 _ _) (by simp only[ad];exact aB) (by simp only[ad];exact aB) (by simp[au,Pv.look,ad,av,dF,kinL,kin]) ?_;rintro r ai ⟨rfl,rfl⟩;refine⟨bJ _ _ _ _,?_⟩;simp[bg,ad,av];(with_reducible repeat' first|refine aA ?_|refine a8 zj ?_|refine ba zj ?_|simp);(refine dy.val Ψ ?_;simp[wu,a1,be,aV,cH,dV,cp,dx,bY,dt,fold,eb,ea,eP,Pv.look,dv,bz,hz,wo,hN])
   |cons a eE=>simp at s5;simp[qg];refine CallDo.ob (dA) (a7 _ _) (by simp only[ad];exact aB) (by simp only[ad];exact aB) (by simp[au,Pv.look,ad,av,dF,kinL,kin]) ?_;rintro r ai ⟨rfl,rfl⟩;refine⟨bJ _ _ _ _,?_⟩;simp[bg,ad,av];(with_reducible repeat' first|refine aA ?_|simp[oO,y6]);refine CallDo.val (by simp[kinL,kin,y6]) b8 ?_;simp;(with_reducible repeat' first|refine aA ?_|simp);(refine dy.val Ψ ?_;simp[wu,a1,be,aV,cH,dV,cp,dx,bY,dt,fold,eb,ea,eP,Pv.look,dv,bz,hz,wo,RO,uo,oO]);exact s5
 have dA:b7 aQ 83 [av 871] (ad 871 l i) fun r ai=>r= .bool false/\ai=ad 871 l i:=kI bS;have jH:=Z9 l Ω hl gZ;have hT:P.length+1<=bN:=by unfold bN;omega
 cases kM:n2 (l.drop i)with
 |none=>
  have hz:=ZZ aw bS kM;clear aw;cases P with
  |nil=>simp[qg];refine CallDo.ob (dA) (a7 _ _) (by simp only[ad];exact aB) (by simp only[ad];exact aB) (by simp[au,Pv.look,ad,av,dF,kinL,kin]) ?_;rintro r ai ⟨rfl,rfl⟩;refine⟨bJ _ _ _ _,?_⟩;simp[bg,ad,av];(with_reducible repeat' first|refine aA ?_|simp);refine CallDo.obK (jH _) (a7 _ _) (by simp only[ad];exact aB) (by simp only[ad];exact aB) (by simp[au,Pv.look,ad,av,kinL,kin]) Ψ ?_;rintro r ai bn;rw[kM]at bn;obtain⟨x,j,_,rfl,rfl⟩:=bn;refine⟨bJ _ _ _ _,?_⟩;simp[bg,ad,av];(with_reducible repeat' first|refine aA ?_|simp);(refine dy.val Ψ ?_;simp[wu,a1,be,aV,cH,dV,cp,dx,bY,dt,fold,eb,ea,eP,Pv.look,dv,bz,hz,wo,hN])
  |cons a eE=>simp[qg];refine CallDo.ob (dA) (a7 _ _) (by simp only[ad];exact aB) (by simp only[ad];exact aB) (by simp[au,Pv.look,ad,av,dF,kinL,kin]) ?_;rintro r ai ⟨rfl,rfl⟩;refine⟨bJ _ _ _ _,?_⟩;simp[bg,ad,av];(with_reducible repeat' first|refine aA ?_|simp);refine CallDo.obK (jH _) (a7 _ _) (by simp only[ad];exact aB) (by simp only[ad];exact aB) (by simp[au,Pv.look,ad,av,kinL,kin]) Ψ ?_;rintro r ai bn;rw[kM]at bn;obtain⟨x,j,_,rfl,rfl⟩:=bn;refine⟨bJ _ _ _ _,?_⟩;simp[bg,ad,av];(with_reducible repeat' first|refine aA ?_|simp);(refine dy.val Ψ ?_;simp[wu,a1,be,aV,cH,dV,cp,dx,bY,dt,fold,eb,ea,eP,Pv.look,dv,bz,hz,wo,hN])
 |some y=>
  obtain⟨x,rest⟩:=y;have jW:=(MF kM).2;rw[hg]at jW;cases P with
  |nil=>have fD:=Pw (q':=0) (m':=2) aw kM ⟨Ψ,Ψ⟩;clear aw;simp[qg];refine CallDo.ob (dA) (a7 _ _) (by simp only[ad];exact aB) (by simp only[ad];exact aB) (by simp[au,Pv.look,ad,av,dF,kinL,kin]) ?_;rintro r ai ⟨rfl,rfl⟩;refine⟨bJ _ _ _ _,?_⟩;simp[bg,ad,av];(with_reducible repeat' first|refine aA ?_|simp);refine CallDo.obK (jH _) (a7 _ _) (by simp only[ad];exact aB) (by simp only[ad];exact aB) (by simp[au,Pv.look,ad,av,kinL,kin]) Ψ ?_;rintro r ai bn;rw[kM]at bn;obtain⟨rfl,rfl⟩:=bn;refine⟨bJ _ _ _ _,?_⟩;simp[bg,ad,av];(with_reducible repeat' first|refine aA ?_|simp[hT]);refine b9.whl ([(x,2)],l.length-rest.length,0) (by simp only;omega) fD ?_;simp[qg,cY];exact⟨by simp[fresh,kinL,kin,bt,au,Pv.look,dT,Rl.k],cR (by simp[fresh,kinL,kin,bt,au,Pv.look,dT,Rl.k]),cS (by simp[fresh,kinL,kin,cB,au,Pv.look,dT,Rl.k]),Ψ⟩
  |cons a eE=>have bp:=ft.snoc x (cq (q+6)) (show q+6<q+3+6 by omega);have fD:=Pw (q':=q+3) (m':=q+6) aw kM bp;have fe:=acQ bp (cq _) [.obj 871];simp[fresh]at fe;have iv:cY Rl.k (a::eE)++[x.k (q+6)]=cY Rl.k (a::(eE++[(x,q+6)])):=(EM Rl.k (a::eE) x (q+6)).symm;simp only[Rl.k]at iv;clear aw;simp only[lx]at hT;simp[qg];refine CallDo.ob (dA) (a7 _ _) (by simp only[ad];exact aB) (by simp only[ad];exact aB) (by simp[au,Pv.look,ad,av,dF,kinL,kin]) ?_;rintro r ai ⟨rfl,rfl⟩;refine⟨bJ _ _ _ _,?_⟩;simp[bg,ad,av];(with_reducible repeat' first|refine aA ?_|simp);refine CallDo.obK (jH _) (a7 _ _) (by simp only[ad];exact aB) (by simp only[ad];exact aB) (by simp[au,Pv.look,ad,av,kinL,kin]) Ψ ?_;rintro r ai bn;rw[kM]at bn;obtain⟨rfl,rfl⟩:=bn;refine⟨bJ _ _ _ _,?_⟩;simp[bg,ad,av];(with_reducible repeat' first|refine aA ?_|simp[hT]);refine b9.whl (a::eE++[(x,q+6)],l.length-rest.length,q+3) (by simp only;omega) fD ?_;simp[qg];exact⟨by simp[fresh,kinL,kin,bt,au,Pv.look,dT,iv,fe],cR (by simp[fresh,kinL,kin,bt,au,Pv.look,dT,iv,fe]),cS (by simp[fresh,kinL,kin,cB,au,Pv.look,dT,iv,fe]),Ψ⟩
inductive nj where
 |s (l:List al)
 |b (x:jL)
def nj.e:nj->ae
 | .s l=>.str l
 | .b x=>.cst (.string x)
def nj.len:nj->Int
 | .s l=>l.length
 | .b x=>x.size
def CE(n:Nat):Prop:=bN<n/\n<=9223372036854775807
def nj.wf:nj->Prop
 | .s _=>True
 | .b x=>CE x.size
inductive vb (α:Type) where
 |l (xs:List α)
 |b (p:aT Addr) (n cap:Nat)
def vb.e{α:Type}(sz:Nat)(f:α->ae):vb α->ae
 | .l xs=>.slice sz .no (xs.map f)
 | .b p n cap=>.cst (.slice p n cap)
def vb.wf{α:Type}(P:α->Prop):vb α->Prop
 | .l xs=> ∀x∈xs,P x
 | .b _ n _=>CE n
inductive hG where
 |mk (k n:Int) (s:nj) (a:List hG)
 |big (k n:Int) (s:nj) (p:aT Addr) (len cap:Nat)
mutual
def hG.e:hG->ae
 | .mk k n s a=>.agg [.int .i64 k,.int .i64 n,s.e,.slice 4 .no (hG.eL a)]
 | .big k n s p len cap=>.agg [.int .i64 k,.int .i64 n,s.e,.cst (.slice p len cap)]
def hG.eL:List hG->List ae
 |[]=>[]
 |x::xs=>x.e::hG.eL xs
end
def hG.kind:hG->Int| .mk k _ _ _=>k| .big k _ _ _ _ _=>k
def hG.num:hG->Int| .mk _ n _ _=>n| .big _ n _ _ _ _=>n
def hG.name:hG->nj| .mk _ _ s _=>s| .big _ _ s _ _ _=>s
def hG.args:hG->vb hG| .mk _ _ _ a=>.l a| .big _ _ _ p l c=>.b p l c
mutual
def hG.sz:hG->Nat
 | .mk _ _ _ a=>1+hG.szL a
 | .big _ _ _ _ _ _=>1
def hG.szL:List hG->Nat
 |[]=>0
 |x::xs=>x.sz+hG.szL xs
end
mutual
def hG.wf:hG->Prop
 | .mk _ _ s a=>s.wf/\hG.wfL a
 | .big _ _ s _ l _=>s.wf/\CE l
def hG.wfL:List hG->Prop
 |[]=>True
 |x::xs=>x.wf/\hG.wfL xs
end
def Se{α:Type}(f:α->Int->Int):List α->Int->Int
 |[],m=>m
 |x::xs,m=>if f x m<0 then-1 else Se f xs (f x m)
def adz{α:Type}(f:α->Int->Int)(l:List α)(m:Int):Int:=if m-l.length<0 then-1 else Se f l (m-l.length)
def ady{α:Type}(f:α->Int->Int):vb α->Int->Int
 | .l xs,m=>adz f xs m
 | .b _ _ _,_=> -1
mutual
def Kd:hG->Int->Int
 | .mk _ _ s a,m=>if m-s.len<0 then-1 else if m-s.len-a.length<0 then-1 else Sh a (m-s.len-a.length)
 | .big _ _ s _ _ _,m=>if m-s.len<0 then-1 else-1
def Sh:List hG->Int->Int
 |[],m=>m
 |x::xs,m=>if Kd x m<0 then-1 else Sh xs (Kd x m)
end
def LW:C:=(ag [bD 4 false] (.seq (ag [ab 6 0,c7 7 6,ab 8 1,c7 9 8,cz 10 .neq 7 9] (bh 10 (ag [bD 4 false] .ret) .skip)) (.seq (ag [cd 5 0] (.block 0 (.loop (.seq (ag [ab 11 5,ab 12 0,c7 13 12,cz 14 .lss 11 13] (bh 14 .skip (.exit 0))) (.seq (.block 1 (.seq (.drawn true 27 [ab 17 0,ab 18 5,cQ 19 4 17 18,ck 20 4 19,ab 21 1,ab 22 5,cQ 23 4 21 22,ck 24 4 23,eZ 25 161 20 24,dB 26 25]) (bh 26 (ag [bD 4 false] .ret) .skip))) (.region [ab 15 5,bc 16 .add 15 1,ab 5 16])))))) (ag [bD 4 true] .ret))))
@[simp] def acs:List cr:=[.tmp 4]
def LV:C:=(ag [gb 2 0,gb 3 1,bD 4 false] (.seq (ag [bm 5 0 1 2,bf 6 1 5,bm 7 0 1 3,bf 8 1 7,cz 9 .neq 6 8] (bh 9 (ag [bD 4 false] .ret) .skip)) (.seq (ag [bm 10 1 1 2,bf 11 1 10,bm 12 1 1 3,bf 13 1 12,cz 14 .neq 11 13] (bh 14 (ag [bD 4 false] .ret) .skip)) (.seq (ag [bm 15 2 1 2,bf 16 1 15,bm 17 2 1 3,bf 18 1 17,cz 19 .neq 16 18] (bh 19 (ag [bD 4 false] .ret) .skip)) (.seq (ag [bm 20 3 1 2,bf 21 1 20,bm 22 3 1 3,bf 23 1 22,eZ 24 91 21 23,dB 25 24] (bh 25 (ag [bD 4 false] .ret) .skip)) (ag [bD 4 true] .ret))))))
@[simp] def acr:List cr:=[.tmp 4]
def Kq:List (Nat×cJ):=[
 (3,⟨1,8,.int .i64,.int .i64 0⟩),
 (9,⟨1,16,.str,.str []⟩),
 (38,⟨1,24,.slice 40,.slice 4 .nil []⟩),
 (40,⟨4,56,.struct [(0,3),(1,3),(2,9),(3,38)],.agg [.int .i64 0,.int .i64 0,.str [],.slice 4 .nil []]⟩),
 (167,⟨1,24,.slice 282,.slice 4 .nil []⟩),
 (282,⟨4,56,.struct [(0,3),(1,3),(2,9),(3,167)],.agg [.int .i64 0,.int .i64 0,.str [],.slice 4 .nil []]⟩)]
theorem SB:ez aQ Kq=true:=by kernel_rfl
theorem abw:c8 Kq LW acs 2 Tryz.f91=true:=by kernel_rfl
theorem Wt:aQ.funcs[(91:Nat)]? =some Tryz.f91:=Tryz.func91
theorem abv:c8 Kq LV acr 2 Tryz.f161=true:=by kernel_rfl
theorem Ws:aQ.funcs[(161:Nat)]? =some Tryz.f161:=Tryz.func161
theorem SM(l:List aX)(aL:∀x∈l,b6 aQ 161 [enc x,enc x] (.bool true)):b6 aQ 91 [.slice 4 .no (l.map enc),.slice 4 .no (l.map enc)] (.bool true):=by
 refine bQ SB Wt abw fun aN=>?_;unfold LW;have gJ:l.length<=68719476736:=by simp[iZ,js,ja,bN]at aN;omega
 simp;(with_reducible repeat' first|refine aA ?_|simp);refine vr [0,1] (fun i (_:Unit)=>[(5,.int .i64 i)]) l.length (fun _ _=>True) () dw trivial (fun _ _ _=>?_) (fun i _ az _ _=>?_)
 ·exact cw
 ·obtain⟨x,af,fF⟩:=hj az;have key:=aL x (fJ af);clear af;exact r7
theorem ad2(t:aX):b6 aQ 161 [enc t,enc t] (.bool true):=by
 suffices H:∀(k:Nat) (t:aX),t.sz<=k->b6 aQ 161 [enc t,enc t] (.bool true)from H _ t (cq _)
 intro k;induction k with
 |zero=>intro t aD;cases t;simp[aX.sz]at aD
 |succ k bo=>intro t aD;have key:=SM t.args (fun x af=>bo x (by have:=Si af;omega));clear bo;refine bQ SB Ws abv fun aN=>?_;unfold LV;exact cw
def kg(t:vb hG):ae:=t.e 4 hG.e
def si(t:vb hG)(m:Int):Int:=ady Kd t m
def LP:C:=(ag [gb 2 0,gb 3 1,bD 4 false] (.seq (ag [bm 5 0 1 2,bf 6 1 5,bm 7 0 1 3,bf 8 1 7,cz 9 .neq 6 8] (bh 9 (ag [bD 4 false] .ret) .skip)) (.seq (ag [bm 10 1 1 2,bf 11 1 10,bm 12 1 1 3,bf 13 1 12,cz 14 .neq 11 13] (bh 14 (ag [bD 4 false] .ret) .skip)) (.seq (ag [bm 15 2 1 2,bf 16 1 15,bm 17 2 1 3,bf 18 1 17,eZ 19 91 16 18,dB 20 19] (bh 20 (ag [bD 4 false] .ret) .skip)) (.seq (ag [bm 21 3 1 2,bf 22 1 21,bm 23 3 1 3,bf 24 1 23,eZ 25 230 22 24,dB 26 25] (bh 26 (ag [bD 4 false] .ret) .skip)) (ag [bD 4 true] .ret))))))
@[simp] def acm:List cr:=[.tmp 4]
def LQ:C:=(ag [bD 4 false] (.seq (ag [ab 6 0,c7 7 6,ab 8 1,c7 9 8,cz 10 .neq 7 9] (bh 10 (ag [bD 4 false] .ret) .skip)) (.seq (ag [cd 5 0] (.block 0 (.loop (.seq (ag [ab 11 5,ab 12 0,c7 13 12,cz 14 .lss 11 13] (bh 14 .skip (.exit 0))) (.seq (.block 1 (.seq (.drawn true 27 [ab 17 0,ab 18 5,cQ 19 4 17 18,ck 20 4 19,ab 21 1,ab 22 5,cQ 23 4 21 22,ck 24 4 23,eZ 25 193 20 24,dB 26 25]) (bh 26 (ag [bD 4 false] .ret) .skip))) (.region [ab 15 5,bc 16 .add 15 1,ab 5 16])))))) (ag [bD 4 true] .ret))))
@[simp] def acn:List cr:=[.tmp 4]
def Kr:List (Nat×cJ):=[
 (3,⟨1,8,.int .i64,.int .i64 0⟩),
 (9,⟨1,16,.str,.str []⟩),
 (22,⟨1,24,.slice 172,.slice 7 .nil []⟩),
 (23,⟨1,24,.slice 174,.slice 4 .nil []⟩),
 (25,⟨2,48,.struct [(0,22),(1,23)],.agg [.slice 7 .nil [],.slice 4 .nil []]⟩),
 (28,⟨1,24,.slice 74,.slice 7 .nil []⟩),
 (29,⟨1,24,.slice 99,.slice 4 .nil []⟩),
 (31,⟨2,48,.struct [(0,28),(1,29)],.agg [.slice 7 .nil [],.slice 4 .nil []]⟩),
 (38,⟨1,24,.slice 40,.slice 4 .nil []⟩),
 (63,⟨1,24,.slice 65,.slice 4 .nil []⟩),
 (65,⟨4,72,.struct [(0,3),(1,9),(2,38),(3,63)],.agg [.int .i64 0,.str [],.slice 4 .nil [],.slice 4 .nil []]⟩),
 (74,⟨7,96,.struct [(0,3),(1,3),(2,3),(3,65)],.agg [.int .i64 0,.int .i64 0,.int .i64 0,.int .i64 0,.str [],.slice 4 .nil [],.slice 4 .nil []]⟩),
 (99,⟨4,40,.struct [(0,9),(1,3),(2,3),(3,3)],.agg [.str [],.int .i64 0,.int .i64 0,.int .i64 0]⟩),
 (167,⟨1,24,.slice 282,.slice 4 .nil []⟩),
 (168,⟨1,24,.slice 170,.slice 4 .nil []⟩),
 (170,⟨4,72,.struct [(0,3),(1,9),(2,167),(3,168)],.agg [.int .i64 0,.str [],.slice 4 .nil [],.slice 4 .nil []]⟩),
 (172,⟨7,96,.struct [(0,3),(1,3),(2,3),(3,170)],.agg [.int .i64 0,.int .i64 0,.int .i64 0,.int .i64 0,.str [],.slice 4 .nil [],.slice 4 .nil []]⟩),
 (174,⟨4,40,.struct [(0,9),(1,3),(2,3),(3,3)],.agg [.str [],.int .i64 0,.int .i64 0,.int .i64 0]⟩)]
theorem SC:ez aQ Kr=true:=by kernel_rfl
theorem abp:c8 Kr LP acm 2 Tryz.f193=true:=by kernel_rfl
theorem Wn:aQ.funcs[(193:Nat)]? =some Tryz.f193:=Tryz.func193
theorem abq:c8 Kr LQ acn 2 Tryz.f230=true:=by kernel_rfl
theorem Wo:aQ.funcs[(230:Nat)]? =some Tryz.f230:=Tryz.func230
theorem ad3(d:List aX):b6 aQ 91 [.slice 4 .no (d.map enc),.slice 4 .no (d.map enc)] (.bool true):=SM d fun x _=>ad2 x
theorem adY(l:List Gm)(aL:∀x∈l,b6 aQ 193 [Gm.e x,Gm.e x] (.bool true)):b6 aQ 230 [.slice 4 .no (l.map Gm.e),.slice 4 .no (l.map Gm.e)] (.bool true):=by
 refine bQ SC Wo abq fun aN=>?_;unfold LQ;have gJ:l.length<=68719476736:=by simp[iZ,js,ja,bN]at aN;omega
 simp;(with_reducible repeat' first|refine aA ?_|simp);refine vr [0,1] (fun i (_:Unit)=>[(5,.int .i64 i)]) l.length (fun _ _=>True) () dw trivial (fun _ _ _=>?_) (fun i _ az _ _=>?_)
 ·exact cw
 ·obtain⟨x,af,fF⟩:=hj az;have key:=aL x (fJ af);clear af;exact r7
theorem adX(t:Gm):b6 aQ 193 [t.e,t.e] (.bool true):=by
 suffices H:∀(k:Nat) (t:Gm),t.sz<=k->b6 aQ 193 [t.e,t.e] (.bool true)from H _ t (cq _)
 intro k;induction k with
 |zero=>intro t aD;have:=t.sz_pos;omega
 |succ k bo=>intro t aD;have key:=adY t.gs (fun x af=>bo x (by have:=t.gs_lt af;omega));have cx:=ad3 t.ts;clear bo;refine bQ SC Wn abp fun aN=>?_;unfold LP;exact cw
def C3:hQ:=(.sq (.region [bD 2 false]) (.sq (ag [ab 11 0,bk 12 (.slen (.t 11)),bc 13 .gtr 12 1048576] (bh 13 (ag [bD 2 true] .ret) .skip)) (.sq (.region [ab 15 0,cK 16 37 15,ab 14 16,dN 17 0 14,dN 18 1 14,dY (.alloc 3 none (.agg [.slice 7 .nil []])),bE 1 3 17,ab 4 18]) (.sl (.sq (.region [ab 20 0,cK 21 38 20,ab 19 21,dN 22 0 19,dN 23 1 19,dY (.alloc 5 none (.agg [.slice 7 .nil []])),bE 1 5 22,ab 6 23]) (.sq (ag [ck 24 1 5,ck 25 1 3,eZ 26 39 24 25,dB 27 26,ab 28 27,bP 28 false 29 6,bP 28 false 30 4,aI 28 false (bk 31 (.beq true none (.t 29) (.t 30))),dk 32 28 31] (bh 32 (ag [bD 2 false] .ret) .skip)) (.sq (.region [cd 7 1]) (.th 5 (.sq (.region [ck 33 1 5,ab 34 7,eZ 35 40 33 34,ab 7 35]) (.sq (.region [cd 8 1]) (.sq (.region [ck 36 1 5,ab 37 8,eZ 38 41 36 37,ab 8 38]) (.sq (ag [ab 39 8,bc 40 .lss 39 0] (bh 40 (ag [bD 2 false] .ret) .skip)) (.sq (ag [ab 41 8,ab 42 7,cz 43 .neq 41 42] (bh 43 (ag [bD 2 false] .ret) .skip)) (.sq (.region [ab 45 0,cK 46 38 45,ab 44 46,dN 47 0 44,dN 48 1 44,dY (.alloc 9 none (.agg [.slice 7 .nil []])),bE 1 9 47,ab 10 48]) (.sq (ag [ck 49 1 9,ck 50 1 3,eZ 51 39 49 50,dB 52 51,ab 53 52,bP 53 false 54 10,bP 53 false 55 4,aI 53 false (bk 56 (.beq true none (.t 54) (.t 55))),dk 57 53 56] (bh 57 (ag [bD 2 false] .ret) .skip)) (.sq (.region [cd 8 1]) (.sq (.region [ck 58 1 5,ab 59 8,eZ 60 41 58 59,ab 8 60]) (.sq (ag [ab 61 8,bc 62 .lss 61 0] (bh 62 (ag [bD 2 false] .ret) .skip)) (.sq (ag [ab 63 8,ab 64 7,cz 65 .neq 63 64] (bh 65 (ag [bD 2 false] .ret) .skip)) (.sq (.region [bD 2 true]) (.of .ret)))))))))))))))))))))
@[simp] def E6:List cr:=[.tmp 2]
def LR:C:=(ag [gb 2 0,gb 3 1,bD 4 false] (.seq (ag [bm 5 0 1 2,bf 6 1 5,bm 7 0 1 3,bf 8 1 7,eZ 9 111 6 8,dB 10 9] (bh 10 (ag [bD 4 false] .ret) .skip)) (ag [bD 4 true] .ret)))
@[simp] def aco:List cr:=[.tmp 4]
def LU:C:=(ag [bD 4 false] (.seq (ag [ab 6 0,c7 7 6,ab 8 1,c7 9 8,cz 10 .neq 7 9] (bh 10 (ag [bD 4 false] .ret) .skip)) (.seq (ag [cd 5 0] (.block 0 (.loop (.seq (ag [ab 11 5,ab 12 0,c7 13 12,cz 14 .lss 11 13] (bh 14 .skip (.exit 0))) (.seq (.block 1 (.seq (.drawn true 27 [ab 17 0,ab 18 5,cQ 19 7 17 18,ck 20 7 19,ab 21 1,ab 22 5,cQ 23 7 21 22,ck 24 7 23,eZ 25 180 20 24,dB 26 25]) (bh 26 (ag [bD 4 false] .ret) .skip))) (.region [ab 15 5,bc 16 .add 15 1,ab 5 16])))))) (ag [bD 4 true] .ret))))
@[simp] def acq:List cr:=[.tmp 4]
def LS:C:=(ag [gb 2 0,gb 3 1,bD 4 false] (.seq (ag [bm 5 0 1 2,bf 6 1 5,bm 7 0 1 3,bf 8 1 7,cz 9 .neq 6 8] (bh 9 (ag [bD 4 false] .ret) .skip)) (.seq (ag [bm 10 1 1 2,bf 11 1 10,bm 12 1 1 3,bf 13 1 12,cz 14 .neq 11 13] (bh 14 (ag [bD 4 false] .ret) .skip)) (.seq (ag [bm 15 2 1 2,bf 16 1 15,bm 17 2 1 3,bf 18 1 17,cz 19 .neq 16 18] (bh 19 (ag [bD 4 false] .ret) .skip)) (.seq (ag [nb 20 3 4 2,ck 21 4 20,nb 22 3 4 3,ck 23 4 22,eZ 24 193 21 23,dB 25 24] (bh 25 (ag [bD 4 false] .ret) .skip)) (ag [bD 4 true] .ret))))))
@[simp] def acp:List cr:=[.tmp 4]
def CI:List (Nat×cJ):=[
 (3,⟨1,8,.int .i64,.int .i64 0⟩),
 (4,⟨1,1,.bool,.bool false⟩),
 (9,⟨1,16,.str,.str []⟩),
 (59,⟨1,24,.slice 86,.slice 7 .nil []⟩),
 (61,⟨1,24,.struct [(0,59)],.agg [.slice 7 .nil []]⟩),
 (65,⟨4,72,.struct [(0,3),(1,9),(2,38),(3,63)],.agg [.int .i64 0,.str [],.slice 4 .nil [],.slice 4 .nil []]⟩),
 (86,⟨7,104,.struct [(0,9),(1,3),(2,3),(3,65)],.agg [.str [],.int .i64 0,.int .i64 0,.int .i64 0,.str [],.slice 4 .nil [],.slice 4 .nil []]⟩)]
theorem Ac:ez aQ CI=true:=by kernel_rfl
theorem Jm:Dz CI C3 E6 1 jM=true:=by kernel_rfl
theorem G4:aQ.funcs[(7:Nat)]? =some jM:=Tryz.func7
theorem abr:c8 CI LR aco 2 Tryz.f39=true:=by kernel_rfl
theorem Wp:aQ.funcs[(39:Nat)]? =some Tryz.f39:=Tryz.func39
theorem abu:c8 CI LU acq 2 Tryz.f111=true:=by kernel_rfl
theorem Wr:aQ.funcs[(111:Nat)]? =some Tryz.f111:=Tryz.func111
theorem abt:c8 CI LS acp 2 Tryz.f180=true:=by kernel_rfl
theorem Wq:aQ.funcs[(180:Nat)]? =some Tryz.f180:=Tryz.func180
theorem ad0(x:Rl):b6 aQ 180 [x.e,x.e] (.bool true):=by have om:=adX x.body;refine bQ Ac Wq abt fun aN=>?_;unfold LS;clear aN;exact cw
theorem ad1(l:List Rl)(aL:∀x∈l,b6 aQ 180 [Rl.e x,Rl.e x] (.bool true)):b6 aQ 111 [.slice 7 .no (l.map Rl.e),.slice 7 .no (l.map Rl.e)] (.bool true):=by
 refine bQ Ac Wr abu fun aN=>?_;unfold LU;have gJ:l.length<=68719476736:=by simp[iZ,js,ja,bN]at aN;omega
 simp;(with_reducible repeat' first|refine aA ?_|simp);refine vr [0,1] (fun i (_:Unit)=>[(5,.int .i64 i)]) l.length (fun _ _=>True) () dw trivial (fun _ _ _=>?_) (fun i _ az _ _=>?_)
 ·exact cw
 ·obtain⟨x,af,fF⟩:=hj az;have key:=aL x (fJ af);clear af;exact r7
theorem adZ(P:List Rl):b6 aQ 39 [ie P,ie P] (.bool true):=by have vV:=ad1 P fun x _=>ad0 x;simp only[ie];refine bQ Ac Wp abr fun aN=>?_;unfold LR;clear aN;have vZ:=vV;exact cw
theorem Ik{P:List Rl}:∀y∈P.map Rl.e,pk y:=fun y bA=>by obtain⟨x,_,rfl⟩:=lZ.1 bA;exact⟨x.name,x.ar,x.loc,x.body.kind,x.body.name,_,_,Rl.e_eq x,Pk,ZR⟩
@[simp]theorem af7(l:List Rl):Pv.dtL (l.map Rl.e)=True:=eq_true (pk.dtL Ik)
theorem acS{x:Rl}(h:x.body.fits 60=true):jl x.e<=3600184:=by have:=WT h;rw[Rl.e_eq];simp only[jl,kA];omega
theorem aa4{P:List Rl}(h:mr P=true):kA (P.map Rl.e)<=28801472:=by
 have bL:=h;simp only[mr,bM,fK,jy]at h;have I:∀l:List Rl,(∀x∈l,x.body.fits 60=true)->kA (l.map Rl.e)<=3600184*l.length:=by
  intro l;induction l with
  |nil=>intro _;simp[kA]
  |cons x l bo=>intro aG;have a:=acS (aG x Ψ);have b:=bo fun y bA=>aG y (by simp[bA]);simp only[gY,kA,lx];omega
 have J:=I P fun x af=>by have:=h.2 x af;simp only[Rl.ok,bM]at this;exact this.1.1.2
 have:=h.1.1;omega
theorem abU{s:List al}(k:Int)(aa:k<=1000):(bd bj (((pV s).getD []).map Rl.e) k).2<=4611686018427387904:=by
 rw[EG];cases h:pV s with
 |none=>simp[kA];omega
 |some P=>
  have J:mr P=true:=by
   unfold pV at h;split at h
   ·cases h
   ·exact(KE.1 h).2
  have:=aa4 J;simp only[oG];omega
theorem UU(b:Nat)(ys:List ae):gf b [.slice 7 .no ys]=[eh b (.slice 7 .no ys)]:=rfl
theorem adU(kt:nj)(aR:kt.wf):b6 aQ 7 [kt.e] (.bool true):=by
 cases kt with
 |b x=>
  have pE:(1048576:Int)<x.size:=by have:CE x.size:=aR;unfold CE bN at this;omega
  simp only[nj.e];clear aR;refine b6.mkD mixed Ac G4 Jm Ψ (by simp[kin]) fun aN=>?_;unfold C3;simp;(with_reducible repeat' first|refine aA ?_|simp[pE]);all_goals simp[cg,E6,a1,be,aV]
 |s kt=>
 simp only[nj.e];by_cases pE:(1048576:Int)<kt.length
 ·clear aR;refine b6.mkD mixed Ac G4 Jm Ψ (by simp[kin]) fun aN=>?_;unfold C3;have gJ:kt.length<=68719476736:=by simp[iZ,js,ja,bN]at aN;omega
  simp;((with_reducible repeat' first|refine aA ?_|simp[pE]|((first|apply dG|apply dJ|apply dI)<;>intro h<;>try simp at h))<;>(try exact ev));all_goals simp[cg,E6,a1,be,aV]
 have aG:kt.length<=bN:=by unfold bN;omega
 have key:∃(ts:List Rl) (B:Bool),(∀k:Int,k<=1000->(bd bj (ts.map Rl.e) k).2<=4611686018427387904)/\b6 aQ 37 [.str kt] (.tuple [ie ts,.bool B])/\tH aQ 38 [.str kt] fun κ=>.tuple [.agg [.slice 7 (.tr (.loc κ) 0) (ts.map Rl.e)],.bool B]:=by
  refine⟨(pV kt).getD [],(pV kt).isSome,fun k aa=>abU k aa,?_,aa1 kt aG⟩;have:=aes kt aG;cases h:pV kt with
  |none=>rw[h]at this;exact this
  |some g=>rw[h]at this;exact this
 obtain⟨ts,B,hw,s1,i1⟩:=key;have If:b6 aQ 38 [.str kt] (.tuple [ie ts,.bool B]):=by have:=i1.val (by simp[bC,bz,Pv.kin,Pv.kinL]);simp[bC,bz]at this;exact this
 have yE:=adZ ts;clear aR;have MQ:=yE;simp only[ie]at s1 If yE;refine b6.mkD mixed Ac G4 Jm Ψ (by simp[kin]) fun aN=>?_;unfold C3;have gJ:kt.length<=68719476736:=Ω
 simp[-nV];(with_reducible repeat' first|refine aA ?_|refine a8 s1 ?_|refine ba s1 ?_|simp[pE,-nV]);refine VL ⟨[(0,.str kt),(3,.ptr (.loc 0) 0),(4,.bool B)],[(.loc 0,[.slice 7 .no (ts.map Rl.e)])],[],1,[]⟩ dw ?_ ?_
 ·simp[Fw,Fy,Fx,wz,x4]
 simp[tu,Fz,Cu,kf,wy,-nV];(with_reducible repeat' first|refine aA ?_|simp[-nV]);(refine CallDo.own Ψ (i1) (by simp[dv]) ?_;simp);((with_reducible repeat' first|refine aA ?_|refine a8 MQ ?_|refine ba MQ ?_|simp|((first|apply dG|apply dJ|apply dI)<;>intro h<;>try simp at h))<;>(try exact ev));refine VM ⟨[(0,.str kt),(3,.ptr (.loc 0) 0),(4,.bool B),(5,.ptr (.loc 2) 0),(6,.bool B),(7,.int .i64 1)],[(.loc 0,[.slice 7 (.lo dv) (ts.map Rl.e)]),(.loc 2,[.slice 7 (.tr (.loc 1) 0) (ts.map Rl.e)])],[],3,[dv]⟩ 1000000 dw ?_ fun ε=>?_
 ·simp[CB,qS,dU,ey,tn,tnL,E1,Pv.look,dv]
 simp[tA,tz,vi,tP,iY,nW,bC,bz,tn,tnL,Pv.look,-nV];((with_reducible repeat' first|refine aA ?_|simp[UU,-nV]|((first|apply dG|apply dJ|apply dI)<;>intro h<;>try simp at h))<;>(try exact ev));have D1:=hw 1 Ω;have f1:=Xk (ts.map Rl.e) Ik 1 1000000 ε Ω D1;have f3:=Xe (ts.map Rl.e) Ik 1 1000000 ε Ω D1;have d0:b0 (.agg [.slice 7 .no (ts.map Rl.e)]):=by simp[b0,Pv.dtL,-nV]
 have d1:b0 (.agg [.slice 7 .no (bd bj (ts.map Rl.e) 1).1]):=by simp only[b0,Pv.dtL,true_and,and_true];exact⟨Ω,n3 _ _ _ Ψ⟩
 have f2:kinL (rng 1000000 (1000000+bO (.agg [.slice 7 .no (ts.map Rl.e)]))) [eh 1000000 (.agg [.slice 7 .no (ts.map Rl.e)]),.int .i64 1]:=⟨pP _ _ d0,by simp[Pv.kin],trivial⟩;have cN:bO (.agg [.slice 7 .no (bd bj (ts.map Rl.e) 1).1])=bO (.agg [.slice 7 .no (ts.map Rl.e)]):=by rw[Mw,Mw];exact ra (lQ ..) (rb ..)
 have iq:1<=(bd bj (ts.map Rl.e) 1).2:=jJ ..;have bs:eh 1000000 (.agg [.slice 7 .no (bd bj (ts.map Rl.e) 1).1])=eh 1000000 (.agg [.slice 7 .no (ts.map Rl.e)]):=by rw[AR,AR,yH (lQ ..)]
 have f4:=f2;rw[<-cN]at f4;rw[bs]at f3;obtain⟨P,uc⟩:∃P,P=ae.agg [.slice 7 .no (bd bj (ts.map Rl.e) 1).1]:=⟨_,rfl⟩;rw[<-uc]at f1 f3 f4 d1 cN;generalize (bd bj (ts.map Rl.e) 1).2=K at f1 f3 iq;rw[AR]at f1 f2 f3 f4;clear uc hw bs D1;try refine⟨B8 _ _ _,?_⟩
 refine CallDo.tree d0 cN f1 rfl f2 ?_;have cG:¬K<0:=Ω
 clear f1 f2 cN d0 iq;simp[-nV];(with_reducible repeat' first|refine aA ?_|simp[-nV]);try refine⟨B8 _ _ _,?_⟩
 refine CallDo.tree d1 rfl f3 ?_ f4 ?_
 ·rfl
 simp[cG,-nV];(with_reducible repeat' first|refine aA ?_|refine a8 If ?_|refine ba If ?_|refine a8 yE ?_|refine ba yE ?_|simp[cG,-nV]);try refine⟨B8 _ _ _,?_⟩
 refine CallDo.tree d1 rfl f3 ?_ f4 ?_
 ·rfl
 simp[cG,-nV];(with_reducible repeat' first|refine aA ?_|simp[cG,-nV]);simp[cg,E6,a1,be,aV]
end
section
open Go Go.Pv Go.ChangeShapes Go.WideShapes Go.ChangeAt Go.RowKit Go.Deep
def yK(W:World):aP:=⟨fun b o=> ∃u,W.cell? ⟨b,o,none⟩=some u,fun _=>none,fun _=>none,fun _ _ _=>cZ⟩
section
variable {H:Type} {enc:fI×Value->H} {W:World} {spare:Nat->Bool} {held:Bool}
def Fc(W:World)(p:ae)(cs:List Value):Prop:= ∃v:Value,v.cells.toList=cs/\aH W (yK W) p v/\∀c∈cs,c.oneCell'=true
def acI(W:World)(p:ae)(v:Value):Prop:=aH W (yK W) p v/\v.oneCell'=true/\v.cells= #[v]
end
end
section
open Go Go.Pv Go.ChangeShapes Go.WideShapes Go.ChangeAt Go.RowKit Go.Deep
section
variable {H:Type} {enc:fI×Value->H} {W:World} {spare:Nat->Bool} {held:Bool} {cs:List Value} {x:DataW H×List MemPlace} {fuel:Nat}
theorem ads(h:DataW.trod enc aQ W 0 spare held fuel 9 cs=some x):∃(s:nj) (v:Value),s.wf/\cs=[v]/\acI W s.e v:=by
 obtain⟨s,rfl,_,hm⟩:=DataW.trod_string Tryz.underlying9 h;by_cases aq:bN<s.size
 ·exact⟨.b s,_,⟨aq,by unfold maxLen at hm;omega⟩,rfl,by simp only[nj.e,aH],rfl,rfl⟩
 ·refine⟨.s s.data.toList,_,trivial,rfl,?_,rfl,rfl⟩;simp only[nj.e,aH];refine⟨Ψ,?_⟩;have:s.data.toList.length=s.size:=rfl;omega
end
end
section
open Go Go.Pv Go.ChangeShapes Go.WideShapes Go.ChangeAt Go.RowKit
theorem acU:ownKnob aQ.godebug=none:=by kernel_rfl
theorem acT:laidOutB aQ=true:=by kernel_rfl
def Xt(b o:Nat):Prop:= ∃x∈vz,x.1=b/\x.2.1=o
def A0(w:World):Prop:= ∀x∈vz,(∃v,w.cell? ⟨x.1,x.2.1,none⟩=some v/\x.2.2.2 v)/\∃el,Pv.shape w x.1=some (x.2.2.1,el)
theorem A0.gl{w:World}(h:A0 w){ν:aP}(aW:∀b o,Xt b o->ν.A b o):nO w ν:=fun x af=>⟨aW _ _ ⟨x,af,rfl,rfl⟩,h x af⟩
theorem KB{w:World}{n:String}{g:Nat}{cs:Array Value}(aR:aQ.globalNamed n=some g)(h:w.var? aQ n=some cs):∃el,Pv.shape w g=some (cs.size,el):=by
 simp only[World.var?,aR,Option.bind_some]at h;unfold Pv.shape;split at h
 ·rename_i c t fz e;cases h;rw[e];exact⟨_,rfl⟩
 ·cases h
theorem Xu{w:World}(aD:Lib.TabIs aQ w "internal/strconv.uint64pow10" .u64 Lib.pow10Tab)(aq:∃u v,w.var? aQ "strconv.ErrSyntax" =some #[.iface u v])(hr:∃u v,w.var? aQ "strconv.ErrRange" =some #[.iface u v]):A0 w:=by
 have pE:aQ.globalNamed "internal/strconv.uint64pow10" =some 0:=by kernel_rfl
 have g1:aQ.globalNamed "strconv.ErrSyntax" =some 1:=by kernel_rfl
 have g2:aQ.globalNamed "strconv.ErrRange" =some 2:=by kernel_rfl
 obtain⟨iC,v1,I⟩:=aq;obtain⟨hX,v2,J⟩:=hr;intro x af;unfold vz at af;rcases hv.1 af with af|af
 ·obtain⟨i,az,rfl⟩:=lZ.1 af;have az:=List.mem_range.1 az;refine⟨⟨_,aD.cell pE i (by simpa[Lib.pow10Tab]using az),?_⟩,?_⟩
  ·show nK .u64 _=_;rw[Lib.pow10Tab_at i az]
  ·obtain⟨el,h⟩:=KB pE aD;exact⟨el,by simpa[Lib.pow10Tab]using h⟩
 ·simp only[gp,List.not_mem_nil,or_false]at af;rcases af with rfl|rfl
  ·refine⟨⟨.iface iC v1,by simpa using World.var?_cell g1 I 0,_,_,rfl⟩,?_⟩;obtain⟨el,h⟩:=KB g1 I;exact⟨el,by simpa using h⟩
  ·refine⟨⟨.iface hX v2,by simpa using World.var?_cell g2 J 0,_,_,rfl⟩,?_⟩;obtain⟨el,h⟩:=KB g2 J;exact⟨el,by simpa using h⟩
theorem PY{n nm:String}{d:DataW Unit}{r:List (String×DataW Unit)}{W:World}{g:Nat}{eH:fI}{ms:Array (String×fI)}(h:laidMet aQ ((n,.iface nm d)::r) W)
  (aR:aQ.globalNamed n=some g) (aD:(aQ.globals[g]?).map (·.type)=some eH) (az:aQ.underlying eH=some (.interface ms)):∃u v,W.var? aQ n=some #[.iface u v]:=by
 obtain⟨a6,⟨pE,t0,UE,f0,hL,Q2,Yv,Zo,Ee,nq,_,pw⟩,_,_⟩:=h;obtain rfl:=gq (aR.symm.trans Yv);obtain rfl:=gq (aD.symm.trans Zo);obtain⟨IG⟩:=UE;obtain⟨_,u,v,aE,_,_⟩:=iface_of_trod az nq;simp only at aE;subst aE;exact⟨u,v,Ee⟩
theorem zn(w:World)(A:Nat->Nat->Prop)(b:Nat):∀(us:List Value) (off:Nat),(∀i u,us[i]? =some u->A b (off+i)/\w.cell? ⟨b,off+i,none⟩=some u)->jI w A b off us
 |[],_,_=>trivial
 |u::us,off,h=>⟨by simpa using h 0 u rfl,zn w A b us (off+1) fun i eA hu=>by have:=h (i+1) eA (by simpa using hu);rwa[show off+(i+1)=off+1+i from by omega]at this⟩
theorem TQ{f:FuncId}{fn:Func}(vI:aQ.funcs[f]? =some fn)(UR:∀args w,(callFunc f args).run aQ w= .ok (.enter f args) w){w:World}{ν:aP}{args:List ae}{vs:Array Value}(gl:nO w ν)(h:b6 aQ f args (.bool true))(aD:∀k j b,¬ν.tr k j b)(aW:∀b o,ν.A b o->b<w.heap.size)(ah:∀k,ν.bx k=none)(ak:∀k,ν.ow k=none)(hr:cc w ν args vs.toList):
  Calls aQ f vs w fun e w'=>e= .returned (.bool true)/\Below w.heap.size w w':=by
 have aR:Pv.Good (fv ν ⟨[],[]⟩) w ν [] []:=⟨aW,fun k cs aa=>by simp[Pv.look]at aa,fun k bb bl I=>by simp[Pv.look]at I,fun g o aa=>by simp[Pv.look]at aa,fun g eM n n' v v' bl I=>by simp[Pv.look]at I,fun g k n v bl I=>by simp[Pv.look]at I,fun k=>.inl (ah k),fun _ _ k j=>aD k j _⟩;rcases h w ν vs gl aR (fun k=>⟨fun _=>ah k,fun _=>ak k,aD k⟩) hr with⟨_,aE⟩|⟨v,w',aE,_⟩
 ·refine aE.mono ?_;rintro e w' ⟨v,r,ai,ν',rfl,⟨rfl,rfl⟩,jt,_,_,_,ku⟩;simp only[aH]at jt;subst jt;refine⟨rfl,ku.os,ku.tape,ku.output,ku.size,fun k aa=>ku.block k aa ?_⟩;simp[fv,Pv.look]
 ·rw[UR]at aE;cases aE
theorem UY{W:World}{b o:Nat}(h:(yK W).A b o):b<W.heap.size:=by
 obtain⟨u,hu⟩:=h;rcases ly b W.heap.size with h|h
 ·exact h
 ·simp[World.cell?,Array.getElem?_eq_none h]at hu
theorem UX{W:World}(h:A0 W):nO W (yK W):=h.gl fun b o aR=>by obtain⟨x,af,rfl,rfl⟩:=aR;obtain⟨⟨v,aM,_⟩,_⟩:=h x af;exact⟨v,aM⟩
theorem adr{H:Type}{enc:fI×Value->H}{W:World}{spare:Nat->Bool}{held:Bool}{u:jL}{x:DataW H×List MemPlace}{fuel:Nat}(h:DataW.trod enc aQ W 0 spare held fuel 9 [.string u]=some x):∃s:nj,s.wf/\aH W (yK W) s.e (.string u):=by obtain⟨s,v,aq,e,hr⟩:=ads h;cases e;exact⟨s,aq,hr.1⟩
end
end Go.Proofs.YtlnndmgfngfeiaaGreatDoor
