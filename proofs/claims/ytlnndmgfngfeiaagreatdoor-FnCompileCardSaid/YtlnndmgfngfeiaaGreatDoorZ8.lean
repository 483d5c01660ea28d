/- The text of code has a line for each instruction and entry; code with a bent address is not valid. -/
import Derived.Test.YtlnndmgfngfeiaaGreatDoorProg
import Derived.Test.YtlnndmgfngfeiaaGreatDoorZ7
set_option linter.all false
set_option maxHeartbeats 4000000
set_option maxRecDepth 4000
open Bool renaming and_eq_true->bB,false_eq_true->iR,true_and->mD
open Go renaming Program->bW
open Go.IntKind renaming i64->iF
open Go.Proofs.Tryz renaming f6->jK,prog->aP
open List renaming all_eq_true->gC,append_assoc->l2,cons_append->iT,eq_nil_of_length_eq_zero->l3,getElem?_append_left->mF,getElem?_append_right->rb,getElem?_eq_getElem->bO,getElem?_eq_some_iff->cX,getElem?_of_mem->l4,length_append->dF,length_cons->e3,length_drop->kH,length_nil->nj,length_take->pt,map_cons->eQ,mem_append->iG,mem_cons->gH,mem_map->pv,mem_of_getElem?->eR,take_add_one->jw,take_length->jl,take_of_length_le->pw,take_succ_cons->pz
open Nat renaming eq_or_lt_of_le->k1,le_refl->da,lt_or_ge->hS,zero_add->nk
open Option.some renaming inj->dZ
open _root_ renaming False->dK,Option->be,UInt8->aF,beq_eq_false_iff_ne->jL,beq_iff_eq->dO,decide_eq_false->ly,decide_eq_true->k2,decide_eq_true_eq->ef,if_neg->bf,if_pos->bN
namespace Go.Proofs.YtlnndmgfngfeiaaGreatDoor
section
open Go Go.Pv
def nK(o:be (List Rl)):ag:=match o with
 |some P=>.tuple [gW P,.bool true]
 |none=>.tuple [gW [],.bool false]
@[simp]theorem ahg:ag.agg [.slice 7 .no []]=gW []:=rfl
@[simp]theorem ahh(a:Rl)(gD:List Rl):ag.agg [.slice 7 .no (a.e::gD.map Rl.e)]=gW (a::gD):=rfl
theorem Wm(w:List aF): -1<=gK w/\gK w<=1:=by unfold gK;split<;>(try split)<;>omega
theorem HF(a:List (List aF))(w:List aF):ea (a++[w])=ea a+gK w:=by
 induction a with
 |nil=>simp[ea]
 |cons x a a8=>simp only[iT,ea,a8];omega
theorem Oi:∀l:List (List aF),-(l.length:Int)<=ea l/\ea l<=l.length
 |[]=>by simp[ea]
 |w::l=>by have:=Wm w;have:=Oi l;simp only[ea,e3];omega
def iH(l:List (List aF))(i:Nat):List Rl×Nat×Int->bb
 |([],fr,d)=>⟨[(2,.ptr (.loc 0) 0),(4,.slice 1 .no (de l)),(6,.ptr (.loc 1) 0),(7,.int .i64 fr),(8,.int .i64 d),(22,.slice 1 .no (de l)),(23,.int .i64 l.length),(24,.int .i64 i)],[(.loc 0,[.slice 7 .nil []]),(.loc 1,[.slice 7 .nil []])],[],2,[]⟩
 |(x::xs,fr,d)=>⟨[(2,.ptr (.loc 0) 0),(4,.slice 1 .no (de l)),(6,.ptr (.loc 1) 0),(7,.int .i64 fr),(8,.int .i64 d),(22,.slice 1 .no (de l)),(23,.int .i64 l.length),(24,.int .i64 i)],[(.loc 0,[.slice 7 .nil []]),(.loc 1,[.slice 7 (.own (.loc 4)) (x.e::xs.map Rl.e)])],[(.loc 4,⟨xs.length+1,86,7,none⟩)],5,[]⟩
structure pB (l:List (List aF)) (R:ag) (i:Nat) (x:List Rl×Nat×Int):Prop where
 fr:x.2.1<=i
 d:x.2.2=ea ((l.drop x.2.1).take (i-x.2.1))
 op:∀m,0<m->m<=i-x.2.1->0<ea ((l.drop x.2.1).take m)
 res:∃n,(l.drop x.2.1).length<=n/\nK (q7 ((ox n (l.drop x.2.1)).map (x.1++ ·)))=R
 len:x.1.length<=x.2.1
theorem pB.zero{l:List (List aF)}{R:ag}{n:Nat}(aK:l.length<=n)(h:nK (q7 (ox n l))=R):pB l R 0 ([],0,0):=⟨da _,rfl,fun m I J=>Ω,⟨n,by simpa using aK,by simpa using h⟩,Ψ⟩
theorem pB.more{l:List (List aF)}{R:ag}{i:Nat}{P:List Rl}{fr:Nat}{d:Int}(h:pB l R i (P,fr,d)){w:List aF}(hw:l[i]? =some w)(a7:0<d+gK w):pB l R (i+1) (P,fr,d+gK w):=by
 obtain⟨I,J,av,aV,bE⟩:=h;simp only at I J av aV bE;have e:(l.drop fr).take (i+1-fr)=(l.drop fr).take (i-fr)++[w]:=by rw[show i+1-fr=(i-fr)+1 by omega,jw,List.getElem?_drop,show fr+(i-fr)=i by omega,hw];rfl
 refine⟨by simp only;omega,by simp only;rw[e,HF,<-J],fun m hm zv=>?_,aV,bE⟩;simp only at zv⊢;rcases hS (i-fr) m with b7|jc
 ·have:m=i+1-fr:=Ω
  rw[this,e,HF,<-J];exact a7
 ·exact av m hm jc
theorem pB.end'{l:List (List aF)}{R:ag}{i:Nat}{P:List Rl}{fr:Nat}{d:Int}(h:pB l R i (P,fr,d)){w:List aF}(hw:l[i]? =some w)(a7:¬0<d+gK w):
  (mJ ((l.drop fr).take (i+1-fr))=none->R=nK none)/\∀x,mJ ((l.drop fr).take (i+1-fr))=some x->pB l R (i+1) (P++[x],i+1,0):=by
 obtain⟨I,J,av,⟨n,aV,ch⟩,bE⟩:=h;simp only at I J av aV bE ch;have aw:=(cX.1 hw).1;have e:(l.drop fr).take (i+1-fr)=(l.drop fr).take (i-fr)++[w]:=by rw[show i+1-fr=(i-fr)+1 by omega,jw,List.getElem?_drop,show fr+(i-fr)=i by omega,hw];rfl
 have hlen:((l.drop fr).take (i+1-fr)).length=i+1-fr:=by rw[pt,kH];omega
 have nu:pG 0 (l.drop fr)=some (i+1-fr):=by
  have:=Hu ((l.drop fr).take (i+1-fr)) ((l.drop fr).drop (i+1-fr)) 0 (fun h=>by rw[h]at hlen;simp at hlen;omega) (by rw[e,HF,<-J];omega) fun k aa fG=>by rw[hlen]at fG;have:=av k aa Ω;rw[List.take_take,Nat.min_eq_left Ω];omega
  rwa[List.take_append_drop,hlen]at this
 have fF:(l.drop fr).drop (i+1-fr)=l.drop (i+1):=by rw[List.drop_drop];congr 1;omega
 obtain⟨u,us,hu⟩:∃u us,l.drop fr=u::us:=by
  cases aD:l.drop fr with
  |nil=>rw[aD]at hlen;simp at hlen;omega
  |cons u us=>exact⟨u,us,rfl⟩
 obtain⟨n,rfl⟩:∃m,n=m+1:=⟨n-1,by rw[hu]at aV;simp at aV;omega⟩;have I7:ox (n+1) (l.drop fr)=match mJ ((l.drop fr).take (i+1-fr))with
   |some x=>(ox n (l.drop (i+1))).map (x:: ·)
   |none=>none:=by
  conv=>lhs;rw[hu];unfold ox
  rw[<-hu,nu];simp only[fF];cases mJ ((l.drop fr).take (i+1-fr))<;>rfl
 rw[I7]at ch;constructor
 ·intro aK;rw[aK]at ch;exact ch.symm
 ·intro x ad;rw[ad]at ch;have ZE:(l.drop (i+1)).length<=n:=by simp only[kH]at aV⊢;omega
  refine⟨da _,by simp[ea],fun m hm zv=>by simp only at zv;omega,⟨n,ZE,?_⟩,by simp;omega⟩;rw[<-ch];simp only[Option.map_map];congr 3;funext y;simp
theorem pB.fin{l:List (List aF)}{R:ag}{P:List Rl}{fr:Nat}{d:Int}(h:pB l R l.length (P,fr,d)):(fr<l.length->0<d/\R=nK none)/\(fr=l.length->d=0/\R=nK (q7 (some P))):=by
 obtain⟨I,J,av,⟨n,aV,ch⟩,bE⟩:=h;simp only at I J av aV bE ch;constructor
 ·intro b7;have aE:(l.drop fr).length=l.length-fr:=kH ..;refine⟨by rw[J];exact av _ Ω (da _),?_⟩;have nu:pG 0 (l.drop fr)=none:=by
   cases aD:pG 0 (l.drop fr)with
   |none=>rfl
   |some k=>obtain⟨bV,a2,a3,_⟩:=Hv _ _ _ aD;have:=av k bV Ω;omega
  obtain⟨u,us,hu⟩:∃u us,l.drop fr=u::us:=by
   cases aD:l.drop fr with
   |nil=>rw[aD]at aE;simp at aE;omega
   |cons u us=>exact⟨u,us,rfl⟩
  have I7:ox n (l.drop fr)=none:=by
   cases n with
   |zero=>rw[hu];rfl
   |succ n=>
    conv=>lhs;rw[hu];unfold ox
    rw[<-hu,nu]
  rw[I7]at ch;exact ch.symm
 ·intro he;subst he;refine⟨by rw[J];simp[ea],?_⟩;rw[<-ch,List.drop_length];cases n<;>simp[ox]
theorem fX(S:aJ->Prop):∀a b:List ag,ai S (a++b)↔ai S a/\ai S b
 |[],b=>by simp[ai]
 |x::r,b=>by simp only[iT,ai,fX S r b,and_assoc]
theorem Oe(w:List aF):mJ [w]=none:=by
 unfold mJ;cases h:num [] [w]with
 |none=>rfl
 |some p=>
  obtain⟨T,M⟩:=p;have:=RV h;match T,this with
  |[t],_=>rfl
set_option maxRecDepth 8000 in
theorem agG(s:List aF)(ao:s.length<=bA):cg aP 37 [.str s] (nK (ye s)):=by
 have ei:=agI s ao;obtain⟨R,bh⟩:∃R,R=nK (ye s):=⟨_,rfl⟩;rw[<-bh];have rL:ak (fun _=>dK) R:=by rw[bh];unfold nK;split<;>simp[ak,ai]
 rw[aeo]at bh;cases aI:nN s with
 |none=>rw[aI]at ei bh;simp only[u5]at ei;simp only[nK]at bh;refine bJ h6 ON Sf (fun aG=>?_) (hr:=rL);unfold Hh;clear aG;simp;(with_reducible repeat' first|refine aA ?_|refine aX ei ?_|refine aY ei ?_|simp);rw[bh];simp[b1,qV,bn,bp,bk]
 |some l=>
 rw[aI]at ei bh;simp only[u5]at ei;simp only at bh;have aE:l.length<=20000/\∀w∈l,w≠[]:=by
  unfold nN at aI;split at aI
  ·rename_i h;cases aI;exact⟨h.2.2,C4 s.length s (da _)⟩
  ·cases aI
 obtain⟨aE,hw⟩:=aE;refine bJ h6 ON Sf (fun aG=>?_) (hr:=rL);unfold Hh;clear aG;simp;(with_reducible repeat' first|refine aA ?_|refine aX ei ?_|refine aY ei ?_|simp);clear ei;refine fM (iH l) l.length (fun i x=>pB l R i x) ([],0,0) (by simp[iH];exact⟨by simp[fresh,ai,ak,bc,ah,Pv.look,eo],cb (by simp[fresh,ai,ak,bc,ah,Pv.look,eo]),cc (by simp[fresh,ai,ak,b6,ah,Pv.look,eo]),Ψ⟩) (pB.zero (da _) bh.symm) (fun x al _=>?_) (fun i x aw al _=>?_)
 ·obtain⟨P,fr,d⟩:=x;obtain⟨f1,f2⟩:=al.fin;have mQ:=al.fr;simp only at mQ;have c1:=Uq P;clear bh al;rcases hS fr l.length with b7|jc
  ·obtain⟨I,ld⟩:=f1 b7;simp only[nK]at ld;have af:(d !=0)=true:=by simp;omega
   clear f1 f2 c1;cases P with
   |nil=>simp[iH];(with_reducible repeat' first|refine aA ?_|simp[af]);rw[ld];simp[b1,qV,bn,bp,bk]
   |cons a gD=>simp[iH];(with_reducible repeat' first|refine aA ?_|simp[af]);rw[ld];simp[b1,qV,bn,bp,bk]
  ·obtain⟨I,ld⟩:=f2 Ω;subst I;clear f1 f2;cases ec:il P
   ·rw[ec]at c1;replace ld:R= .tuple [gW [],.bool false]:=by rw[ld];simp[q7,ec,nK]
    cases P with
    |nil=>simp[iH];(with_reducible repeat' first|refine aA ?_|refine aX c1 ?_|refine aY c1 ?_|simp);rw[ld];simp[b1,qV,bn,bp,bk]
    |cons a gD=>simp[iH];(with_reducible repeat' first|refine aA ?_|refine aX c1 ?_|refine aY c1 ?_|simp);rw[ld];simp[b1,qV,bn,bp,bk]
   ·rw[ec]at c1;replace ld:R= .tuple [gW P,.bool true]:=by rw[ld];simp[q7,ec,nK]
    cases P with
    |nil=>simp[iH];(with_reducible repeat' first|refine aA ?_|refine aX c1 ?_|refine aY c1 ?_|simp);rw[ld];simp[b1,qV,bn,bp,bk]
    |cons a gD=>simp[iH];(with_reducible repeat' first|refine aA ?_|refine aX c1 ?_|refine aY c1 ?_|simp);rw[ld];simp[b1,qV,bn,bp,bk]
 obtain⟨P,fr,d⟩:=x;obtain⟨w,ad⟩:∃v,l[i]? =some v:=⟨_,bO aw⟩;have ey:∀cn,((de l)[i]'cn)= .str w:=fun cn=>by rw[mB aw];rw[bO aw]at ad;rw[dZ ad]
 have b2:aZ ((i:Int)+1):=by unfold aZ;omega
 have mQ:=al.fr;have gS:=al.len;have fF:=al.d;simp only at mQ gS fF;have kz:=Oi ((l.drop fr).take (i-fr));rw[<-fF]at kz;have aac:((l.drop fr).take (i-fr)).length<=20000:=by rw[pt,kH];omega
 have h2:P.length+1<=bA:=by unfold bA;omega
 have d64:aZ (d+1):=by unfold aZ;omega
 have DW:aZ (d-1):=by unfold aZ;omega
 have f1:(fr:Int)<=(i:Int)+1:=Ω
 have f2:(i:Int)+1<=l.length:=Ω
 have rQ:=fun h=>al.more ad h;obtain⟨qE,hH⟩:_/\_:=⟨fun h=>(al.end' ad h).1,fun h=>(al.end' ad h).2⟩;have jW:=Ze ((l.drop fr).take (i+1-fr)) (by rw[pt,kH];omega) fun w rW=>hw w (List.mem_of_mem_drop (List.mem_of_mem_take rW));have lQ:((de l).take (i+1)).drop fr=de ((l.drop fr).take (i+1-fr)):=by unfold de;rw[<-List.map_take,<-List.map_drop,List.drop_take]
 have qG:0<=d/\(d=0->(l.drop fr).take (i+1-fr)=[w]):=by
  rcases hS fr i with b7|jc
  ·have:=al.op (i-fr) (by first|omega|(simp only;omega)) (by first|omega|(simp only;omega));simp only at this;exact⟨Ω,fun h=>Ω⟩
  ·have e:fr=i:=Ω
   subst e;refine⟨by simp[fF,ea],fun _=>?_⟩;rw[show fr+1-fr=1 by omega,List.take_one,List.head?_drop,ad];rfl
 obtain⟨qG,lL⟩:=qG;clear bh al fF kz aac;by_cases LN:w=[40]
 ·subst LN;have sL:d+gK [40]=d+1:=by simp[gK]
  rw[sL]at rQ;have a7:0<d+1:=Ω
  have eO:=rQ a7;clear rQ qE hH jW lQ sL lL;cases P with
  |nil=>simp[iH,aw];(with_reducible repeat' first|refine aA ?_|simp[aw,ey,ad,d64,a7,qG,b2]);refine bP.rng (([]:List Rl),fr,d+1) aw eO ?_;simp[iH];exact⟨by simp[fresh,ai,ak,bc,ah,Pv.look,eo],cb (by simp[fresh,ai,ak,bc,ah,Pv.look,eo]),cc (by simp[fresh,ai,ak,b6,ah,Pv.look,eo]),Ψ⟩
  |cons a gD=>simp[iH,aw];(with_reducible repeat' first|refine aA ?_|simp[aw,ey,ad,d64,a7,qG,b2]);refine bP.rng (a::gD,fr,d+1) aw eO ?_;simp[iH];exact⟨by simp[fresh,ai,ak,bc,ah,Pv.look,eo],cb (by simp[fresh,ai,ak,bc,ah,Pv.look,eo]),cc (by simp[fresh,ai,ak,b6,ah,Pv.look,eo]),Ψ⟩
 have uE:=uF LN;by_cases LO:w=[41]
 ·subst LO;have sL:d+gK [41]=d-1:=by simp[gK];omega
  rw[sL]at rQ qE hH;by_cases a7:0<d-1
  ·have eO:=rQ a7;have ky:1<d:=Ω
   clear rQ qE hH jW lQ sL lL;cases P with
   |nil=>simp[iH,aw];(with_reducible repeat' first|refine aA ?_|simp[aw,ey,ad,DW,a7,ky,b2]);refine bP.rng (([]:List Rl),fr,d-1) aw eO ?_;simp[iH];exact⟨by simp[fresh,ai,ak,bc,ah,Pv.look,eo],cb (by simp[fresh,ai,ak,bc,ah,Pv.look,eo]),cc (by simp[fresh,ai,ak,b6,ah,Pv.look,eo]),Ψ⟩
   |cons a gD=>simp[iH,aw];(with_reducible repeat' first|refine aA ?_|simp[aw,ey,ad,DW,a7,ky,b2]);refine bP.rng (a::gD,fr,d-1) aw eO ?_;simp[iH];exact⟨by simp[fresh,ai,ak,bc,ah,Pv.look,eo],cb (by simp[fresh,ai,ak,bc,ah,Pv.look,eo]),cc (by simp[fresh,ai,ak,b6,ah,Pv.look,eo]),Ψ⟩
  replace qE:=qE a7;replace hH:=hH a7;have aag:d=0\/d=1:=Ω
  clear rQ sL;cases qH:mJ ((l.drop fr).take (i+1-fr))with
  |none=>
   have ld:=qE qH;simp only[nK]at ld;clear qE hH lL;have ky:¬1<d:=Ω
   cases P with
   |nil=>simp[iH,aw];(with_reducible repeat' first|refine aA ?_|simp[aw,ey,ad,DW,a7,ky,b2,f1,f2,lQ]);refine bI.ob jW gb (fun k cs h=>by simp[Pv.look]at h) (fun k cs h=>by simp[Pv.look]at h) (by simp[ai,ak]) ?_;rintro r aC bG;rw[qH]at bG;obtain⟨rfl,x,rfl⟩:=bG;refine⟨fJ.refl _,?_⟩;simp[bu];(with_reducible repeat' first|refine aA ?_|simp);rw[ld];simp[b1,qV,bn,bp,bk]
   |cons a gD=>simp[iH,aw];(with_reducible repeat' first|refine aA ?_|simp[aw,ey,ad,DW,a7,ky,b2,f1,f2,lQ]);refine bI.ob jW gb (fun k cs h=>by simp[Pv.look]at h) (fun k cs h=>by simp[Pv.look]at h) (by simp[ai,ak]) ?_;rintro r aC bG;rw[qH]at bG;obtain⟨rfl,x,rfl⟩:=bG;refine⟨fJ.refl _,?_⟩;simp[bu];(with_reducible repeat' first|refine aA ?_|simp);rw[ld];simp[b1,qV,bn,bp,bk]
  |some x=>
   rcases aag with rfl|rfl
   ·rw[lL rfl,Oe]at qH;cases qH
   have eO:=hH x qH;clear qE hH lL;have i0:aZ 0:=by unfold aZ;omega
   cases P with
   |nil=>simp[iH,aw];(with_reducible repeat' first|refine aA ?_|simp[aw,ey,ad,i0,b2,f1,f2,lQ]);refine bI.ob jW gb (fun k cs h=>by simp[Pv.look]at h) (fun k cs h=>by simp[Pv.look]at h) (by simp[ai,ak]) ?_;rintro r aC bG;rw[qH]at bG;obtain⟨rfl,rfl⟩:=bG;refine⟨fJ.refl _,?_⟩;simp[bu];(with_reducible repeat' first|refine aA ?_|simp[h2,b2]);refine bP.rng ([x],i+1,0) aw eO ?_;simp[iH];exact⟨by simp[fresh,ai,ak,bc,ah,Pv.look,eo,fX],cb (by simp[fresh,ai,ak,bc,ah,Pv.look,eo,fX]),cc (by simp[fresh,ai,ak,b6,ah,Pv.look,eo,fX]),Ψ⟩
   |cons a gD=>simp[iH,aw];(with_reducible repeat' first|refine aA ?_|simp[aw,ey,ad,i0,b2,f1,f2,lQ]);refine bI.ob jW gb (fun k cs h=>by simp[Pv.look]at h) (fun k cs h=>by simp[Pv.look]at h) (by simp[ai,ak]) ?_;rintro r aC bG;rw[qH]at bG;obtain⟨rfl,rfl⟩:=bG;refine⟨fJ.refl _,?_⟩;simp[bu];(with_reducible repeat' first|refine aA ?_|simp[h2,b2]);refine bP.rng (a::(gD++[x]),i+1,0) aw eO ?_;simp[iH];exact⟨by simp[fresh,ai,ak,bc,ah,Pv.look,eo,fX],cb (by simp[fresh,ai,ak,bc,ah,Pv.look,eo,fX]),cc (by simp[fresh,ai,ak,b6,ah,Pv.look,eo,fX]),Ψ⟩
 have tg:=uF LO;have sL:d+gK w=d:=by unfold gK;simp[LN,LO]
 rw[sL]at rQ qE hH;by_cases a7:0<d
 ·have eO:=rQ a7;clear rQ qE hH jW lQ sL lL;cases P with
  |nil=>simp[iH,aw];(with_reducible repeat' first|refine aA ?_|simp[aw,ey,ad,uE,tg,a7,b2]);refine bP.rng (([]:List Rl),fr,d) aw eO ?_;simp[iH];exact⟨by simp[fresh,ai,ak,bc,ah,Pv.look,eo],cb (by simp[fresh,ai,ak,bc,ah,Pv.look,eo]),cc (by simp[fresh,ai,ak,b6,ah,Pv.look,eo]),Ψ⟩
  |cons a gD=>simp[iH,aw];(with_reducible repeat' first|refine aA ?_|simp[aw,ey,ad,uE,tg,a7,b2]);refine bP.rng (a::gD,fr,d) aw eO ?_;simp[iH];exact⟨by simp[fresh,ai,ak,bc,ah,Pv.look,eo],cb (by simp[fresh,ai,ak,bc,ah,Pv.look,eo]),cc (by simp[fresh,ai,ak,b6,ah,Pv.look,eo]),Ψ⟩
 have cn:d=0:=Ω
 subst cn;have qH:mJ ((l.drop fr).take (i+1-fr))=none:=by rw[lL rfl];exact Oe w
 have ld:=qE a7 qH;simp only[nK]at ld;clear rQ sL qE hH lL;cases P with
 |nil=>simp[iH,aw];(with_reducible repeat' first|refine aA ?_|simp[aw,ey,ad,uE,tg,b2,f1,f2,lQ]);refine bI.ob jW gb (fun k cs h=>by simp[Pv.look]at h) (fun k cs h=>by simp[Pv.look]at h) (by simp[ai,ak]) ?_;rintro r aC bG;rw[qH]at bG;obtain⟨rfl,x,rfl⟩:=bG;refine⟨fJ.refl _,?_⟩;simp[bu];(with_reducible repeat' first|refine aA ?_|simp);rw[ld];simp[b1,qV,bn,bp,bk]
 |cons a gD=>simp[iH,aw];(with_reducible repeat' first|refine aA ?_|simp[aw,ey,ad,uE,tg,b2,f1,f2,lQ]);refine bI.ob jW gb (fun k cs h=>by simp[Pv.look]at h) (fun k cs h=>by simp[Pv.look]at h) (by simp[ai,ak]) ?_;rintro r aC bG;rw[qH]at bG;obtain⟨rfl,x,rfl⟩:=bG;refine⟨fJ.refl _,?_⟩;simp[bu];(with_reducible repeat' first|refine aA ?_|simp);rw[ld];simp[b1,qV,bn,bp,bk]
def yd(b:Bool)(k:Int):Bool:= !(k==10)&& !(b&&decide (3<=k/\k<=6))
end
end Go.Proofs.YtlnndmgfngfeiaaGreatDoor
namespace Go.Pv
open Go.Proofs.YtlnndmgfngfeiaaGreatDoor
mutual
def Gm.on(b:Bool):Gm->Bool
 | .mk k _ _ g=>yd b k&&Gm.onL b g
def Gm.onL(b:Bool):List Gm->Bool
 |[]=>true
 |x::xs=>x.on b&&Gm.onL b xs
end
end Go.Pv
namespace Go.Proofs.YtlnndmgfngfeiaaGreatDoor
section
open Go Go.Pv
theorem Sn(b:Bool)(g:Gm):g.on b=(yd b g.kind&&Gm.onL b g.gs):=by cases g;rfl
theorem Kl(b:Bool):∀l:List Gm,Gm.onL b l=l.all fun x=>x.on b
 |[]=>rfl
 |x::l=>by simp[Gm.onL,Kl b l]
theorem agx(b:Bool):∀(n:Nat) (g:Gm),g.sz<=n->cg aP 214 [g.e,.bool b] (.bool (g.on b)):=by
 intro n;induction n with
 |zero=>intro g aO;have:=g.sz_pos;omega
 |succ n a8=>
 intro g aO;rw[Sn,Kl];generalize bh:(yd b g.kind&&g.gs.all fun x=>x.on b)=R;have dx:=ee g.kind 3 6;refine bJ h6 Yo aed fun aG=>?_;unfold Nw;have fW:g.gs.length<=68719476736:=by rw[Gm.e_eq]at aG;simp[j1,iW,jA,bA]at aG;omega
 clear aG;simp;(with_reducible repeat' first|refine aA ?_|simp);refine fM (fun i (_:Unit)=>⟨[(1,.bool b),(2,.ptr (.loc 0) 0),(8,.slice 4 .no (g.gs.map Gm.e)),(9,.int .i64 g.gs.length),(10,.int .i64 i)],[(.loc 0,Pv.cells g.e)],[],1,[]⟩) g.gs.length (fun i _=> ∀(k:Nat) x,k<i->g.gs[k]? =some x->x.on b=true) () (by simp;exact c8) (fun k b aa=>Ω) (fun _ al _=>?_) (fun i _ aw al _=>?_)
 ·have j4:(g.gs.all fun x=>x.on b)=true:=by rw[gC];intro x ad;obtain⟨k,aa⟩:=l4 ad;exact al k x (cX.1 aa).1 aa
  rw[j4,Bool.and_true]at bh;unfold yd at bh;clear al a8 j4;generalize decide (3<=g.kind/\g.kind<=6)=fE at dx bh;by_cases e9:g.kind=10
  ·have aK:(g.kind !=10)=false:=by simp[e9]
   have:R=false:=by rw[<-bh];simp[e9]
   subst this;clear bh e9;exact bZ
  have aK:(g.kind !=10)=true:=by simpa using e9
  cases b
  ·have:R=true:=by rw[<-bh];simp[e9]
   subst this;clear bh e9;exact bZ
  have:R= !fE:=by rw[<-bh];simp[e9]
  subst this;clear bh e9;exact bZ
 ·obtain⟨x,ad⟩:∃e,g.gs[i]? =some e:=⟨_,bO aw⟩;have dn:∀h,(g.gs[i]'h)=x:=fun h=>by rw[bO aw]at ad;exact dZ ad
  have b2:aZ ((i:Int)+1):=by unfold aZ;omega
  have oh:=eR ad;have eM:=a8 x (by have:=g.gs_lt oh;omega);clear a8 dx;cases aD:x.on b
  ·have:R=false:=by rw[<-bh,Bool.eq_false_iff];intro h;rw[bB]at h;have:=gC.1 h.2 x oh;rw[aD]at this;cases this
   subst this;rw[aD]at eM;clear al bh;have pY:=eM;exact bZ
  ·rw[aD]at eM;have gr:∀(k:Nat) y,k<i+1->g.gs[k]? =some y->y.on b=true:=fun k y aa bC=>by
    rcases hS k i with h|h
    ·exact al k y h bC
    ·obtain rfl:k=i:=Ω
     rw[ad]at bC;cases bC;exact aD
   clear al bh;have pY:=eM;exact qU
def wk(b:Bool)(P:List Rl):Bool:=il P&&P.all fun r=>r.body.on b
theorem Uk(b:Bool)(P:List Rl):cg aP 164 [gW P,.bool b] (.bool (wk b P)):=by
 have c1:=Uq P;unfold wk;cases ec:il P
 ·rw[ec]at c1;refine bJ h6 OR Sj fun aG=>?_;unfold Hl;clear aG;exact bZ
 rw[ec]at c1;rw[mD];generalize bh:(P.all fun r=>r.body.on b)=R;have fa:=(Kb P).1 ec;refine bJ h6 OR Sj fun aG=>?_;unfold Hl;clear aG;simp;(with_reducible repeat' first|refine aA ?_|refine aX c1 ?_|refine aY c1 ?_|simp);refine fM (fun i (_:Unit)=>⟨[(1,.bool b),(2,.ptr (.loc 0) 0),(11,.slice 7 .no (P.map Rl.e)),(12,.int .i64 P.length),(13,.int .i64 i)],[(.loc 0,[.slice 7 .no (P.map Rl.e)])],[],1,[]⟩) P.length (fun i _=> ∀(k:Nat) x,k<i->P[k]? =some x->x.body.on b=true) () (by simp;exact c8) (fun k b aa=>Ω) (fun _ al _=>?_) (fun i _ aw al _=>?_)
 ·have:R=true:=by rw[<-bh,gC];intro x ad;obtain⟨k,aa⟩:=l4 ad;exact al k x (cX.1 aa).1 aa
  subst this;clear al bh;exact bZ
 ·obtain⟨x,ad⟩:∃e,P[i]? =some e:=⟨_,bO aw⟩;have dn:∀h,(P[i]'h)=x:=fun h=>by rw[bO aw]at ad;exact dZ ad
  have b2:aZ ((i:Int)+1):=by unfold aZ;omega
  have oh:=eR ad;have eM:=agx b x.body.sz x.body (da _);clear ec fa c1;cases aD:x.body.on b
  ·have:R=false:=by rw[<-bh,Bool.eq_false_iff];intro h;have:=gC.1 h x oh;rw[aD]at this;cases this
   subst this;rw[aD]at eM;clear al bh;have pY:=eM;exact bZ
  ·rw[aD]at eM;have gr:∀(k:Nat) y,k<i+1->P[k]? =some y->y.body.on b=true:=fun k y aa bC=>by
    rcases hS k i with h|h
    ·exact al k y h bC
    ·obtain rfl:k=i:=Ω
     rw[ad]at bC;cases bC;exact aD
   clear al bh;have pY:=eM;exact qU
theorem agE(P:List Rl):cg aP 97 [gW P] (.bool (wk false P)):=by have c1:=Uk false P;refine bJ h6 XX adM fun aG=>?_;unfold M1;clear aG;exact bZ
theorem agF(P:List Rl):cg aP 98 [gW P] (.bool (wk true P)):=by have c1:=Uk true P;refine bJ h6 XY adN fun aG=>?_;unfold M2;clear aG;exact bZ
def G7:C:=(ae [eA 1 0,cl 2 false] (.seq (ae [a6 5 0 1 1,aW 6 1 5,cy 7 6,a1 8 .gtr 7 8] (bt 8 (ae [cl 2 false] .ret) .skip)) (.seq (ae [a6 9 0 1 1,aW 10 1 9,cy 11 10,cA 12 0] (ir 13 12 11 (.seq (.block 1 (ae [ab 14 12,di 15 7 10 12,bH 16 7 15,cd (.alloc 4 none (.agg [.str [],.int .i64 0,.int .i64 0,.int .i64 0,.str [],.slice 4 .nil [],.slice 4 .nil []])),ab 3 14,bM 7 4 16] (.seq (ae (a6 17 0 1 4::aW 18 1 17::cW 19 103 18::eP 20 19::ab 21 20::aB 21 false (bH 22 1 1)::aB 21 false (a6 23 0 1 4)::aB 21 false (aW 24 1 23)::aB 21 false (dJ 25 119 22 24)::cj 21 false 26 3::aB 21 false (cC 27 .neq 25 26)::c7 28 21 27::ab 29 28::aB 29 false (a6 30 1 1 4)::aB 29 false (aW 31 1 30)::aB 29 false (a1 32 .lss 31 0)::c7 33 29 32::ab 34 33::aB 34 false (a6 35 1 1 4)::aB 34 false (aW 36 1 35)::aB 34 false (a1 37 .gtr 36 4)::c7 38 34 37::ab 39 38::aB 39 false (a6 40 2 1 4)::aB 39 false (aW 41 1 40)::aB 39 false (a1 42 .lss 41 0)::c7 43 39 42::ab 44 43::aB 44 false (a6 45 2 1 4)::aB 44 false (aW 46 1 45)::aB 44 false (a1 47 .gtr 46 8)::c7 48 44 47::[]) (bt 48 (ae [cl 2 false] .ret) .skip)) (ae [hP 49 3 4 4,bH 50 4 49,eg 51 117 [.t 50,(ca 60)],a1 52 .lss 51 0,ab 53 52,aB 53 false (hP 54 3 4 4),aB 53 false (bH 55 4 54),aB 53 false (a6 56 1 1 4),aB 53 false (aW 57 1 56),aB 53 false (a6 58 2 1 4),aB 53 false (aW 59 1 58),aB 53 false (cC 60 .add 57 59),aB 53 false (dJ 61 120 55 60),aB 53 false (eP 62 61),c7 63 53 62,ab 64 63,aB 64 false (bH 65 1 1),aB 64 false (hP 66 3 4 4),aB 64 false (bH 67 4 66),aB 64 false (dJ 68 121 65 67),aB 64 false (eP 69 68),c7 70 64 69] (bt 70 (ae [cl 2 false] .ret) .skip))))) (.region [a1 71 .add 12 1,ab 12 71])))) (ae [cl 2 true] .ret))))
@[simp] def sb:List cp:=[.tmp 2]
def w2:C:=(ae [eA 3 0,eA 4 1,cl 6 false] (ae [ab 7 2,a1 8 .geq 7 0,ab 9 8,cj 9 true 10 2,aB 9 true (a1 11 .leq 10 100000),dq 12 9 11,ab 13 12,aB 13 true (bH 14 1 3),aB 13 true (cW 15 166 14),dq 16 13 15,ab 17 16,aB 17 true (bH 18 4 4),aB 17 true (cW 19 115 18),dq 20 17 19,ab 21 20,aB 21 true (bH 22 1 3),aB 21 true (bH 23 4 4),cj 21 true 24 2,aB 21 true (eg 25 118 [.t 22,.t 23,.t 24]),dq 26 21 25,ab 27 26,aB 27 true (bH 28 4 4),aB 27 true (cW 29 167 28),aB 27 true (eP 30 29),dq 31 27 30,ab 6 31] .ret))
@[simp] def aeF:List cp:=[.tmp 6]
def Hb:C:=(ae [eA 3 0,eA 4 1,cl 6 false] (ae [bH 7 4 4,ab 8 2,dJ 9 120 7 8,ab 10 9,aB 10 true (bH 11 1 3),aB 10 true (bH 12 4 4),aB 10 true (dJ 13 121 11 12),dq 14 10 13,ab 6 14] .ret))
@[simp] def aeK:List cp:=[.tmp 6]
def MW:C:=(ae [eA 2 0,cA 4 0] (.seq (ae [a6 7 0 1 2,aW 8 1 7,cy 9 8,cA 10 0] (ir 11 10 9 (.seq (.block 1 (ae [ab 12 10,di 13 7 8 10,bH 14 7 13,cd (.alloc 6 none (.agg [.str [],.int .i64 0,.int .i64 0,.int .i64 0,.str [],.slice 4 .nil [],.slice 4 .nil []])),ab 5 12,bM 7 6 14] (ae [a6 15 0 1 6,aW 16 1 15,ab 17 1,cC 18 .eql 16 17] (bt 18 (ae [ab 19 5,ab 4 19] .ret) .skip)))) (.region [a1 20 .add 10 1,ab 10 20])))) (ae [cA 4 (-1)] .ret)))
@[simp] def aeQ:List cp:=[.tmp 4]
def MI:C:=(ae [cd (.box 2 (some 306) (.t 0)),eA 3 1,cl 4 false] (ae [cd (.alloc 5 (some 307) (.bool false)),cd (.store 1 (.t 5) (.c (.bool true)))] (ae [bH 6 4 3,bm 7 (.mkf 184 [.t 2,.t 5]),dJ 8 157 6 7] (ae [aW 9 1 5,ab 4 9] .ret))))
@[simp] def aeE:List cp:=[.tmp 4]
def G5:C:=(ae [eA 1 0,cl 2 false] (ae [bH 3 1 1,cW 4 50 3,ab 5 4,aB 5 true (bH 6 1 1),aB 5 true (cW 7 217 6),dq 8 5 7,ab 2 8] .ret))
@[simp] def aeC:List cp:=[.tmp 2]
def MR:C:=(ae [eA 1 0,cl 2 false] (ae [bH 3 4 1,eg 4 218 [.t 3,(.c (.func 219 []))],ab 2 4] .ret))
@[simp] def aeM:List cp:=[.tmp 2]
def AZ:C:=(ae [eA 3 0] (ae [a6 5 0 1 3,aW 6 1 5,a1 7 .eql 6 9] (bt 7 (ae [bH 8 1 1,a6 9 1 1 3,aW 10 1 9,dJ 11 119 8 10,ab 4 11] (.seq (.drawn true 26 [ab 12 4,a1 13 .lss 12 0,ab 14 13,aB 14 false (a6 15 0 1 1),aB 14 false (aW 16 1 15),cj 14 false 17 4,aB 14 false (di 18 7 16 17),aB 14 false (a6 19 1 1 18),aB 14 false (aW 20 1 19),aB 14 false (a6 21 2 1 3),aB 14 false (aW 22 1 21),aB 14 false (cy 23 22),aB 14 false (cC 24 .neq 20 23),c7 25 14 24]) (bt 25 (.region [cd (.store 1 (.t 2) (.c (.bool false)))]) .skip))) .skip)))
@[simp] def CP:List cp:=[]
def MV:C:=(ae [eA 1 0,cl 2 false] (.seq (ae [a6 5 0 1 1,aW 6 1 5,cy 7 6,cA 8 0] (ir 9 8 7 (.seq (.block 1 (ae [di 10 7 6 8,bH 11 7 10,cd (.alloc 4 none (.agg [.str [],.int .i64 0,.int .i64 0,.int .i64 0,.str [],.slice 4 .nil [],.slice 4 .nil []])),bM 7 4 11] (ae [hP 12 3 4 4,bH 13 4 12,cW 14 167 13] (bt 14 (ae [cl 2 false] .ret) .skip)))) (.region [a1 15 .add 8 1,ab 8 15])))) (ae [cl 2 true] .ret)))
@[simp] def aeO:List cp:=[.tmp 2]
def MQ:C:=(ae [eA 2 0,cd (.box 3 (some 309) (.t 1)),cl 4 false] (ae [cd (.alloc 5 (some 308) (.bool false)),cd (.store 1 (.t 5) (.c (.bool false)))] (ae [bH 6 4 2,bm 7 (.mkf 255 [.t 5,.t 3]),dJ 8 157 6 7] (ae [aW 9 1 5,ab 4 9] .ret))))
@[simp] def aeL:List cp:=[.tmp 4]
def MS:C:=(ae [cl 2 false] (ae [ab 3 0,a1 4 .eql 3 10,ab 2 4] .ret))
@[simp] def aeN:List cp:=[.tmp 2]
def MJ:C:=(ae [eA 1 0,cd (.alloc 2 none (.agg [.int .i64 0,.str [],.slice 4 .nil [],.slice 4 .nil []]))] (.seq (.drawn true 30 [a6 6 0 1 1,aW 7 1 6,a6 8 1 1 1,aW 9 1 8,a6 10 2 1 1,aW 11 1 10,cW 12 256 11,bm 13 (.build [.int .i64 0,.str [],.slice 4 .nil [],.slice 4 .nil []] [(0,1,(.t 7)),(1,1,(.t 9)),(2,1,(.t 12))]),cd (.alloc 3 none (.agg [.int .i64 0,.str [],.slice 4 .nil [],.slice 4 .nil []])),bM 4 3 13]) (.seq (ae [a6 14 3 1 1,aW 15 1 14,cy 16 15,cA 17 0] (ir 18 17 16 (.seq (.block 1 (ae [di 19 4 15 17,bH 20 4 19,cd (.alloc 5 none (.agg [.int .i64 0,.str [],.slice 4 .nil [],.slice 4 .nil []])),bM 4 5 20] (.drawn true 30 [a6 21 3 1 3,aW 22 1 21,bH 23 4 5,cW 24 220 23,ff 25 4 65 [.t 24],kp 26 4 65 22 25,a6 27 3 1 3,bM 1 27 26]))) (.region [a1 28 .add 17 1,ab 17 28])))) (ae [bH 29 4 3,bM 4 2 29] .ret))))
@[simp] def aeG:List cp:=[.cell 2 true 4]
def Hc:C:=(ae [eA 3 0] (.region [aW 4 1 1,ab 5 4,aB 5 false (aW 6 1 2),aB 5 false (a6 7 0 1 3),aB 5 false (aW 8 1 7),aB 5 false (LW 9 6 [.t 8]),c7 10 5 9,bM 1 1 10]))
@[simp] def Kv:List cp:=[]
def MK:C:=(ae [ps 2 4] (ae [ff 6 4 40 [],ab 3 6] (.seq (ae [ab 7 0,cy 8 7,cA 9 0] (ir 10 9 8 (.seq (.block 1 (ae [di 11 4 7 9,bH 12 4 11,jk 5 gi,bM 4 5 12] (.region [ab 13 3,bH 14 4 5,cW 15 75 14,ff 16 4 40 [.t 15],kp 17 4 40 13 16,ab 3 17]))) (.region [a1 18 .add 9 1,ab 9 18])))) (ae [ab 19 3,ab 2 19] .ret))))
@[simp] def aeI:List cp:=[.tmp 2]
def oD:List (Nat×du):=[
 (3,⟨1,8,.int .i64,.int .i64 0⟩),
 (4,⟨1,1,.bool,.bool false⟩),
 (9,⟨1,16,.str,.str []⟩),
 (38,⟨1,24,.slice 40,.slice 4 .nil []⟩),
 (40,⟨4,56,.struct [(0,3),(1,3),(2,9),(3,38)],.agg [.int .i64 0,.int .i64 0,.str [],.slice 4 .nil []]⟩),
 (59,⟨1,24,.slice 86,.slice 7 .nil []⟩),
 (61,⟨1,24,.struct [(0,59)],.agg [.slice 7 .nil []]⟩),
 (63,⟨1,24,.slice 65,.slice 4 .nil []⟩),
 (65,⟨4,72,.struct [(0,3),(1,9),(2,38),(3,63)],.agg [.int .i64 0,.str [],.slice 4 .nil [],.slice 4 .nil []]⟩),
 (86,⟨7,104,.struct [(0,9),(1,3),(2,3),(3,65)],.agg [.str [],.int .i64 0,.int .i64 0,.int .i64 0,.str [],.slice 4 .nil [],.slice 4 .nil []]⟩),
 (191,⟨1,8,.other,.junk⟩)]
theorem jv:fS aP oD=true:=by kernel_rfl
theorem R5:cF oD G7 sb 1 Tryz.f50=true:=by kernel_rfl
theorem OD:aP.funcs[(50:Nat)]? =some Tryz.f50:=Tryz.func50
theorem zQ:cF oD w2 aeF 3 Tryz.f101=true:=by kernel_rfl
theorem y6:aP.funcs[(101:Nat)]? =some Tryz.f101:=Tryz.func101
theorem R9:cF oD Hb aeK 3 Tryz.f118=true:=by kernel_rfl
theorem OH:aP.funcs[(118:Nat)]? =some Tryz.f118:=Tryz.func118
theorem adH:cF oD MW aeQ 2 Tryz.f119=true:=by kernel_rfl
theorem XS:aP.funcs[(119:Nat)]? =some Tryz.f119:=Tryz.func119
theorem adt:cF oD MI aeE 2 Tryz.f121=true:=by kernel_rfl
theorem XE:aP.funcs[(121:Nat)]? =some Tryz.f121:=Tryz.func121
theorem R3:cF oD G5 aeC 1 Tryz.f166=true:=by kernel_rfl
theorem OB:aP.funcs[(166:Nat)]? =some Tryz.f166:=Tryz.func166
theorem adC:cF oD MR aeM 1 Tryz.f167=true:=by kernel_rfl
theorem XN:aP.funcs[(167:Nat)]? =some Tryz.f167:=Tryz.func167
theorem FU:cF oD AZ CP 3 Tryz.f184=true:=by kernel_rfl
theorem D6:aP.funcs[(184:Nat)]? =some Tryz.f184:=Tryz.func184
theorem adG:cF oD MV aeO 1 Tryz.f217=true:=by kernel_rfl
theorem XR:aP.funcs[(217:Nat)]? =some Tryz.f217:=Tryz.func217
theorem adB:cF oD MQ aeL 2 Tryz.f218=true:=by kernel_rfl
theorem XM:aP.funcs[(218:Nat)]? =some Tryz.f218:=Tryz.func218
theorem adD:cF oD MS aeN 1 Tryz.f219=true:=by kernel_rfl
theorem XO:aP.funcs[(219:Nat)]? =some Tryz.f219:=Tryz.func219
theorem adu:cF oD MJ aeG 1 Tryz.f220=true:=by kernel_rfl
theorem XF:aP.funcs[(220:Nat)]? =some Tryz.f220:=Tryz.func220
theorem Sa:cF oD Hc Kv 3 Tryz.f255=true:=by kernel_rfl
theorem OI:aP.funcs[(255:Nat)]? =some Tryz.f255:=Tryz.func255
theorem adv:cF oD MK aeI 1 Tryz.f256=true:=by kernel_rfl
theorem XG:aP.funcs[(256:Nat)]? =some Tryz.f256:=Tryz.func256
theorem Un(P:List Rl)(s:List aF):cg aP 119 [gW P,.str s] (.int .i64 (nd P s)):=by
 generalize bh:nd P s=R;refine bJ jv XS adH fun aG=>?_;unfold MW;have fW:P.length<=68719476736:=by simp[gW,-GV,j1,iW,jA,bA]at aG;exact aG.1
 clear aG;simp;(with_reducible repeat' first|refine aA ?_|simp);refine fM (fun i (_:Unit)=>⟨[(1,.str s),(8,.slice 7 .no (P.map Rl.e)),(9,.int .i64 P.length),(10,.int .i64 i)],[],[],0,[]⟩) P.length (fun i _=>Fm P s i) () (by simp;exact c8) (fun k b aa=>Ω) (fun _ al _=>?_) (fun i _ aw al _=>?_)
 ·have:R= -1:=by rw[<-bh];exact S9 fun j f aM=>al j f (cX.1 aM).1 aM
  subst this;clear al bh;exact bZ
 ·obtain⟨e,he,eF⟩:=gd aw;have b2:aZ ((i:Int)+1):=by unfold aZ;omega
  by_cases aK:e.name=s
  ·have:R=i:=by rw[<-bh];exact KM he aK al
   subst this;clear al bh;subst aK;exact bZ
  ·have hb:(e.name==s)=false:=by simpa using aK
   have gr:Fm P s (i+1):=fun k f aa aM=>by
    rcases hS k i with h|h
    ·exact al k f h aM
    ·obtain rfl:k=i:=Ω
     rw[he]at aM;cases aM;exact aK
   clear al bh;exact qU
def hi(P:List Rl)(a:Bool):dM:=⟨[(.obj 306,[.slice 7 .no (P.map Rl.e)]),(.obj 307,[.bool a])],[]⟩
theorem wP{P:List Rl}(a:Bool):fq (hi P a):=by unfold hi;exact fq.of ⟨by intro m;simp[Pv.look],by intro m;simp[Pv.look]⟩ (by simp[ai,ak,ah,Pv.look]) Ψ
theorem AL{P:List Rl}(a b:Bool):fJ (hi P a) (hi P b):=by
 refine⟨fun k=>?_,fun k=>rfl⟩;simp only[hi,Pv.look];repeat' split
 all_goals rfl
def xa(P:List Rl)(g:Gm):Bool:=if g.kind=9 then(match P.find? fun r=>r.name==g.name with|some r=>r.ar==(g.ts.length:Int)|none=>false)else true
theorem VE{P:List Rl}(g:Gm)(h:g.shape=true)(a:Bool):(a&&g.cf P)=g.gs.foldl (fun a x=>a&&x.cf P) (a&&xa P g):=by
 have aM:∀(l:List Gm) (a:Bool),l.foldl (fun a x=>a&&x.cf P) a=(a&&l.all fun x=>x.cf P):=by
  intro l;induction l with
  |nil=>intro a;simp
  |cons x l a8=>intro a;rw[List.foldl_cons,a8,List.all_cons,Bool.and_assoc]
 rw[aM,NO,xa,Hs,Bool.and_assoc];by_cases eb:g.kind=9
 ·rw[bN eb,bN eb];have:g.gs=[]:=by rw[pg,bB]at h;have J:=h.2;rw[bf Ω,bN eb]at J;simp at J;exact J.1.2
  rw[this,List.all_nil,Bool.and_true];cases P.find? fun r=>r.name==g.name<;>rfl
 ·rw[bf eb,bf eb,mD]
def xb(P:List Rl)(l:List Gm)(a:Bool):Bool:=l.foldl (fun a x=>a&&x.cf P) a
theorem VD{P:List Rl}{l:List Gm}{i:Nat}{x:Gm}(h:l[i]? =some x)(a:Bool):xb P (l.take (i+1)) a=(xb P (l.take i) a&&x.cf P):=by unfold xb;rw[jw,h];simp
theorem YV{P:List Rl}(g:Gm)(a:Bool):bT aP 184 [g.e,.ptr (.obj 306) 0,.ptr (.obj 307) 0] (hi P a) fun r aC=>r= .tuple []/\aC=hi P (a&&xa P g):=by
 have ao:=wP (P:=P) a;have et:=wP (P:=P) (a&&xa P g);have eu:=AL (P:=P) a (a&&xa P g);have cZ:=Un P g.name;unfold xa at et eu⊢;by_cases eb:g.kind=9;rotate_left
 ·have xt:(g.kind==9)=false:=jL.2 eb;rw[bf eb,Bool.and_true]at et eu⊢;unfold hi at ao et eu⊢;refine bT.mk mixed jv D6 FU Ψ ao.obj fun aG b5=>?_;unfold AZ;clear aG b5;simp;(with_reducible repeat' first|refine aA ?_|simp[xt]);all_goals refine ck.at _ (.inr rfl) et eu aH aH ?_
  all_goals simp[cz,CP,bn,bp,bk]
 rw[bN eb]at et eu⊢;rcases S8 P g.name with⟨I,J⟩|⟨k,r,I,J,av⟩
 ·rw[I]at cZ;rw[J,Bool.and_false]at et eu⊢;unfold hi at ao et eu⊢;refine bT.mk mixed jv D6 FU Ψ ao.obj fun aG b5=>?_;unfold AZ;clear aG b5;simp;(with_reducible repeat' first|refine aA ?_|refine aX cZ ?_|refine aY cZ ?_|simp[eb]);all_goals refine ck.at _ (.inr rfl) et eu aH aH ?_
  all_goals simp[cz,CP,bn,bp,bk]
 ·rw[I]at cZ;rw[av]at et eu⊢;have aa:=(cX.1 J).1;have nv:∀h,(P[k]'h)=r:=fun h=>by rw[bO aa]at J;exact dZ J
  simp only at et eu⊢;by_cases rM:r.ar=(g.ts.length:Int)
  ·have bE:(r.ar==(g.ts.length:Int))=true:=by simpa using rM
   have ch:(r.ar !=(g.ts.length:Int))=false:=by simpa using rM
   rw[bE,Bool.and_true]at et eu⊢;unfold hi at ao et eu⊢;refine bT.mk mixed jv D6 FU Ψ ao.obj fun aG b5=>?_;unfold AZ;clear aG b5;simp;((with_reducible repeat' first|refine aA ?_|refine aX cZ ?_|refine aY cZ ?_|simp[eb,aa,nv,J,ch]|((first|apply cu|apply cw|apply cv)<;>intro h<;>try simp at h))<;>(try exact cK));all_goals refine ck.at _ (.inr rfl) et eu aH aH ?_
   all_goals simp[cz,CP,bn,bp,bk]
  ·have bE:(r.ar==(g.ts.length:Int))=false:=by simpa using rM
   have ch:(r.ar !=(g.ts.length:Int))=true:=by simpa using rM
   rw[bE,Bool.and_false]at et eu⊢;unfold hi at ao et eu⊢;refine bT.mk mixed jv D6 FU Ψ ao.obj fun aG b5=>?_;unfold AZ;clear aG b5;simp;((with_reducible repeat' first|refine aA ?_|refine aX cZ ?_|refine aY cZ ?_|simp[eb,aa,nv,J,ch]|((first|apply cu|apply cw|apply cv)<;>intro h<;>try simp at h))<;>(try exact cK));all_goals refine ck.at _ (.inr rfl) et eu aH aH ?_
   all_goals simp[cz,CP,bn,bp,bk]
theorem YY(P:List Rl):∀(n:Nat) (g:Gm),g.sz<=n->g.shape=true->∀a:Bool,bT aP 157 [g.e,.func 184 [.ptr (.obj 306) 0,.ptr (.obj 307) 0]] (hi P a) fun r aC=>r= .tuple []/\aC=hi P (a&&g.cf P):=by
 intro n;induction n with
 |zero=>intro g aO;have:=g.sz_pos;omega
 |succ n a8=>
 intro g aO dQ a;have ao:=wP (P:=P) a;have et:=wP (P:=P) (a&&g.cf P);have eu:=AL (P:=P) a (a&&g.cf P);have lV:=YV (P:=P) g a;have mU:∀x∈g.gs,∀a:Bool,bT aP 157 [x.e,.func 184 [.ptr (.obj 306) 0,.ptr (.obj 307) 0]] (hi P a) fun r aC=>r= .tuple []/\aC=hi P (a&&x.cf P):=fun x ad a=>a8 x (by have:=g.gs_lt ad;omega) (qd dQ x ad) a;have eZ:=VE (P:=P) g dQ a;rw[eZ,<-xb]at et eu⊢;generalize ig:(a&&xa P g)=kf at lV et eu eZ⊢;have EI:g.gs.length<=1000000:=by have:=(u0 dQ).1;omega
 unfold hi at ao;refine bT.mk mixed kk HX Kh Ψ ao.obj fun aG b5=>?_;unfold DD;clear aG b5;unfold hi;simp;refine bI.ob (lV) (wP _) (by unfold hi;exact aH) (by unfold hi;exact aH) (by simp[ah,hi,Pv.look]) ?_;rintro r aC ⟨rfl,rfl⟩;refine⟨AL _ _,?_⟩;unfold hi;simp[bu];(with_reducible repeat' first|refine aA ?_|simp);refine fM (fun i (_:Unit)=>⟨[(1,.func 184 [.ptr (.obj 306) 0,.ptr (.obj 307) 0]),(10,.slice 4 .no (g.gs.map Gm.e)),(11,.int .i64 g.gs.length),(12,.int .i64 i)],(hi P (xb P (g.gs.take i) kf)).b,[],0,[.obj 306,.obj 307]⟩) g.gs.length (fun _ _=>True) () (by simp[hi,xb];exact⟨by simp[fresh,ai,ak,bc,ah,Pv.look,br],cb (by simp[fresh,ai,ak,bc,ah,Pv.look,br]),cc (by simp[fresh,ai,ak,b6,ah,Pv.look,br]),Ψ⟩) trivial (fun _ _ _=>?_) (fun i _ aw _ _=>?_)
 ·simp only[jl,hi]at et eu⊢;simp;(with_reducible repeat' first|refine aA ?_|simp);all_goals refine ck.at _ (.inr rfl) et eu aH aH ?_
  all_goals simp[cz,F3,bn,bp,bk]
 ·obtain⟨b,af,lI⟩:=gd aw;have kb:=mU b (eR af) (xb P (g.gs.take i) kf);rw[<-VD af]at kb;have b2:aZ ((i:Int)+1):=by unfold aZ;omega
  clear et eu;simp only[hi];simp[aw,lI];(with_reducible repeat' first|refine aA ?_|simp[aw,lI]);refine bI.ob (kb) (wP _) (by unfold hi;exact aH) (by unfold hi;exact aH) (by simp[ah,hi,Pv.look]) ?_;rintro r aC ⟨rfl,rfl⟩;refine⟨AL _ _,?_⟩;unfold hi;simp[bu];(with_reducible repeat' first|refine aA ?_|simp[b2]);all_goals refine bP.rng () aw trivial (by simp[hi];exact⟨by simp[fresh,ai,ak,bc,ah,Pv.look,br],cb (by simp[fresh,ai,ak,bc,ah,Pv.look,br]),cc (by simp[fresh,ai,ak,b6,ah,Pv.look,br]),Ψ⟩)
theorem Lz(P:List Rl)(g:Gm)(h:g.shape=true):cg aP 121 [gW P,g.e] (.bool (g.cf P)):=by have lV:=YY P g.sz g (da _) h true;rw[mD]at lV;refine bJ jv XE adt fun aG=>?_;unfold MI;clear aG;simp;((with_reducible repeat' first|refine aA ?_|simp|((first|apply cu|apply cw|apply cv)<;>intro h<;>try simp at h))<;>(try exact cK));refine bI.ob (lV) (wP _) (by unfold hi;exact aH) (by unfold hi;exact aH) (by simp[ah,hi,Pv.look]) ?_;rintro r aC ⟨rfl,rfl⟩;refine⟨AL _ _,?_⟩;unfold hi;simp[bu];exact bZ
def sf:Nat->bS->bS
 |0,c=>c
 |n+1,c=>(sf n c).next
theorem Lb{c:bS}(h:c.ok):∀n,(sf n c).ok
 |0=>h
 |n+1=>(Lb h n).next
theorem RL{d:List Int}(a7:rp d)(aE:d.length<=10000000):(wb d).ok:=⟨a7,aE,by simp[-az,-au,wb]⟩
def ku(d:List Int)(n:Nat):bS:=sf n (wb d)
theorem DO{d:List Int}(a7:rp d)(aE:d.length<=10000000)(n:Nat):(ku d n).ok:=Lb (RL a7 aE) n
theorem dd(S:aJ->Prop)(c:bS):ai S c.e:=by simp[-az,-au,bS.e,ai,ak]
def abO(c:bS)(n:Nat)(k:Nat)(st:bb):Prop:=∃i:Nat,i<=n/\k=n-i/\st=⟨[(1,.int .i64 n),(5,.ptr (.obj 401) 0),(6,.int .i64 i)],[(.obj 401,(sf i c).e)],[],0,[.obj 401]⟩
theorem Ia(d:List Int)(a7:rp d)(aE:d.length<=10000000)(n:Nat)(aK:n<=1000000):bT aP 70 [.slice 1 .no (h1 d),.int .i64 n] ⟨[],[]⟩ fun r aC=>r= .ptr (.obj 401) 0/\aC=aL (ku d n):=by
 unfold ku;have ao:fq ⟨[],[]⟩:=(fq.of ⟨by intro m;simp[-az,-au,Pv.look],by intro m;simp[-az,-au,Pv.look]⟩ (by simp[-az,-au,ai,ak,ah,Pv.look]) (by simp[-az,-au,ai,ak,ah,Pv.look]));refine bT.mk mixed q6 Ys aeh (by simp[-az,-au]) ao.obj fun aG b5=>?_;unfold NA;simp[-az,-au];refine bI.new (Y9 d a7 aE) ao aH aH (by simp[-az,-au]) ?_;rintro r aC ⟨rfl,rfl⟩;refine⟨fun m _=>.inr (by simp[-az,-au]),?_⟩;unfold aL;simp[-az,-au,bu];refine y4 (abO (wb d) n) n _ ⟨by simp[-az,-au,fresh,ai,ak,bc,ah,Pv.look,dd,sf],cb (by simp[-az,-au,fresh,ai,ak,bc,ah,Pv.look,dd,sf]),cc (by simp[-az,-au,fresh,ai,ak,b6,ah,Pv.look,dd,sf]),by simp[-az,-au]⟩ ⟨0,Ω,rfl,rfl⟩ ?_;rintro k st ⟨i,aw,aa,rfl⟩ sT b5;clear sT b5;simp[-az,-au];(with_reducible repeat' first|((first|apply cu|apply cw|apply cv)<;>intro h<;>try simp[-az,-au]at h)|refine aA ?_|simp[-az,-au])
 ·(refine bI.ob (Ee _ (Lb (RL a7 aE) i)) (cm _) (by unfold aL;exact aH) (by unfold aL;exact aH) (by simp[-az,-au,ah,aL,Pv.look]) ?_;rintro r aC ⟨rfl,rfl⟩;refine⟨cY _ _,?_⟩;unfold aL;simp[-az,-au,bu]);(with_reducible repeat' first|((first|apply cu|apply cw|apply cv)<;>intro h<;>try simp[-az,-au]at h)|refine aA ?_|simp[-az,-au]);refine bP.next (n-(i+1)) Ω ⟨i+1,Ω,rfl,rfl⟩ ⟨by simp[-az,-au,fresh,ai,ak,bc,ah,Pv.look,dd,sf],cb (by simp[-az,-au,fresh,ai,ak,bc,ah,Pv.look,dd,sf]),cc (by simp[-az,-au,fresh,ai,ak,b6,ah,Pv.look,dd,sf]),by simp[-az,-au]⟩
 ·obtain rfl:i=n:=Ω
  refine ck.new (aL (sf i (wb d))) (.inl rfl) (cm _) (by simp[-az,-au,fB]) (by unfold aL;exact aH) (by unfold aL;exact aH) ?_;simp[-az,-au,cz,S4,bn,bp,bk,aL,ah,Pv.look]
def M7:C:=(ae [cd (.alloc 6 none (.agg [.slice 7 .nil []]))] (ae [ab 10 0,ab 11 1,dJ 12 70 10 11,ab 7 12] (ae [ab 14 7,cW 15 95 14,cW 16 94 15,cW 17 37 16,ab 13 17,hx 18 0 13,hx 19 1 13,cd (.alloc 8 none (.agg [.slice 7 .nil []])),bM 1 8 18,ab 9 19] (.seq (ae [ab 20 9,ab 21 20,cj 21 true 22 7,aB 21 true (eg 23 96 [.t 22,(ca 8)]),dq 24 21 23,ab 25 24,cj 25 true 26 2,aB 25 true (a1 27 .eql 26 2),cj 25 true 28 27,cj 28 false 29 2,aB 28 false (a1 30 .eql 29 1),cj 28 false 31 30,aB 31 true (bH 32 1 8),aB 31 true (cW 33 97 32),aB 28 false (dq 34 31 33),aB 25 true (c7 35 28 34),cj 25 true 36 35,aB 36 false (bH 37 1 8),aB 36 false (cW 38 98 37),aB 25 true (c7 39 36 38),dq 40 25 39] (bt 40 (ae [bH 41 1 8,bM 1 6 41] .ret) .skip)) (ae [ab 42 7,ab 43 2,dJ 44 99 42 43,bM 1 6 44] .ret)))))
@[simp] def z8:List cp:=[.cell 6 true 1]
def M5:C:=(ae [eA 6 2,cd (.alloc 8 none (.agg [.int .i64 0,.str [],.slice 4 .nil [],.slice 4 .nil []]))] (.seq (.drawnW [401] 15 [ab 9 0,ab 10 1,dJ 11 70 9 10,bH 12 1 6,ab 13 3,eg 14 100 [.t 11,.t 12,(ca 3),.t 13],bM 4 8 14]) .ret))
@[simp] def aeX:List cp:=[.cell 8 true 4]
def Nu:C:=(ae [cd (.alloc 4 none (.agg [.slice 7 .nil []]))] (ae [bm 13 (.build [.slice 7 .nil []] []),cd (.alloc 5 none (.agg [.slice 7 .nil []])),bM 1 5 13] (.seq (ae [cd (.bsl 14 1 9 [(.c (.str [112])),(.c (.str [113])),(.c (.str [114]))]),ab 15 0,eg 16 140 [.t 15,(ca 3)],bm 17 (.bin .add false (ca 1) (.t 16)),bm 18 (.lsl 1 (.t 14) none (some (.t 17))),cy 19 18,cA 20 0] (ir 21 20 19 (.seq (.block 1 (ae [di 22 1 18 20,aW 23 1 22,ab 7 23] (.drawnW [402] 98 [a6 24 0 1 5,aW 25 1 24,ab 26 7,ab 27 0,eg 28 140 [.t 27,(ca 2)],bm 29 (.bin .add false (ca 1) (.t 28)),ab 30 0,eg 31 140 [.t 30,(ca 2)],bm 32 (.build [.str [],.int .i64 0,.int .i64 0,.int .i64 0,.str [],.slice 4 .no [],.slice 4 .no []] [(0,1,(.t 26)),(1,1,(.t 29)),(2,1,(.t 31))]),ff 33 7 86 [.t 32],cd (.appm 34 (some 402) 7 86 (.t 25) (.t 33)),a6 35 0 1 5,bM 1 35 34]))) (.region [a1 36 .add 20 1,ab 20 36])))) (.seq (ae [a6 37 0 1 5,aW 38 1 37,cy 39 38,cA 40 0] (.block 2 (.loop (ae [cC 41 .lss 40 39] (.seq (bt 41 .skip (.exit 2)) (.seq (.block 3 (ae [ab 42 40,di 43 7 38 40,bH 44 7 43,cd (.alloc 9 none (.agg [.str [],.int .i64 0,.int .i64 0,.int .i64 0,.str [],.slice 4 .nil [],.slice 4 .nil []])),ab 8 42,bM 7 9 44] (ae [a6 45 1 1 9,aW 46 1 45,a6 47 2 1 9,aW 48 1 47,cC 49 .add 46 48,ab 10 49] (ae [ab 50 0,a6 51 0 1 5,aW 52 1 51,ab 53 10,ab 54 1,eg 55 165 [.t 50,.t 52,.t 53,(ca 0),.t 54],ff 56 4 65 [.t 55],bm 57 (.build [.int .i64 0,.str [],.slice 4 .nil [],.slice 4 .nil []] [(0,1,(ca 8)),(3,1,(.t 56))]),cd (.alloc 11 none (.agg [.int .i64 0,.str [],.slice 4 .nil [],.slice 4 .nil []])),bM 4 11 57] (.seq (ae [ab 58 0,eg 59 140 [.t 58,(ca 3)],ab 12 59] (.block 4 (.loop (.seq (ae [ab 60 12,a1 61 .gtr 60 0] (bt 61 .skip (.exit 4))) (.seq (.block 5 (.drawn false 98 [a6 64 3 1 11,aW 65 1 64,ab 66 0,a6 67 0 1 5,aW 68 1 67,ab 69 10,ab 70 0,eg 71 140 [.t 70,(ca 5)],a1 72 .quo 71 2,ab 73 1,eg 74 165 [.t 66,.t 68,.t 69,.t 72,.t 73],ff 75 4 65 [.t 74],kp 76 4 65 65 75,a6 77 3 1 11,bM 1 77 76])) (.region [ab 62 12,a1 63 .sub 62 1,ab 12 63])))))) (.seq (ae [a6 78 3 1 11,aW 79 1 78,cy 80 79,a1 81 .eql 80 1,ab 82 81,cj 82 true 83 0,aB 82 true (eg 84 96 [.t 83,(ca 2)]),dq 85 82 84] (bt 85 (.region [a6 86 3 1 11,aW 87 1 86,k0 88 4 87 0,bH 89 4 88,bM 4 11 89]) .skip)) (.fz true 11 (.fg false 11 (.region [a6 90 0 1 5,aW 91 1 90,ab 92 8,bH 93 4 11,di 94 7 91 92,hP 95 3 4 94,bM 4 95 93]))))))))) (.region [a1 96 .add 40 1,ab 40 96]))))))) (.seq (.pubB 5 (.region [bH 97 1 5,bM 1 4 97])) .ret)))))
@[simp] def S2:List cp:=[.cell 4 true 1]
def Hn:C:=(ae [eA 5 1,cd (.alloc 8 none (.agg [.int .i64 0,.str [],.slice 4 .nil [],.slice 4 .nil []]))] (ae [ab 10 0,a6 11 0 1 5,aW 12 1 11,ab 13 2,ab 14 3,eg 15 165 [.t 10,.t 12,.t 13,(ca 1),.t 14],cd (.alloc 9 none (.agg [.int .i64 0,.str [],.slice 4 .nil [],.slice 4 .nil []])),bM 4 9 15] (.seq (ae [ab 16 0,eg 17 96 [.t 16,(ca 4)],eP 18 17] (bt 18 (ae [a6 19 3 1 9,aW 20 1 19,a6 21 3 1 9,aW 22 1 21,cy 23 22,a1 24 .sub 23 1,di 25 4 20 24,bH 26 4 25,bM 4 8 26] .ret) .skip)) (ae [bH 27 4 9,bM 4 8 27] .ret))))
@[simp] def KD:List cp:=[.cell 8 true 4]
def Hm:C:=(ae [cd (.alloc 10 none (.agg [.int .i64 0,.str [],.slice 4 .nil [],.slice 4 .nil []]))] (ae [bm 16 (.build [.int .i64 0,.str [],.slice 4 .nil [],.slice 4 .nil []] [(0,1,(ca 7))]),cd (.alloc 11 none (.agg [.int .i64 0,.str [],.slice 4 .nil [],.slice 4 .nil []])),bM 4 11 16] (.seq (ae [ab 17 0,eg 18 140 [.t 17,(ca 2)],bm 19 (.bin .add false (ca 1) (.t 18)),ab 12 19] (.block 0 (.loop (.seq (ae [ab 20 12,a1 21 .gtr 20 0] (bt 21 .skip (.exit 0))) (.seq (.block 1 (.drawn false 87 [a6 24 3 1 11,aW 25 1 24,ab 26 0,ab 27 2,ab 28 4,a1 29 .eql 28 0,eg 30 215 [.t 26,.t 27,.t 29],ff 31 4 65 [.t 30],kp 32 4 65 25 31,a6 33 3 1 11,bM 1 33 32])) (.region [ab 22 12,a1 23 .sub 22 1,ab 12 23])))))) (.seq (.block 2 (.loop (.seq (ae [ab 34 3,a1 35 .gtr 34 0] (bt 35 .skip (.exit 2))) (.seq (.block 3 (ae [ab 38 1,ab 39 0,ab 40 1,cy 41 40,dJ 42 140 39 41,di 43 7 38 42,bH 44 7 43,cd (.alloc 13 none (.agg [.str [],.int .i64 0,.int .i64 0,.int .i64 0,.str [],.slice 4 .nil [],.slice 4 .nil []])),bM 7 13 44] (ae [a6 45 0 1 13,aW 46 1 45,bm 47 (.build [.int .i64 0,.str [],.slice 4 .nil [],.slice 4 .nil []] [(0,1,(ca 9)),(1,1,(.t 46))]),cd (.alloc 14 none (.agg [.int .i64 0,.str [],.slice 4 .nil [],.slice 4 .nil []])),bM 4 14 47] (.seq (ae [cA 15 0] (.block 4 (.loop (.seq (ae [ab 48 15,a6 49 1 1 13,aW 50 1 49,cC 51 .lss 48 50,ab 52 51,cj 52 true 53 15,aB 52 true (a1 54 .lss 53 6),dq 55 52 54] (bt 55 .skip (.exit 4))) (.seq (.block 5 (.drawn false 87 [a6 58 2 1 14,aW 59 1 58,ab 60 0,ab 61 0,eg 62 140 [.t 61,(ca 4)],a1 63 .quo 62 3,a1 64 .mul 63 2,bm 65 (.bin .add false (ca 1) (.t 64)),ab 66 2,eg 67 72 [.t 60,.t 65,.t 66],ff 68 4 40 [.t 67],kp 69 4 40 59 68,a6 70 2 1 14,bM 1 70 69])) (.region [ab 56 15,a1 57 .add 56 1,ab 15 57])))))) (.seq (ae [ab 71 4,a1 72 .eql 71 2,ab 73 72,cj 73 true 74 0,aB 73 true (eg 75 96 [.t 74,(ca 3)]),dq 76 73 75] (bt 76 (.region [bH 77 4 14,ff 78 4 65 [.t 77],eg 79 216 [(ca 10),(.c (.slice 4 .nil [])),.t 78],bM 4 14 79]) .skip)) (.fz true 14 (.fg false 14 (.region [a6 80 3 1 11,aW 81 1 80,bm 82 (.loadZ true 4 (.t 14)),ff 83 4 65 [.t 82],kp 84 4 65 81 83,a6 85 3 1 11,bM 1 85 84])))))))) (.region [ab 36 3,a1 37 .sub 36 1,ab 3 37]))))) (ae [bH 86 4 11,bM 4 10 86] .ret)))))
@[simp] def KB:List cp:=[.cell 10 true 4]
def w6:C:=(ae [cd (.alloc 6 none (.agg [.int .i64 0,.str [],.slice 4 .nil [],.slice 4 .nil []]))] (ae [ab 10 0,ab 11 1,eg 12 72 [.t 10,(ca 1),.t 11],jk 7 gi,bM 4 7 12] (ae [ab 13 0,ab 14 1,eg 15 72 [.t 13,(ca 4),.t 14],jk 8 gi,bM 4 8 15] (ae [ab 16 0,eg 17 140 [.t 16,(ca 16)],ab 9 17] (.seq (ae [ab 18 2,ab 19 18,cj 19 false 20 9,aB 19 false (a1 21 .lss 20 9),c7 22 19 21] (bt 22 (ae [bH 23 4 7,bH 24 4 8,ff 25 4 40 [.t 23,.t 24],eg 26 216 [(ca 2),.t 25,(.c (.slice 4 .nil []))],bM 4 6 26] .ret) .skip)) (.seq (ae [ab 27 9] (.block 0 (ae [a1 29 .eql 27 9,ab 28 29] (bt 28 (ae [bH 30 4 7,ff 31 4 40 [.t 30],eg 32 216 [(ca 4),.t 31,(.c (.slice 4 .nil []))],bM 4 6 32] .ret) (ae [a1 34 .eql 27 10,ab 33 34] (bt 33 (ae [bH 35 4 7,ff 36 4 40 [.t 35],eg 37 216 [(ca 5),.t 36,(.c (.slice 4 .nil []))],bM 4 6 37] .ret) (ae [a1 39 .eql 27 11,ab 38 39] (bt 38 (.seq (.drawn true 54 [⟨none,.call (some 40) (.c (.func 195 [])) [(.c (.str [97]))]⟩,bH 41 4 8,ff 42 4 40 [.t 40,.t 41],eg 43 216 [(ca 6),.t 42,(.c (.slice 4 .nil []))],bM 4 6 43]) .ret) (ae [a1 45 .eql 27 12,ab 44 45] (bt 44 (ae [ab 46 0,eg 47 140 [.t 46,(ca 8)],a1 48 .quo 47 7,eg 49 216 [.t 48,(.c (.slice 4 .nil [])),(.c (.slice 4 .nil []))],bM 4 6 49] .ret) .skip)))))))))) (ae [bH 50 4 7,bH 51 4 8,ff 52 4 40 [.t 50,.t 51],eg 53 216 [(ca 3),.t 52,(.c (.slice 4 .nil []))],bM 4 6 53] .ret)))))))
@[simp] def yg:List cp:=[.cell 6 true 4]
def Ns:C:=(ae [cd (.alloc 6 none (.agg [.int .i64 0,.str [],.slice 4 .nil [],.slice 4 .nil []]))] (ae [ab 7 0,ab 8 1,ab 9 2,bm 10 (.build [.int .i64 0,.str [],.slice 4 .nil [],.slice 4 .nil []] [(0,1,(.t 7)),(2,1,(.t 8)),(3,1,(.t 9))]),bM 4 6 10] .ret))
@[simp] def ae6:List cp:=[.cell 6 true 4]
def wG:List (Nat×du):=[
 (3,⟨1,8,.int .i64,.int .i64 0⟩),
 (9,⟨1,16,.str,.str []⟩),
 (38,⟨1,24,.slice 40,.slice 4 .nil []⟩),
 (40,⟨4,56,.struct [(0,3),(1,3),(2,9),(3,38)],.agg [.int .i64 0,.int .i64 0,.str [],.slice 4 .nil []]⟩),
 (59,⟨1,24,.slice 86,.slice 7 .nil []⟩),
 (61,⟨1,24,.struct [(0,59)],.agg [.slice 7 .nil []]⟩),
 (63,⟨1,24,.slice 65,.slice 4 .nil []⟩),
 (65,⟨4,72,.struct [(0,3),(1,9),(2,38),(3,63)],.agg [.int .i64 0,.str [],.slice 4 .nil [],.slice 4 .nil []]⟩),
 (70,⟨1,24,.slice 9,.slice 1 .nil []⟩),
 (86,⟨7,104,.struct [(0,9),(1,3),(2,3),(3,65)],.agg [.str [],.int .i64 0,.int .i64 0,.int .i64 0,.str [],.slice 4 .nil [],.slice 4 .nil []]⟩)]
theorem pk:fS aP wG=true:=by kernel_rfl
theorem adR:cF wG M7 z8 3 Tryz.f31=true:=by kernel_rfl
theorem X2:aP.funcs[(31:Nat)]? =some Tryz.f31:=Tryz.func31
theorem adP:cF wG M5 aeX 4 Tryz.f32=true:=by kernel_rfl
theorem X0:aP.funcs[(32:Nat)]? =some Tryz.f32:=Tryz.func32
theorem aeb:cF wG Nu S2 2 Tryz.f99=true:=by kernel_rfl
theorem Ym:aP.funcs[(99:Nat)]? =some Tryz.f99:=Tryz.func99
theorem Sl:cF wG Hn KD 4 Tryz.f100=true:=by kernel_rfl
theorem OT:aP.funcs[(100:Nat)]? =some Tryz.f100:=Tryz.func100
theorem Sk:cF wG Hm KB 5 Tryz.f165=true:=by kernel_rfl
theorem OS:aP.funcs[(165:Nat)]? =some Tryz.f165:=Tryz.func165
theorem zU:cF wG w6 yg 3 Tryz.f215=true:=by kernel_rfl
theorem za:aP.funcs[(215:Nat)]? =some Tryz.f215:=Tryz.func215
theorem ad9:cF wG Ns ae6 3 Tryz.f216=true:=by kernel_rfl
theorem Yk:aP.funcs[(216:Nat)]? =some Tryz.f216:=Tryz.func216
def Ao(dR:Int)(a b:T):List T:=if dR=0 then []else if dR=1 then []else if dR=2 then [a,b]else if dR=3 then [a,b]else if dR=4 then [a]else if dR=5 then [a]else [.sym [97],b]
def qb(k j:Int):Int:=if k<9 then 2 else if k=9 then 4 else if k=10 then 5 else if k=11 then 6 else if k=12 then j.tdiv 7 else 3
def tu(dR:Int)(a b:T):Gm:= .mk dR [] ((Ao dR a b).map T.tm) []
def Gu(n:Int)(c:bS):Gm:=tu (qb ((eI 4 n (eI 1 n c).2).2.below 16) (((eI 4 n (eI 1 n c).2).2.belowC 16).below 8)) (eI 1 n c).1 (eI 4 n (eI 1 n c).2).1
def C0(n:Int)(c:bS):bS:=if(eI 4 n (eI 1 n c).2).2.below 16=12 then((eI 4 n (eI 1 n c).2).2.belowC 16).belowC 8 else(eI 4 n (eI 1 n c).2).2.belowC 16
theorem TV{j:Int}(bD:0<=j)(I:j<8):j.tdiv 7=0\/j.tdiv 7=1:=by obtain⟨n,rfl⟩:∃n:Nat,j=n:=⟨j.toNat,Ω⟩;rcases(by omega:n=0\/n=1\/n=2\/n=3\/n=4\/n=5\/n=6\/n=7)with rfl|rfl|rfl|rfl|rfl|rfl|rfl|rfl<;>first|exact .inl rfl|exact .inr rfl
theorem afu{k j:Int}(bD:0<=j)(I:j<8):0<=qb k j/\qb k j<=6:=by
 have:=TV bD I;unfold qb;repeat' split
 all_goals omega
theorem Am(dR:Int)(a b:T):(tu dR a b).e= .agg [.int .i64 dR,.str [],.slice 4 .no ((Ao dR a b).map T.e),.slice 4 .no []]:=nt dR [] _ []
theorem Aw(dR:Int)(l:List T):cg aP 216 [.int .i64 dR,.slice 4 .no (l.map T.e),.slice 4 .no []] (.agg [.int .i64 dR,.str [],.slice 4 .no (l.map T.e),.slice 4 .no []]):=by refine bJ pk Yk ad9 fun aG=>?_;unfold Ns;exact bZ
theorem afG{n:Int}{c:bS}(aD:c.ok):(C0 n c).ok:=by
 have h:=yZ 4 n _ (yZ 1 n _ aD);unfold C0;split
 ·exact(h.below _).below _
 ·exact h.below _
theorem Ph(n:Int)(aK:n<=1000000)(c:bS)(aD:c.ok):bT aP 215 [.ptr (.obj 401) 0,.int .i64 n,.bool false] (aL c) fun r aC=>r=(Gu n c).e/\aC=aL (C0 n c):=by
 have ao:=cm c;have ek:=Ef n aK 1 Ω c aD;have hI:=yZ 1 n c aD;have eh:=Ef n aK 4 Ω _ hI;have fV:=yZ 4 n _ hI;have uw:=mg _ fV 16;have af:=((eI 4 n (eI 1 n c).2).2).below_le 16 Ω;have jb:=fV.below 16;have rZ:=mg _ jb 8;have al:=((eI 4 n (eI 1 n c).2).2.belowC 16).below_le 8 Ω;unfold Gu C0;generalize eI 1 n c=fp at*;obtain⟨a,cJ⟩:=fp;simp only at*;generalize eI 4 n cJ=fI at*;obtain⟨b,c2⟩:=fI;simp only at*;generalize c2.below 16=k at*;generalize c2.belowC 16=c3 at*;generalize c3.below 8=j at*;generalize c3.belowC 8=c4 at*;have gU:=GC [97];have m2:=Aw 2 [a,b];have m3:=Aw 3 [a,b];have m4:=Aw 4 [a];have m5:=Aw 5 [a];have m6:=Aw 6 [.sym [97],b];have m0:=Aw (j.tdiv 7) [];simp only[eQ,List.map_nil]at m0 m2 m3 m4 m5 m6;have xz:=TV al.1 al.2;have ib:k=12->(tu (qb k j) a b).e= .agg [.int .i64 (j.tdiv 7),.str [],.slice 4 .no [],.slice 4 .no []]:=fun h=>by subst h;rw[Am,show qb 12 j=j.tdiv 7 from rfl];rcases xz with h|h<;>rw[h]<;>rfl
 have Vv:k<9\/k=9\/k=10\/k=11\/k=12\/12<k:=Ω
 rcases Vv with aa|rfl|rfl|rfl|rfl|aa
 ·rw[show(tu (qb k j) a b).e= .agg [.int .i64 2,.str [],.slice 4 .no [a.e,b.e],.slice 4 .no []] by rw[Am];unfold qb;rw[bN aa];rfl,bf (show¬k=12 by omega)];clear hI fV jb al xz ib m0 m3 m4 m5 m6 rZ;refine bT.mk mixed pk za zU (by simp[-az,-au]) ao.obj fun aG b5=>?_;unfold w6;unfold aL;simp[-az,-au];(refine bI.ob (ek) (cm _) (by unfold aL;exact aH) (by unfold aL;exact aH) (by simp[-az,-au,ah,aL,Pv.look]) ?_;rintro r aC ⟨rfl,rfl⟩;refine⟨cY _ _,?_⟩;unfold aL;simp[-az,-au,bu]);(with_reducible repeat' first|refine aA ?_|simp[-az,-au]);(refine bI.ob (eh) (cm _) (by unfold aL;exact aH) (by unfold aL;exact aH) (by simp[-az,-au,ah,aL,Pv.look]) ?_;rintro r aC ⟨rfl,rfl⟩;refine⟨cY _ _,?_⟩;unfold aL;simp[-az,-au,bu]);(with_reducible repeat' first|refine aA ?_|simp[-az,-au]);(refine bI.ob (uw) (cm _) (by unfold aL;exact aH) (by unfold aL;exact aH) (by simp[-az,-au,ah,aL,Pv.look]) ?_;rintro r aC ⟨rfl,rfl⟩;refine⟨cY _ _,?_⟩;unfold aL;simp[-az,-au,bu]);(with_reducible repeat' first|refine aA ?_|refine aX m2 ?_|refine aY m2 ?_|simp[-az,-au,aa]);(refine ck.at (aL (c3)) (.inl rfl) (cm _) (cY _ _) (by unfold aL;exact aH) (by unfold aL;exact aH) ?_;simp[-az,-au,cz,yg,bn,bp,bk,aL])
 ·rw[show(tu (qb 9 j) a b).e= .agg [.int .i64 4,.str [],.slice 4 .no [a.e],.slice 4 .no []] by rw[Am];rfl,bf (show¬(9:Int)=12 by omega)];clear hI fV jb al xz ib m0 m3 m2 m5 m6 rZ;refine bT.mk mixed pk za zU (by simp[-az,-au]) ao.obj fun aG b5=>?_;unfold w6;unfold aL;simp[-az,-au];(refine bI.ob (ek) (cm _) (by unfold aL;exact aH) (by unfold aL;exact aH) (by simp[-az,-au,ah,aL,Pv.look]) ?_;rintro r aC ⟨rfl,rfl⟩;refine⟨cY _ _,?_⟩;unfold aL;simp[-az,-au,bu]);(with_reducible repeat' first|refine aA ?_|simp[-az,-au]);(refine bI.ob (eh) (cm _) (by unfold aL;exact aH) (by unfold aL;exact aH) (by simp[-az,-au,ah,aL,Pv.look]) ?_;rintro r aC ⟨rfl,rfl⟩;refine⟨cY _ _,?_⟩;unfold aL;simp[-az,-au,bu]);(with_reducible repeat' first|refine aA ?_|simp[-az,-au]);(refine bI.ob (uw) (cm _) (by unfold aL;exact aH) (by unfold aL;exact aH) (by simp[-az,-au,ah,aL,Pv.look]) ?_;rintro r aC ⟨rfl,rfl⟩;refine⟨cY _ _,?_⟩;unfold aL;simp[-az,-au,bu]);(with_reducible repeat' first|refine aA ?_|refine aX m4 ?_|refine aY m4 ?_|simp[-az,-au]);(refine ck.at (aL (c3)) (.inl rfl) (cm _) (cY _ _) (by unfold aL;exact aH) (by unfold aL;exact aH) ?_;simp[-az,-au,cz,yg,bn,bp,bk,aL])
 ·rw[show(tu (qb 10 j) a b).e= .agg [.int .i64 5,.str [],.slice 4 .no [a.e],.slice 4 .no []] by rw[Am];rfl,bf (show¬(10:Int)=12 by omega)];clear hI fV jb al xz ib m0 m3 m2 m4 m6 rZ;refine bT.mk mixed pk za zU (by simp[-az,-au]) ao.obj fun aG b5=>?_;unfold w6;unfold aL;simp[-az,-au];(refine bI.ob (ek) (cm _) (by unfold aL;exact aH) (by unfold aL;exact aH) (by simp[-az,-au,ah,aL,Pv.look]) ?_;rintro r aC ⟨rfl,rfl⟩;refine⟨cY _ _,?_⟩;unfold aL;simp[-az,-au,bu]);(with_reducible repeat' first|refine aA ?_|simp[-az,-au]);(refine bI.ob (eh) (cm _) (by unfold aL;exact aH) (by unfold aL;exact aH) (by simp[-az,-au,ah,aL,Pv.look]) ?_;rintro r aC ⟨rfl,rfl⟩;refine⟨cY _ _,?_⟩;unfold aL;simp[-az,-au,bu]);(with_reducible repeat' first|refine aA ?_|simp[-az,-au]);(refine bI.ob (uw) (cm _) (by unfold aL;exact aH) (by unfold aL;exact aH) (by simp[-az,-au,ah,aL,Pv.look]) ?_;rintro r aC ⟨rfl,rfl⟩;refine⟨cY _ _,?_⟩;unfold aL;simp[-az,-au,bu]);(with_reducible repeat' first|refine aA ?_|refine aX m5 ?_|refine aY m5 ?_|simp[-az,-au]);(refine ck.at (aL (c3)) (.inl rfl) (cm _) (cY _ _) (by unfold aL;exact aH) (by unfold aL;exact aH) ?_;simp[-az,-au,cz,yg,bn,bp,bk,aL])
 ·rw[show(tu (qb 11 j) a b).e= .agg [.int .i64 6,.str [],.slice 4 .no [(T.sym [97]).e,b.e],.slice 4 .no []] by rw[Am];rfl,bf (show¬(11:Int)=12 by omega)];clear hI fV jb al xz ib m0 m3 m2 m4 m5 rZ;refine bT.mk mixed pk za zU (by simp[-az,-au]) ao.obj fun aG b5=>?_;unfold w6;unfold aL;simp[-az,-au];(refine bI.ob (ek) (cm _) (by unfold aL;exact aH) (by unfold aL;exact aH) (by simp[-az,-au,ah,aL,Pv.look]) ?_;rintro r aC ⟨rfl,rfl⟩;refine⟨cY _ _,?_⟩;unfold aL;simp[-az,-au,bu]);(with_reducible repeat' first|refine aA ?_|simp[-az,-au]);(refine bI.ob (eh) (cm _) (by unfold aL;exact aH) (by unfold aL;exact aH) (by simp[-az,-au,ah,aL,Pv.look]) ?_;rintro r aC ⟨rfl,rfl⟩;refine⟨cY _ _,?_⟩;unfold aL;simp[-az,-au,bu]);(with_reducible repeat' first|refine aA ?_|simp[-az,-au]);(refine bI.ob (uw) (cm _) (by unfold aL;exact aH) (by unfold aL;exact aH) (by simp[-az,-au,ah,aL,Pv.look]) ?_;rintro r aC ⟨rfl,rfl⟩;refine⟨cY _ _,?_⟩;unfold aL;simp[-az,-au,bu]);(with_reducible repeat' first|refine aA ?_|refine aX gU ?_|refine aY gU ?_|refine aX m6 ?_|refine aY m6 ?_|simp[-az,-au]);(refine ck.at (aL (c3)) (.inl rfl) (cm _) (cY _ _) (by unfold aL;exact aH) (by unfold aL;exact aH) ?_;simp[-az,-au,cz,yg,bn,bp,bk,aL])
 ·rw[ib rfl,bN rfl];have hw:iF.wrap (j.tdiv 7)=j.tdiv 7:=by rcases xz with h|h<;>rw[h]<;>rfl
  clear hI fV jb ib m2 m3 m4 m5 m6;refine bT.mk mixed pk za zU (by simp[-az,-au]) ao.obj fun aG b5=>?_;unfold w6;unfold aL;simp[-az,-au];(refine bI.ob (ek) (cm _) (by unfold aL;exact aH) (by unfold aL;exact aH) (by simp[-az,-au,ah,aL,Pv.look]) ?_;rintro r aC ⟨rfl,rfl⟩;refine⟨cY _ _,?_⟩;unfold aL;simp[-az,-au,bu]);(with_reducible repeat' first|refine aA ?_|simp[-az,-au]);(refine bI.ob (eh) (cm _) (by unfold aL;exact aH) (by unfold aL;exact aH) (by simp[-az,-au,ah,aL,Pv.look]) ?_;rintro r aC ⟨rfl,rfl⟩;refine⟨cY _ _,?_⟩;unfold aL;simp[-az,-au,bu]);(with_reducible repeat' first|refine aA ?_|simp[-az,-au]);(refine bI.ob (uw) (cm _) (by unfold aL;exact aH) (by unfold aL;exact aH) (by simp[-az,-au,ah,aL,Pv.look]) ?_;rintro r aC ⟨rfl,rfl⟩;refine⟨cY _ _,?_⟩;unfold aL;simp[-az,-au,bu]);(with_reducible repeat' first|refine aA ?_|simp[-az,-au]);(refine bI.ob (rZ) (cm _) (by unfold aL;exact aH) (by unfold aL;exact aH) (by simp[-az,-au,ah,aL,Pv.look]) ?_;rintro r aC ⟨rfl,rfl⟩;refine⟨cY _ _,?_⟩;unfold aL;simp[-az,-au,bu]);(with_reducible repeat' first|refine aA ?_|refine aX m0 ?_|refine aY m0 ?_|simp[-az,-au,hw]);(refine ck.at (aL (c4)) (.inl rfl) (cm _) (cY _ _) (by unfold aL;exact aH) (by unfold aL;exact aH) ?_;simp[-az,-au,cz,yg,bn,bp,bk,aL])
 ·rw[show(tu (qb k j) a b).e= .agg [.int .i64 3,.str [],.slice 4 .no [a.e,b.e],.slice 4 .no []] by rw[Am];unfold qb;rw[bf Ω,bf Ω,bf Ω,bf Ω,bf Ω];rfl,bf (show¬k=12 by omega)];have aex:¬k<9:=Ω
  have b9:(k==9)=false:=by simp[-az,-au];omega
  have cx:(k==10)=false:=by simp[-az,-au];omega
  have dp:(k==11)=false:=by simp[-az,-au];omega
  have c6:(k==12)=false:=by simp[-az,-au];omega
  clear hI fV jb al xz ib m0 m2 m4 m5 m6 rZ;refine bT.mk mixed pk za zU (by simp[-az,-au]) ao.obj fun aG b5=>?_;unfold w6;unfold aL;simp[-az,-au];(refine bI.ob (ek) (cm _) (by unfold aL;exact aH) (by unfold aL;exact aH) (by simp[-az,-au,ah,aL,Pv.look]) ?_;rintro r aC ⟨rfl,rfl⟩;refine⟨cY _ _,?_⟩;unfold aL;simp[-az,-au,bu]);(with_reducible repeat' first|refine aA ?_|simp[-az,-au]);(refine bI.ob (eh) (cm _) (by unfold aL;exact aH) (by unfold aL;exact aH) (by simp[-az,-au,ah,aL,Pv.look]) ?_;rintro r aC ⟨rfl,rfl⟩;refine⟨cY _ _,?_⟩;unfold aL;simp[-az,-au,bu]);(with_reducible repeat' first|refine aA ?_|simp[-az,-au]);(refine bI.ob (uw) (cm _) (by unfold aL;exact aH) (by unfold aL;exact aH) (by simp[-az,-au,ah,aL,Pv.look]) ?_;rintro r aC ⟨rfl,rfl⟩;refine⟨cY _ _,?_⟩;unfold aL;simp[-az,-au,bu]);(with_reducible repeat' first|refine aA ?_|refine aX m3 ?_|refine aY m3 ?_|simp[-az,-au,aex,b9,cx,dp,c6]);(refine ck.at (aL (c3)) (.inl rfl) (cm _) (cY _ _) (by unfold aL;exact aH) (by unfold aL;exact aH) ?_;simp[-az,-au,cz,yg,bn,bp,bk,aL])
def jZ(n:Int):Nat->bS->List Gm×bS
 |0,c=>([],c)
 |k+1,c=>((jZ n k c).1++[Gu n (jZ n k c).2],C0 n (jZ n k c).2)
theorem Gv{n:Int}{c:bS}(aD:c.ok):∀k,(jZ n k c).2.ok
 |0=>aD
 |k+1=>afG (Gv aD k)
theorem yq(n:Int)(c:bS):∀k,(jZ n k c).1.length=k
 |0=>rfl
 |k+1=>by simp[-az,-au,jZ,yq n c k]
def tL(c:bS):Int:=1+(c.below 4).tdiv 3*2
theorem U4(c:bS):tL c=1\/tL c=3:=by have h:=c.below_le 4 Ω;unfold tL;generalize c.below 4=j at*;obtain⟨n,rfl⟩:∃n:Nat,j=n:=⟨j.toNat,Ω⟩;rcases(by omega:n=0\/n=1\/n=2\/n=3)with rfl|rfl|rfl|rfl<;>first|exact .inl rfl|exact .inr rfl
def iV(n:Int):Nat->bS->List T×bS
 |0,c=>([],c)
 |k+1,c=>((iV n k c).1++[(eI (tL (iV n k c).2).toNat n ((iV n k c).2.belowC 4)).1],(eI (tL (iV n k c).2).toNat n ((iV n k c).2.belowC 4)).2)
theorem Du{n:Int}{c:bS}(aD:c.ok):∀k,(iV n k c).2.ok
 |0=>aD
 |k+1=>yZ _ n _ ((Du aD k).below 4)
theorem Dt(n:Int)(c:bS):∀k,(iV n k c).1.length=k
 |0=>rfl
 |k+1=>by simp[-az,-au,iV,Dt n c k]
def qa:Rl:=⟨[],0,0,dN⟩
def qz(P:List Rl)(c:bS):Rl:=P[(c.below P.length).toNat]?.getD qa
def tN(P:List Rl)(n:Int)(c:bS):Gm:= .mk 9 (qz P c).name ((iV n (qz P c).ar.toNat (c.belowC P.length)).1.map T.tm) []
def yW(P:List Rl)(n:Int)(c:bS):bS:=(iV n (qz P c).ar.toNat (c.belowC P.length)).2
theorem Vm{P:List Rl}{n:Int}{c:bS}(aD:c.ok):(yW P n c).ok:=Du (aD.below _) _
def ia(P:List Rl)(n:Int):Nat->List Gm×bS->List Gm×bS
 |0,x=>x
 |m+1,x=>((ia P n m x).1++[tN P n (ia P n m x).2],yW P n (ia P n m x).2)
theorem DH{P:List Rl}{n:Int}{x:List Gm×bS}(aD:x.2.ok):∀m,(ia P n m x).2.ok
 |0=>aD
 |m+1=>Vm (DH aD m)
theorem Hq{P:List Rl}{n:Int}{x:Gm}{xs:List Gm}{c:bS}:∀j,∃ys,(ia P n j (x::xs,c)).1=x::ys/\ys.length=xs.length+j
 |0=>⟨xs,rfl,rfl⟩
 |j+1=>by obtain⟨ys,h,aE⟩:=Hq (P:=P) (n:=n) (x:=x) (xs:=xs) (c:=c) j;exact⟨ys++[tN P n (ia P n j (x::xs,c)).2],by simp[-az,-au,ia,h],by simp[-az,-au];omega⟩
def hl(P:List Rl)(n:Int)(m:Nat)(c:bS):List Gm×bS:=ia P n m (jZ n (1+(c.below 2).toNat) (c.belowC 2))
def k7(P:List Rl)(n:Int)(m:Nat)(c:bS):Gm:= .mk 7 [] [] (hl P n m c).1
theorem DK{P:List Rl}{n:Int}{m:Nat}{c:bS}(aD:c.ok):(hl P n m c).2.ok:=DH (Gv (aD.below _) _) m
theorem Ej(k:Int)(l:List Gm):(Gm.mk k [] [] l).e= .agg [.int .i64 k,.str [],.slice 4 .no [],.slice 4 .no (l.map Gm.e)]:=Gm.e_eq _
def r5(i:Nat):List aF:=if i=0 then [112]else if i=1 then [113]else [114]
def jt:Nat->bS->List Rl×bS
 |0,c=>([],c)
 |k+1,c=>((jt k c).1++[⟨r5 k,1+(jt k c).2.below 2,((jt k c).2.belowC 2).below 2,dN⟩],((jt k c).2.belowC 2).belowC 2)
theorem Tc{c:bS}(aD:c.ok):∀k,(jt k c).2.ok
 |0=>aD
 |k+1=>((Tc aD k).below 2).below 2
theorem uT(c:bS):∀k,(jt k c).1.length=k
 |0=>rfl
 |k+1=>by simp[-az,-au,jt,uT c k]
def oo(c:bS):Nat:=((c.below 5).tdiv 2).toNat
theorem RJ(c:bS):(c.below 5).tdiv 2=oo c/\oo c<=2:=by have h:=c.below_le 5 Ω;unfold oo;generalize c.below 5=j at*;obtain⟨n,rfl⟩:∃n:Nat,j=n:=⟨j.toNat,Ω⟩;rcases(by omega:n=0\/n=1\/n=2\/n=3\/n=4)with rfl|rfl|rfl|rfl|rfl<;>decide
def hW(P:List Rl)(n:Int):Nat->List Gm×bS->List Gm×bS
 |0,x=>x
 |k+1,x=>((hW P n k x).1++[k7 P n (oo (hW P n k x).2) ((hW P n k x).2.belowC 5)],(hl P n (oo (hW P n k x).2) ((hW P n k x).2.belowC 5)).2)
theorem G0{P:List Rl}{n:Int}{x:List Gm×bS}(aD:x.2.ok):∀m,(hW P n m x).2.ok
 |0=>aD
 |m+1=>DK ((G0 aD m).below 5)
theorem Mo{P:List Rl}{n:Int}{x:Gm}{xs:List Gm}{c:bS}:∀j,∃ys,(hW P n j (x::xs,c)).1=x::ys/\ys.length=xs.length+j
 |0=>⟨xs,rfl,rfl⟩
 |j+1=>by obtain⟨ys,h,aE⟩:=Mo (P:=P) (n:=n) (x:=x) (xs:=xs) (c:=c) j;exact⟨ys++[k7 P n (oo (hW P n j (x::xs,c)).2) ((hW P n j (x::xs,c)).2.belowC 5)],by simp[-az,-au,hW,h],by simp[-az,-au];omega⟩
def sH(P:List Rl)(n:Int)(c:bS):List Gm×bS:=hW P n ((hl P n 0 c).2.below 3).toNat ([k7 P n 0 c],(hl P n 0 c).2.belowC 3)
theorem Mk{P:List Rl}{n:Int}{c:bS}(aD:c.ok):(sH P n c).2.ok:=G0 (x:=([k7 P n 0 c],(hl P n 0 c).2.belowC 3)) ((DK aD).below 3) _
def qx(P:List Rl)(n:Int)(c:bS):Gm:=if(sH P n c).1.length=1/\(sH P n c).2.below 2=0 then k7 P n 0 c else .mk 8 [] [] (sH P n c).1
def rn(P:List Rl)(n:Int)(c:bS):bS:=if(sH P n c).1.length=1 then(sH P n c).2.belowC 2 else(sH P n c).2
theorem Vg{P:List Rl}{n:Int}{c:bS}(aD:c.ok):(rn P n c).ok:=by
 unfold rn;split
 ·exact(Mk aD).below _
 ·exact Mk aD
def gF:Nat->List Rl×bS->List Rl×bS
 |0,x=>x
 |k+1,x=>((gF k x).1.set k {(gF k x).1[k]?.getD qa with body:=qx (gF k x).1 (((gF k x).1[k]?.getD qa).ar+((gF k x).1[k]?.getD qa).loc) (gF k x).2},rn (gF k x).1 (((gF k x).1[k]?.getD qa).ar+((gF k x).1[k]?.getD qa).loc) (gF k x).2)
theorem OY{x:List Rl×bS}(aD:x.2.ok):∀k,(gF k x).2.ok
 |0=>aD
 |k+1=>Vg (OY aD k)
theorem ze(x:List Rl×bS):∀k,(gF k x).1.length=x.1.length
 |0=>rfl
 |k+1=>by simp[-az,-au,gF,ze x k]
def xd(c:bS):List Rl×bS:=gF (1+(c.below 3).toNat) (jt (1+(c.below 3).toNat) (c.belowC 3))
def xp(P:List Rl)(c:bS):Gm×bS:=if(hl P 3 1 c).2.below 4=0 then(k7 P 3 1 c,(hl P 3 1 c).2.belowC 4)else((hl P 3 1 c).1.getLastD dN,(hl P 3 1 c).2.belowC 4)
def He:C:=(ae [cl 2 false] (.seq (ae [ab 11 0,cy 12 11,a1 13 .gtr 12 1048576] (bt 13 (ae [cl 2 true] .ret) .skip)) (ae [ab 14 0,eg 15 31 [.t 14,(ca 0),(ca 1)],cd (.alloc 3 none (.agg [.slice 7 .nil []])),bM 1 3 15] (ae [ab 16 0,bH 17 1 3,eg 18 32 [.t 16,(ca 60),.t 17,(ca 1)],cd (.alloc 4 none (.agg [.int .i64 0,.str [],.slice 4 .nil [],.slice 4 .nil []])),bM 4 4 18] (ae [bH 20 1 3,bH 21 4 4,eg 22 33 [.t 20,.t 21,(ca 3)],ab 19 22,hx 23 0 19,hx 24 1 19,cd (.alloc 5 none (.agg [.slice 7 .nil [],.slice 4 .nil []])),bM 2 5 23,ab 6 24] (.seq (ae [ab 25 6,eP 26 25,ab 27 26,aB 27 false (bH 28 2 5),aB 27 false (cW 29 34 28),aB 27 false (eP 30 29),c7 31 27 30,ab 32 31,aB 32 false (a6 33 1 1 5),aB 32 false (aW 34 1 33),aB 32 false (cy 35 34),aB 32 false (a6 36 0 1 3),aB 32 false (aW 37 1 36),aB 32 false (cy 38 37),aB 32 false (a1 39 .add 38 1),aB 32 false (cC 40 .neq 35 39),c7 41 32 40] (bt 41 (ae [cl 2 false] .ret) .skip)) (ae [bH 42 2 5,cW 43 13 42,cW 44 35 43,ab 7 44] (.seq (.drawn true 101 [ab 45 0,eg 46 36 [.t 45,(ca 90)],a6 47 0 1 5,aW 48 1 47,cy 49 48,cC 50 .rem 46 49,ab 8 50]) (.seq (.drawnW [452] 101 [a6 51 1 1 5,bm 52 (.loadB false 1 (.t 51)),cd (.bslm 53 (some 452) 7 74 []),a6 54 0 1 5,bm 55 (.loadB false 1 (.t 54)),cd (.appm 56 none 7 74 (.t 53) (.t 55)),bm 57 (.build [.slice 7 .nil [],.slice 4 .nil []] [(1,1,(.t 52)),(0,1,(.t 56))]),cd (.alloc 9 none (.agg [.slice 7 .nil [],.slice 4 .nil []])),bM 2 9 57]) (.seq (.drawn true 101 [a6 58 0 1 9,aW 59 1 58,ab 60 8,a6 61 0 1 9,aW 62 1 61,ab 63 8,di 64 7 62 63,a6 65 1 1 64,aW 66 1 65,a6 67 0 1 5,aW 68 1 67,cy 69 68,cC 70 .add 66 69,di 71 7 59 60,a6 72 1 1 71,cd (.storeE 1 (.t 72) (.t 70))]) (.seq (.pubB 9 (.region [a6 73 0 1 5,aW 74 1 73,a6 75 0 1 5,aW 76 1 75,cy 77 76,a1 78 .sub 77 1,di 79 7 74 78,bH 80 7 79,cd (.alloc 10 none (.agg [.int .i64 0,.int .i64 0,.int .i64 0,.int .i64 0,.str [],.slice 4 .nil [],.slice 4 .nil []])),bM 7 10 80])) (ae [ab 81 7,cy 82 81,a6 83 0 1 5,aW 84 1 83,cy 85 84,a6 86 1 1 5,aW 87 1 86,cy 88 87,cC 89 .add 85 88,cC 90 .eql 82 89,ab 91 90,aB 91 true (bH 92 2 9),aB 91 true (cW 93 34 92),aB 91 true (eP 94 93),dq 95 91 94,ab 96 95,aB 96 true (a6 97 0 1 10),aB 96 true (aW 98 1 97),aB 96 true (a1 99 .eql 98 6),dq 100 96 99,ab 2 100] .ret))))))))))))
@[simp] def Kw:List cp:=[.tmp 2]
def G3:C:=(ae [eA 3 0,eA 4 1,cd (.alloc 6 none (.agg [.slice 7 .nil [],.slice 4 .nil []])),cl 7 false] (.seq (ae [bH 11 1 3,bH 12 4 4,ab 13 2,eg 14 101 [.t 11,.t 12,.t 13],eP 15 14] (bt 15 (ae [bm 16 (.build [.slice 7 .nil [],.slice 4 .nil []] []),bM 2 6 16,cl 7 false] .ret) .skip)) (ae [bm 17 (.build [.slice 7 .nil [],.slice 4 .nil []] []),cd (.box 18 (some 881) (.t 17)),ab 8 18] (.seq (ae [a6 19 0 1 3,aW 20 1 19,cy 21 20,cA 22 0] (ir 23 22 21 (.seq (.block 1 (ae [di 24 7 20 22,bH 25 7 24,cd (.alloc 10 none (.agg [.str [],.int .i64 0,.int .i64 0,.int .i64 0,.str [],.slice 4 .nil [],.slice 4 .nil []])),bM 7 10 25] (.region [ab 26 8,a6 27 0 1 10,aW 28 1 27,a6 29 1 1 10,aW 30 1 29,a6 31 1 1 10,aW 32 1 31,a6 33 2 1 10,aW 34 1 33,cC 35 .add 32 34,hP 36 3 4 10,bH 37 4 36,eg 38 102 [.t 26,.t 28,.t 30,.t 35,.t 37]]))) (.region [a1 39 .add 22 1,ab 22 39])))) (ae [ab 40 8,ab 41 2,bH 42 4 4,eg 43 102 [.t 40,(.c (.str [])),(ca 0),.t 41,.t 42]] (.seq (.pubB 1008 (.pubB 8 (.region [ab 44 8,ko 45 44,hP 46 0 2 45,bH 47 2 46,bM 2 6 47,cl 7 true]))) .ret))))))
@[simp] def SG:List cp:=[.cell 6 true 2,.tmp 7]
def MG:C:=(ae [ps 2 1] (ae [ff 6 1 9 [],ab 3 6] (ae [cA 4 0] (.seq (ae [cA 5 0] (.block 0 (.loop (.seq (ae [ab 7 5,ab 8 0,bm 9 (.slen (.t 8)),cC 10 .lss 7 9] (bt 10 .skip (.exit 0))) (.seq (.block 1 (ae [ab 13 0,ab 14 5,bm 15 (.sidx (.t 13) (.t 14)),bm 16 (.bin .eql false (.t 15) (.c (.int .u8 10)))] (bt 16 (ae [ab 17 3,ab 18 0,ab 19 4,ab 20 5,bm 21 (.ssl (.t 18) (some (.t 19)) (some (.t 20))),ff 22 1 9 [.t 21],kp 23 1 9 17 22,ab 3 23] (.region [ab 24 5,a1 25 .add 24 1,ab 4 25])) .skip))) (.region [ab 11 5,a1 12 .add 11 1,ab 5 12])))))) (.seq (ae [ab 26 4,ab 27 0,bm 28 (.slen (.t 27)),cC 29 .lss 26 28] (bt 29 (.region [ab 30 3,ab 31 0,ab 32 4,bm 33 (.ssl (.t 31) (some (.t 32)) none),ff 34 1 9 [.t 33],kp 35 1 9 30 34,ab 3 35]) .skip)) (ae [ab 36 3,ab 2 36] .ret))))))
@[simp] def SK:List cp:=[.tmp 2]
def G8:C:=(ae [eA 9 4] (.seq (.drawnW [883] 37 [ab 10 0,ab 11 0,ko 12 11,hP 13 0 2 12,a6 14 1 1 13,bm 15 (.loadB false 1 (.t 14)),ab 16 1,ab 17 0,ko 18 17,hP 19 0 2 18,a6 20 0 1 19,bm 21 (.loadB false 1 (.t 20)),cy 22 21,ab 23 2,ab 24 3,bm 25 (.build [.str [],.int .i64 0,.int .i64 0,.int .i64 0] [(0,1,(.t 16)),(1,1,(.t 22)),(2,1,(.t 23)),(3,1,(.t 24))]),ff 26 4 99 [.t 25],cd (.appm 27 (some 883) 4 99 (.t 15) (.t 26)),ko 28 10,hP 29 0 2 28,a6 30 1 1 29,bM 1 30 27]) (ae [ab 31 0,bH 32 4 9,dJ 33 168 31 32] (.region [ab 34 0,bm 35 (.build [.int .i64 0,.int .i64 0,.int .i64 0,.int .i64 0,.str [],.slice 4 .nil [],.slice 4 .nil []] [(0,1,(ca 6))]),dJ 36 169 34 35]))))
@[simp] def Ks:List cp:=[]
def vo:C:=(ae [eA 3 1] (ae [a6 13 0 1 3,aW 14 1 13] (.block 0 (ae [a1 21 .eql 14 0,ab 20 21] (bt 20 .skip (ae [a1 23 .eql 14 1,ab 22 23] (bt 22 (.region [ab 24 0,bm 25 (.build [.int .i64 0,.int .i64 0,.int .i64 0,.int .i64 0,.str [],.slice 4 .nil [],.slice 4 .nil []] [(0,1,(ca 4))]),dJ 26 169 24 25]) (ae [a1 28 .eql 14 9,ab 27 28] (bt 27 (.region [ab 29 0,bH 30 4 3,cW 31 220 30,bm 32 (.build [.int .i64 0,.int .i64 0,.int .i64 0,.int .i64 0,.str [],.slice 4 .nil [],.slice 4 .nil []] [(0,1,(ca 5)),(3,4,(.t 31))]),dJ 33 169 29 32]) (ae [a1 35 .eql 14 7,ab 34 35] (bt 34 (ae [a6 36 3 1 3,aW 37 1 36,cy 38 37,cA 39 0] (.block 1 (.loop (ae [cC 40 .lss 39 38] (.seq (bt 40 .skip (.exit 1)) (.seq (.block 2 (ae [di 41 4 37 39,bH 42 4 41,cd (.alloc 5 none (.agg [.int .i64 0,.str [],.slice 4 .nil [],.slice 4 .nil []])),bM 4 5 42] (.region [ab 43 0,bH 44 4 5,dJ 45 168 43 44]))) (.region [a1 46 .add 39 1,ab 39 46]))))))) (ae [a1 48 .eql 14 8,ab 47 48] (bt 47 (ae [a6 49 3 1 3,aW 50 1 49,cy 51 50,a1 52 .sub 51 1,ab 6 52] (.seq (ae [ab 53 6,a1 54 .lss 53 0] (bt 54 (ae [ab 55 0,bm 56 (.build [.int .i64 0,.int .i64 0,.int .i64 0,.int .i64 0,.str [],.slice 4 .nil [],.slice 4 .nil []] [(0,1,(ca 4))]),dJ 57 169 55 56] .ret) .skip)) (ae [ff 58 1 3 [],ab 7 58] (.seq (ae [a6 59 3 1 3,aW 60 1 59,cy 61 60,cA 62 0] (.block 3 (.loop (ae [cC 63 .lss 62 61] (.seq (bt 63 .skip (.exit 3)) (.seq (.block 4 (ae [ab 64 62,di 65 4 60 62,bH 66 4 65,cd (.alloc 9 none (.agg [.int .i64 0,.str [],.slice 4 .nil [],.slice 4 .nil []])),ab 8 64,bM 4 9 66] (.seq (ae [ab 67 8,ab 68 6,cC 69 .eql 67 68] (bt 69 (ae [ab 70 0,ab 71 6,bm 72 (.build [.int .i64 0,.int .i64 0,.int .i64 0,.int .i64 0,.str [],.slice 4 .nil [],.slice 4 .nil []] [(0,1,(ca 2)),(2,1,(.t 71))]),dJ 73 169 70 72] (ae [ab 74 0,bH 75 4 9,dJ 76 168 74 75] (.exit 3))) .skip)) (ae [ab 77 0,ab 78 8,bm 79 (.build [.int .i64 0,.int .i64 0,.int .i64 0,.int .i64 0,.str [],.slice 4 .nil [],.slice 4 .nil []] [(0,1,(ca 1)),(2,1,(.t 78))]),dJ 80 169 77 79,ab 10 80] (ae [ab 81 0,bH 82 4 9,dJ 83 168 81 82] (ae [ab 84 7,ab 85 0,bm 86 (.build [.int .i64 0,.int .i64 0,.int .i64 0,.int .i64 0,.str [],.slice 4 .nil [],.slice 4 .nil []] [(0,1,(ca 3))]),dJ 87 169 85 86,ff 88 1 3 [.t 87],kp 89 1 3 84 88,ab 7 89] (.drawn true 126 [ab 90 0,ko 91 90,hP 92 0 2 91,a6 93 0 1 92,aW 94 1 93,ab 95 10,ab 96 0,ko 97 96,hP 98 0 2 97,a6 99 0 1 98,aW 100 1 99,cy 101 100,di 102 7 94 95,a6 103 1 1 102,cd (.storeE 1 (.t 103) (.t 101))]))))))) (.region [a1 104 .add 62 1,ab 62 104]))))))) (ae [ab 105 7,cy 106 105,cA 107 0] (.block 5 (.loop (ae [cC 108 .lss 107 106] (.seq (bt 108 .skip (.exit 5)) (.seq (.block 6 (ae [di 109 1 105 107,aW 110 1 109,ab 12 110] (.drawn true 126 [ab 111 0,ko 112 111,hP 113 0 2 112,a6 114 0 1 113,aW 115 1 114,ab 116 12,ab 117 0,ko 118 117,hP 119 0 2 118,a6 120 0 1 119,aW 121 1 120,cy 122 121,di 123 7 115 116,a6 124 1 1 123,cd (.storeE 1 (.t 124) (.t 122))]))) (.region [a1 125 .add 107 1,ab 107 125]))))))))))) (.region [ab 15 0,bH 16 4 3,cW 17 220 16,bm 18 (.build [.int .i64 0,.int .i64 0,.int .i64 0,.int .i64 0,.str [],.slice 4 .nil [],.slice 4 .nil []] [(0,1,(ca 0)),(3,4,(.t 17))]),dJ 19 169 15 18]))))))))))))))
@[simp] def wx:List cp:=[]
def G9:C:=(ae [eA 3 1,cA 4 0] (.seq (.drawnW [882] 24 [ab 5 0,ab 6 0,ko 7 6,hP 8 0 2 7,a6 9 0 1 8,bm 10 (.loadB false 1 (.t 9)),bH 11 7 3,ff 12 7 74 [.t 11],cd (.appm 13 (some 882) 7 74 (.t 10) (.t 12)),ko 14 5,hP 15 0 2 14,a6 16 0 1 15,bM 1 16 13]) (ae [ab 17 0,ko 18 17,hP 19 0 2 18,a6 20 0 1 19,aW 21 1 20,cy 22 21,a1 23 .sub 22 1,ab 4 23] .ret)))
@[simp] def Kt:List cp:=[.tmp 4]
def yv:List (Nat×du):=[
 (3,⟨1,8,.int .i64,.int .i64 0⟩),
 (9,⟨1,16,.str,.str []⟩),
 (28,⟨1,24,.slice 74,.slice 7 .nil []⟩),
 (29,⟨1,24,.slice 99,.slice 4 .nil []⟩),
 (31,⟨2,48,.struct [(0,28),(1,29)],.agg [.slice 7 .nil [],.slice 4 .nil []]⟩),
 (35,⟨1,24,.slice 5,.slice 1 .nil []⟩),
 (59,⟨1,24,.slice 86,.slice 7 .nil []⟩),
 (61,⟨1,24,.struct [(0,59)],.agg [.slice 7 .nil []]⟩),
 (63,⟨1,24,.slice 65,.slice 4 .nil []⟩),
 (65,⟨4,72,.struct [(0,3),(1,9),(2,38),(3,63)],.agg [.int .i64 0,.str [],.slice 4 .nil [],.slice 4 .nil []]⟩),
 (70,⟨1,24,.slice 9,.slice 1 .nil []⟩),
 (74,⟨7,96,.struct [(0,3),(1,3),(2,3),(3,65)],.agg [.int .i64 0,.int .i64 0,.int .i64 0,.int .i64 0,.str [],.slice 4 .nil [],.slice 4 .nil []]⟩),
 (86,⟨7,104,.struct [(0,9),(1,3),(2,3),(3,65)],.agg [.str [],.int .i64 0,.int .i64 0,.int .i64 0,.str [],.slice 4 .nil [],.slice 4 .nil []]⟩),
 (99,⟨4,40,.struct [(0,9),(1,3),(2,3),(3,3)],.agg [.str [],.int .i64 0,.int .i64 0,.int .i64 0]⟩),
 (136,⟨1,24,.slice 3,.slice 1 .nil []⟩),
 (148,⟨2,48,.struct [(0,31)],.agg [.slice 7 .nil [],.slice 4 .nil []]⟩)]
theorem nO:fS aP yv=true:=by kernel_rfl
theorem Sc:cF yv He Kw 1 jK=true:=by kernel_rfl
theorem OK:aP.funcs[(6:Nat)]? =some jK:=Tryz.func6
theorem R1:cF yv G3 SG 3 Tryz.f33=true:=by kernel_rfl
theorem Oz:aP.funcs[(33:Nat)]? =some Tryz.f33:=Tryz.func33
theorem adr:cF yv MG SK 1 Tryz.f35=true:=by kernel_rfl
theorem XC:aP.funcs[(35:Nat)]? =some Tryz.f35:=Tryz.func35
theorem R6:cF yv G8 Ks 5 Tryz.f102=true:=by kernel_rfl
theorem OE:aP.funcs[(102:Nat)]? =some Tryz.f102:=Tryz.func102
theorem x9:cF yv vo wx 2 Tryz.f168=true:=by kernel_rfl
theorem xg:aP.funcs[(168:Nat)]? =some Tryz.f168:=Tryz.func168
theorem R7:cF yv G9 Kt 2 Tryz.f169=true:=by kernel_rfl
theorem OF:aP.funcs[(169:Nat)]? =some Tryz.f169:=Tryz.func169
theorem agi(l:List ba)(aE:∀t∈l,t.fits=true)(J:l.length<=100000):cg aP 256 [.slice 4 .no (l.map enc)] (.slice 4 .no (l.map enc)):=by
 refine bJ jv XG adv fun aG=>?_;unfold MK;clear aG;simp;refine fM (fun i (p:List ba)=>⟨[(3,.slice 4 (.own (.loc 0)) (p.map enc)),(8,.int .i64 l.length),(7,.slice 4 .no (l.map enc)),(9,.int .i64 i)],[],[(.loc 0,⟨p.length,40,4,none⟩)],1,[]⟩) l.length (fun i p=>p=l.take i) [] (by simp;exact c8) Ψ (fun p al _=>?_) (fun i p aw al _=>?_)
 ·rw[pw (da _)]at al;subst al;exact bZ
 ·obtain⟨t,aI⟩:∃b,l[i]? =some b:=⟨_,bO aw⟩;have E7:∀h,(l[i]'h)=t:=fun h=>by rw[bO aw]at aI;exact dZ aI
  have gS:p.length+1<=bA:=by rw[al];simp;unfold bA;omega
  have b2:aZ ((i:Int)+1):=by unfold aZ;omega
  obtain⟨x,rfl,ad⟩:=ba.fits_ex (aE t (eR aI));have JD:=agh x;rw[<-sM]at JD;simp[aw,E7];(with_reducible repeat' first|refine aA ?_|refine aX JD ?_|refine aY JD ?_|simp[aw,E7,gS,b2]);refine bP.rng (p++[x.tm]) aw (by rw[al,jw,aI];rfl) ?_;simp;exact⟨by simp[fresh,ai,ak,bc,ah,Pv.look,br],cb (by simp[fresh,ai,ak,bc,ah,Pv.look,br]),cc (by simp[fresh,ai,ak,b6,ah,Pv.look,br]),Ψ⟩
def vh(g:Gm)(i:Nat):List Gm->bb
 |[]=>⟨[(2,.ptr (.loc 1) 0),(3,.ptr (.loc 5) 0),(15,.slice 4 .no (g.gs.map Gm.e)),(16,.int .i64 g.gs.length),(17,.int .i64 i)],[(.loc 1,[.int .i64 0,.str [],.slice 4 .nil [],.slice 4 .nil []]),(.loc 5,[.int .i64 g.kind,.str g.name,.slice 4 .no (g.ts.map enc),.slice 4 .nil []])],[],32,[]⟩
 |x::xs=>⟨[(2,.ptr (.loc 1) 0),(3,.ptr (.loc 5) 0),(15,.slice 4 .no (g.gs.map Gm.e)),(16,.int .i64 g.gs.length),(17,.int .i64 i)],[(.loc 1,[.int .i64 0,.str [],.slice 4 .nil [],.slice 4 .nil []]),(.loc 5,[.int .i64 g.kind,.str g.name,.slice 4 .no (g.ts.map enc),.slice 4 (.own (.loc 59)) (x.e::xs.map Gm.e)])],[(.loc 59,⟨xs.length+1,65,4,none⟩)],63,[]⟩
theorem agf:∀(n:Nat) (g:Gm),g.sz<=n->g.shape=true->cg aP 220 [g.e] g.e:=by
 intro n;induction n with
 |zero=>intro g aO;have:=g.sz_pos;omega
 |succ n a8=>
 intro g aO dQ;have hlen:=u0 dQ;have ei:=agi g.ts (se dQ) Ω;have mU:∀x∈g.gs,cg aP 220 [x.e] x.e:=fun x ad=>a8 x (by have:=g.gs_lt ad;omega) (qd dQ x ad);clear a8;refine bJ jv XF adu fun aG=>?_;unfold MJ;clear aG;simp;(with_reducible repeat' first|refine aA ?_|refine aX ei ?_|refine aY ei ?_|simp);refine fM (fun i (_:Unit)=>vh g i (g.gs.take i)) g.gs.length (fun _ _=>True) () (by simp[vh];exact⟨by simp[fresh,ai,ak,bc,ah,Pv.look,br],cb (by simp[fresh,ai,ak,bc,ah,Pv.look,br]),cc (by simp[fresh,ai,ak,b6,ah,Pv.look,br]),Ψ⟩) trivial (fun _ _ _=>?_) (fun i _ aw _ _=>?_)
 ·rw[pw (da _)];generalize gu:g.gs=l;have he:g.e= .agg [.int .i64 g.kind,.str g.name,.slice 4 .no (g.ts.map enc),.slice 4 .no (l.map Gm.e)]:=by rw[Gm.e_eq,gu]
  rw[he];cases l with
  |nil=>simp[vh,gu];exact bZ
  |cons x xs=>simp[vh,gu];exact bZ
 ·obtain⟨x,ad⟩:∃b,g.gs[i]? =some b:=⟨_,bO aw⟩;have dn:∀h,(g.gs[i]'h)=x:=fun h=>by rw[bO aw]at ad;exact dZ ad
  have eM:=mU x (eR ad);have b2:aZ ((i:Int)+1):=by unfold aZ;omega
  have gS:(g.gs.take i).length+1<=bA:=by simp;unfold bA;omega
  have jG:g.gs.take (i+1)=g.gs.take i++[x]:=by rw[jw,ad];rfl
  clear mU;cases bq:g.gs.take i with
  |nil=>rw[bq]at jG gS;simp[vh,aw,dn];(with_reducible repeat' first|refine aA ?_|refine aX eM ?_|refine aY eM ?_|simp[aw,dn,b2,gS]);refine bP.rng () aw trivial ?_;rw[jG];simp[vh];exact⟨by simp[fresh,ai,ak,bc,ah,Pv.look,br,fX],cb (by simp[fresh,ai,ak,bc,ah,Pv.look,br,fX]),cc (by simp[fresh,ai,ak,b6,ah,Pv.look,br,fX]),Ψ⟩
  |cons y ys=>rw[bq]at jG gS;simp only[e3]at gS;simp[vh,aw,dn];(with_reducible repeat' first|refine aA ?_|refine aX eM ?_|refine aY eM ?_|simp[aw,dn,b2,gS]);refine bP.rng () aw trivial ?_;rw[jG];simp[vh];exact⟨by simp[fresh,ai,ak,bc,ah,Pv.look,br,fX],cb (by simp[fresh,ai,ak,bc,ah,Pv.look,br,fX]),cc (by simp[fresh,ai,ak,b6,ah,Pv.look,br,fX]),Ψ⟩
def iM(s:List aF):Nat->List (List aF)×Nat
 |0=>([],0)
 |i+1=>if s[i]? =some 10 then((iM s i).1++[(s.take i).drop (iM s i).2],i+1)else iM s i
theorem Rt(s:List aF):∀i,(iM s i).2<=i/\(iM s i).1.length<=i
 |0=>⟨da _,da _⟩
 |i+1=>by
  have:=Rt s i;unfold iM;split
  ·simp;omega
  ·omega
def xZ(s:List aF):List (List aF):=if(iM s s.length).2<s.length then(iM s s.length).1++[s.drop (iM s s.length).2]else(iM s s.length).1
theorem Rs(s:List aF):∀i,i<=s.length->(iM s i).1.length=(s.take i).count 10
 |0,_=>by simp[iM]
 |i+1,h=>by
  have a8:=Rs s i Ω;obtain⟨c,aD⟩:∃c,s[i]? =some c:=⟨_,bO Ω⟩;rw[jw,aD,List.count_append,<-a8];have eZ:iM s (i+1)=if s[i]? =some 10 then((iM s i).1++[(s.take i).drop (iM s i).2],i+1)else iM s i:=rfl
  rw[eZ,aD];by_cases e9:c=10
  ·subst e9;simp
  ·rw[bf (by simpa using e9)];simp[e9]
theorem acy{s t:List aF}(h:s=t++[10]):(xZ s).length=s.count 10:=by
 have aE:(iM s s.length).2=s.length:=by rw[h];simp only[dF,List.length_singleton];unfold iM;rw[bN Ψ]
 unfold xZ;rw[bf Ω,Rs s _ (da _),jl]
theorem agc(s:List aF)(ao:s.length<=10000000000):cg aP 35 [.str s] (.slice 1 .no (de (xZ s))):=by
 generalize bh:xZ s=R;refine bJ nO XC adr fun aG=>?_;unfold MG;clear aG;simp;refine gZ (fun i:Nat=>⟨[(0,.str s),(3,.slice 1 (.own (.loc 0)) (de (iM s i).1)),(4,.int .i64 (iM s i).2),(5,.int .i64 i)],[],[(.loc 0,⟨(iM s i).1.length,9,1,none⟩)],1,[]⟩) (fun i=>s.length-i) (fun i=>i<=s.length) 0 (by simp[de,iM];exact c8) Ω ?_;intro i aw _;obtain⟨I,J⟩:=Rt s i;rcases k1 aw with rfl|b7
 ·unfold xZ at bh;rcases ad:iM s s.length with⟨out,k⟩;rw[ad]at I J bh;simp only at I J bh⊢;have qL:out.length+1<=bA:=by unfold bA;omega
  by_cases aa:k<s.length
  ·rw[bN aa]at bh;subst bh;have nv:(k:Int)<=s.length:=Ω
   have fG:(k:Int)<s.length:=Ω
   simp;(with_reducible repeat' first|refine aA ?_|simp[aa,fG,nv,qL]);simp[b1,SK,bn,bp,bk];rw[show de out++[ag.str (List.drop k s)]=de (out++[List.drop k s]) by simp[de],afR]
  ·rw[bf aa]at bh;subst bh;have fG:¬(k:Int)<s.length:=Ω
   exact bZ
 ·obtain⟨c,aD,eX⟩:=gd b7;have b2:aZ ((i:Int)+1):=by unfold aZ;omega
  have ET:(i:Int)<s.length:=Ω
  have eZ:iM s (i+1)=if s[i]? =some 10 then((iM s i).1++[(s.take i).drop (iM s i).2],i+1)else iM s i:=rfl
  rw[aD]at eZ;clear bh;generalize ad:iM s i=x at*;obtain⟨out,k⟩:=x;simp only at I J eZ⊢;have qL:out.length+1<=bA:=by unfold bA;omega
  by_cases e9:c=10
  ·rw[bN (by rw[e9])]at eZ;subst e9;have nv:(k:Int)<=i:=Ω
   have ER:(i:Int)<=s.length:=Ω
   simp[b7,eX,aD];(with_reducible repeat' first|refine aA ?_|simp[b7,ET,eX,aD,b2,qL,nv,ER]);refine bP.whl (i+1) Ω Ω ?_;rw[eZ];simp[de];exact⟨by simp[fresh,ai,ak,bc,ah,Pv.look,br,eG],cb (by simp[fresh,ai,ak,bc,ah,Pv.look,br,eG]),cc (by simp[fresh,ai,ak,b6,ah,Pv.look,br,eG]),Ψ⟩
  ·rw[bf (by simpa using e9)]at eZ;have n10:((c.toNat:Int)==10)=false:=tz (d:=10) e9;simp[b7,eX,aD];(with_reducible repeat' first|refine aA ?_|simp[b7,ET,eX,aD,n10,b2]);refine bP.whl (i+1) Ω Ω ?_;rw[eZ];simp[de];exact⟨by simp[fresh,ai,ak,bc,ah,Pv.look,br,eG],cb (by simp[fresh,ai,ak,bc,ah,Pv.look,br,eG]),cc (by simp[fresh,ai,ak,b6,ah,Pv.look,br,eG]),Ψ⟩
def e5(is:List Ix)(es:List Ey):List ag:=match is with
 |[]=>[.slice 7 .nil [],.row 4 (.obj 883) es.length]
 |_::xs=>[.row 7 (.obj 882) (xs.length+1),.row 4 (.obj 883) es.length]
def dV(is:List Ix)(es:List Ey):List (aJ×dw):=match is with
 |[]=>[(.obj 883,⟨es.length,99,4,some (es.map Ey.e)⟩)]
 |x::xs=>[(.obj 883,⟨es.length,99,4,some (es.map Ey.e)⟩),(.obj 882,⟨xs.length+1,74,7,some (x.e::xs.map Ix.e)⟩)]
def bU(is:List Ix)(es:List Ey):dM:=⟨[(.obj 881,e5 is es)],dV is es⟩
theorem hZ(is:List Ix)(es:List Ey):fq (bU is es):=by
 unfold bU e5 dV;cases is with
 |nil=>exact fq.of ⟨by intro m;simp[Pv.look],by intro m;simp[Pv.look]⟩ (by simp[ai,ak,ah,Pv.look]) (by simp[ai,ak,ah,Pv.look])
 |cons x xs=>exact fq.of ⟨by intro m;simp[Pv.look],by intro m;simp[Pv.look]⟩ (by simp[ai,ak,ah,Pv.look]) (by simp[ai,ak,ah,Pv.look])
theorem bI.more{P:bW}{n:Nat}{args:List ag}{st:bb}{d:be Nat}{K:bb->Prop}{s:dM}{Q:ag->dM->Prop}(aM:bT P n args s Q)(ao:fq s)(af:∀k cs,Pv.look k s.b=some cs->Pv.look k st.b=some cs)(he:∀k o,Pv.look k s.e=some o->Pv.look k st.e=some o)
  (aa:ai (ah s) args) (h:∀r aC,Q r aC->((∀m,(Pv.look (.obj m) aC.b).isSome->(Pv.look (.obj m) s.b).isSome\/ .obj m∉st.o)/\(∀m,(Pv.look (.obj m) aC.e).isSome->(Pv.look (.obj m) s.e).isSome\/ .obj m∉st.o))/\K ⟨e6 d r st.t,bu s.b st.b++aC.b,bu s.e st.e++aC.e,st.n,st.o++fY aC⟩):bI P n args st d K:=
 .inl ⟨s,Q,fun k cs aD=>⟨af k cs aD,.inl (by simp[aD]),ao.kb k cs aD⟩,fun k o aj=>⟨he k o aj,.inr (by simp[aj]),ao.ke k o aj⟩,ao.obj,aa,aM,h⟩
theorem tU(is:List Ix)(es:List Ey)(y:Ix)(aE:is.length+1<=100000000):bT aP 169 [.ptr (.obj 881) 0,y.e] (bU is es) fun r aC=>r= .int .i64 is.length/\aC=bU (is++[y]) es:=by
 have ao:=hZ is es;have et:=hZ (is++[y]) es;have fW:is.length+1<=bA:=by unfold bA;omega
 have fh:aZ ((is.length:Int)+1-1):=by unfold aZ;omega
 cases is with
 |nil=>
  simp only[List.nil_append]at et⊢;simp only[bU,e5,dV]at ao et⊢;refine bT.mk mixed nO OF R7 Ψ ao.obj fun aG b5=>?_;unfold G9;clear aG b5;simp;((with_reducible repeat' first|refine aA ?_|simp[fW,fh]|((first|apply cu|apply cw|apply cv)<;>intro h<;>try simp at h))<;>(try exact cK));all_goals refine ck.new _ (.inl rfl) et (by simp[fB,ah,Pv.look]) aH aH ?_
  all_goals simp[cz,Kt,bn,bp,bk]
 |cons x xs=>
  simp only[iT]at et⊢;simp only[e3]at fW fh;simp only[bU,e5,dV,dF,e3,nj,nk,List.map_append,eQ,List.map_nil]at ao et⊢;refine bT.mk mixed nO OF R7 Ψ ao.obj fun aG b5=>?_;unfold G9;clear aG b5;simp;((with_reducible repeat' first|refine aA ?_|simp[fW,fh]|((first|apply cu|apply cw|apply cv)<;>intro h<;>try simp at h))<;>(try exact cK));refine⟨by simp only[e3]at aE;unfold aZ;omega,?_⟩;all_goals refine ck.new _ (.inl rfl) et (by simp[fB,ah,Pv.look]) aH aH ?_
  all_goals simp[cz,Kt,bn,bp,bk]
end
end Go.Proofs.YtlnndmgfngfeiaaGreatDoor
namespace Go.Pv
section
open Go Go.Lib
def iN(en:Int):List Gm->Nat->Nat->List Ix
 |[],_,_=>[]
 |x::xs,k,p=>(⟨1,((p+db x+2:Nat):Int),k,dN⟩::(fj x (p+1)++[⟨3,en,0,dN⟩]))++iN en xs (k+1) (p+db x+2)
def fQ:List Gm->Nat
 |[]=>0
 |x::xs=>db x+2+fQ xs
theorem Ss(en:Int):∀(l:List Gm) (k p:Nat),(iN en l k p).length=fQ l
 |[],_,_=>rfl
 |x::xs,k,p=>by simp[iN,fQ,j2,Ss en xs];omega
def lT:List Gm->Nat->List Nat
 |[],_=>[]
 |x::xs,p=>(p+db x+1)::lT xs (p+db x+2)
theorem Jy:∀(l:List Gm) (p:Nat),(lT l p).length=l.length
 |[],_=>rfl
 |x::xs,p=>by simp[lT,Jy xs]
theorem St(en:Int)(x:Gm):∀(l:List Gm) (k p:Nat),iN en (l++[x]) k p=iN en l k p++(⟨1,((p+fQ l+db x+2:Nat):Int),((k+l.length:Nat):Int),dN⟩::(fj x (p+fQ l+1)++[⟨3,en,0,dN⟩]))
 |[],k,p=>by simp[iN,fQ]
 |y::l,k,p=>by simp only[iT,iN,St en x l,fQ,e3,l2];rw[show k+1+l.length=k+(l.length+1) by omega,show p+db y+2+fQ l=p+(db y+2+fQ l) by omega]
theorem QS(x:Gm):∀(l:List Gm) (p:Nat),lT (l++[x]) p=lT l p++[p+fQ l+db x+1]
 |[],p=>by simp[lT,fQ]
 |y::l,p=>by simp only[iT,lT,QS x l,fQ];rw[show p+db y+2+fQ l=p+(db y+2+fQ l) by omega]
theorem Rn(x:Gm):∀l:List Gm,fQ (l++[x])=fQ l+db x+2
 |[]=>by simp[fQ]
 |y::l=>by simp only[iT,fQ,Rn x l];omega
theorem Mx(en:Nat)(x:Gm):∀(l:List Gm) (k p:Nat),nW (l++[x]) k p en=iN en l k p++(⟨2,0,((k+l.length:Nat):Int),dN⟩::fj x (p+fQ l+1))
 |[],k,p=>by simp[nW,iN,fQ]
 |y::l,k,p=>by
  have cE:(l++[x]).isEmpty=false:=by cases l<;>rfl
  simp only[iT,nW,cE,iR,if_false,iN,Mx en x l,fQ,e3,l2];rw[show k+1+l.length=k+(l.length+1) by omega,show p+db y+2+fQ l=p+(db y+2+fQ l) by omega]
theorem NV(x:Gm):∀l:List Gm,iJ (l++[x])=fQ l+1+db x
 |[]=>by simp[iJ,fQ]
 |y::l=>by
  have cE:(l++[x]).isEmpty=false:=by cases l<;>rfl
  simp only[iT,iJ,cE,iR,if_false,NV x l,fQ];omega
def l0(en:Int)(L:List Ix)(j:Nat):List Ix:=match L[j]? with
 |some x=>L.set j {x with a:=en}
 |none=>L
theorem TD(en:Int)(X:List Ix)(y:Ix)(Y:List Ix):l0 en (X++y::Y) X.length=X++{y with a:=en}::Y:=by unfold l0;rw[rb (da _),Nat.sub_self];simp
theorem Gr(en:Int)(L:List Ix)(j:Nat):(l0 en L j).length=L.length:=by unfold l0;split<;>simp
theorem TH(en:Int):∀(fe:List Nat) (L:List Ix),(fe.foldl (l0 en) L).length=L.length
 |[],_=>rfl
 |j::fe,L=>by rw[List.foldl_cons,TH en fe,Gr]
theorem TG(en:Int):∀(l:List Gm) (k p:Nat) (A B:List Ix),A.length=p->(lT l p).foldl (l0 en) (A++iN 0 l k p++B)=A++iN en l k p++B
 |[],k,p,A,B,_=>rfl
 |x::l,k,p,A,B,h=>by
  simp only[lT,List.foldl_cons,iN];have aq:A++((⟨1,((p+db x+2:Nat):Int),k,dN⟩::(fj x (p+1)++[⟨3,0,0,dN⟩]))++iN 0 l (k+1) (p+db x+2))++B=(A++(⟨1,((p+db x+2:Nat):Int),k,dN⟩::fj x (p+1)))++⟨3,0,0,dN⟩::(iN 0 l (k+1) (p+db x+2)++B):=by simp
  have aU:p+db x+1=(A++((⟨1,((p+db x+2:Nat):Int),k,dN⟩:Ix)::fj x (p+1))).length:=by simp[h,j2];omega
  rw[aq];have bR:=TD en (A++(⟨1,((p+db x+2:Nat):Int),k,dN⟩::fj x (p+1))) ⟨3,0,0,dN⟩ (iN 0 l (k+1) (p+db x+2)++B);rw[<-aU]at bR;rw[bR];have ds:=TG en l (k+1) (p+db x+2) (A++(⟨1,((p+db x+2:Nat):Int),k,dN⟩::(fj x (p+1)++[⟨3,en,0,dN⟩]))) B (by simp[h,j2];omega);rw[show(A++(⟨1,((p+db x+2:Nat):Int),k,dN⟩::fj x (p+1)))++{(⟨3,0,0,dN⟩:Ix)with a:=en}::(iN 0 l (k+1) (p+db x+2)++B)=A++(⟨1,((p+db x+2:Nat):Int),k,dN⟩::(fj x (p+1)++[⟨3,en,0,dN⟩]))++iN 0 l (k+1) (p+db x+2)++B by simp,ds];simp
theorem Mw(x:Gm):∀(l:List Gm) (p:Nat),kK (l++[x]) p=kK l p++fj x (p+jQ l)
 |[],p=>by simp[kK,jQ]
 |y::l,p=>by simp only[iT,kK,Mw x l,jQ,l2];rw[show p+db y+jQ l=p+(db y+jQ l) by omega]
theorem NU(x:Gm):∀l:List Gm,jQ (l++[x])=jQ l+db x
 |[]=>by simp[jQ]
 |y::l=>by simp only[iT,jQ,NU x l];omega
theorem JK:∀(l:List Gm) (i:Nat),fQ (l.take i)<=fQ l
 |[],i=>by simp[fQ]
 |x::l,0=>by simp[fQ]
 |x::l,i+1=>by have:=JK l i;simp only[pz,fQ];omega
theorem NT:∀(l:List Gm) (i:Nat),jQ (l.take i)<=jQ l
 |[],i=>by simp[jQ]
 |x::l,0=>by simp[jQ]
 |x::l,i+1=>by have:=NT l i;simp only[pz,jQ];omega
end
end Go.Pv
namespace Go.Proofs.YtlnndmgfngfeiaaGreatDoor
section
open Go Go.Pv
def nJ(is:List Ix):List aJ:=match is with
 |[]=>[.obj 881,.obj 883]
 |_::_=>[.obj 881,.obj 883,.obj 882]
@[simp]theorem akf(m:Nat)(is:List Ix):(aJ.loc m∈nJ is)=dK:=by cases is<;>simp[nJ]
theorem wh{is:List Ix}:aJ.obj 882∈nJ is->is≠[]:=by cases is<;>simp[nJ]
theorem kC(is:List Ix)(es:List Ey):fY (bU is es)=nJ is:=by cases is<;>rfl
theorem o8{is nE:List Ix}{es:List Ey}{o:List aJ}:∀m,(Pv.look (.obj m) (bU nE es).b).isSome->(Pv.look (.obj m) (bU is es).b).isSome\/ .obj m∉o:=fun m h=>by
 left;simp only[bU,Pv.look]at h⊢;split at h
 ·rename_i e;rw[bN e];rfl
 ·cases h
theorem oi{is nE:List Ix}{es:List Ey}{o:List aJ}(aj: .obj 882∈o->is≠[]):∀m,(Pv.look (.obj m) (bU nE es).e).isSome->(Pv.look (.obj m) (bU is es).e).isSome\/ .obj m∉o:=fun m h=>by
 cases nE with
 |nil=>left;cases is<;>simp only[bU,dV,Pv.look]at h⊢ <;>(split at h;(rename_i e;rw[bN e];rfl);cases h)
 |cons y ys=>
  cases is with
  |cons x xs=>
   left;simp only[bU,dV,Pv.look]at h⊢;split at h
   ·rename_i e;rw[bN e];rfl
   ·rename_i e;rw[bf e];split at h
    ·rename_i e;rw[bN e];rfl
    ·cases h
  |nil=>
   by_cases hm:m=883
   ·left;subst hm;simp[bU,dV,Pv.look]
   ·by_cases zv:m=882
    ·subst zv;right;intro J;exact aj J rfl
    ·simp[bU,dV,Pv.look,Ne.symm hm,Ne.symm zv]at h
theorem JC(is:List Ix)(es:List Ey)(m:Nat):Pv.look (.loc m) (dV is es)=none:=by cases is<;>simp[dV,Pv.look]
theorem wR{is nE:List Ix}{es:List Ey}(h:is≠[]->nE≠[]):fB (bU nE es) (bU is es).b/\fB (bU nE es) (bU is es).e:=by
 cases is with
 |nil=>cases nE<;>simp[bU,e5,dV,fB,ah,Pv.look]
 |cons x xs=>
  cases nE with
  |nil=>exact absurd rfl (h Ψ)
  |cons y ys=>simp[bU,e5,dV,fB,ah,Pv.look]
theorem Y6(g:Gm)(dQ:g.shape=true)(is:List Ix)(es:List Ey)(aE:is.length+db g<=100000000)(dD:g.kind≠7)(fa:g.kind≠8):bT aP 168 [.ptr (.obj 881) 0,g.e] (bU is es) fun r aC=>r= .tuple []/\aC=bU (is++fj g is.length) es:=by
 have ao:=hZ is es;have Fq:=agf g.sz g (da _) dQ;rw[DJ,bf dD,bf fa]at aE;rw[Dz,bf dD,bf fa];have oO:(g.kind==7)=false:=jL.2 dD;have wY:(g.kind==8)=false:=jL.2 fa;by_cases gN:g.kind=0
 ·rw[bN gN,List.append_nil];have qu:(g.kind==0)=true:=by simpa using gN
  refine bT.mk mixed nO xg x9 Ψ ao.obj fun aG b5=>?_;unfold vo;clear aG b5;rw[kC];unfold bU;simp;(with_reducible repeat' first|refine aA ?_|simp[qu]);refine ck.new (bU is es) (.inr rfl) (hZ _ _) (wR (fun h=>h)) (by unfold bU;exact aH) (fun _ _ h=>h) ?_;simp[cz,wx,bn,bp,bk,bU]
 rw[bf gN]at aE⊢;have qu:(g.kind==0)=false:=by simpa using gN
 by_cases dh:g.kind=1
 ·rw[bN dh];have bQ:(g.kind==1)=true:=by simpa using dh
  have c1:=tU is es ⟨4,0,0,dN⟩ Ω;refine bT.mk mixed nO xg x9 Ψ ao.obj fun aG b5=>?_;unfold vo;clear aG b5;rw[kC];unfold bU;simp;(with_reducible repeat' first|refine aA ?_|simp[qu,bQ]);refine bI.more (c1) (hZ _ _) (by unfold bU;exact aH) (fun _ _ h=>h) (by simp[ah,bU,Pv.look]) ?_;rintro r aC ⟨rfl,rfl⟩;refine⟨⟨o8,oi wh⟩,?_⟩;rw[kC];unfold bU;simp[bu,nh];(with_reducible repeat' first|refine aA ?_|simp);refine ck.new (bU (is++[(⟨4,0,0,dN⟩:Ix)]) es) (.inr rfl) (hZ _ _) (wR (fun _=>by simp)) (by unfold bU;exact aH) (fun _ _ h=>h) ?_;simp[cz,wx,bn,bp,bk,bU]
 rw[bf dh];have bQ:(g.kind==1)=false:=by simpa using dh
 have o1:is.length+1<=100000000:=by revert aE;(repeat' split)<;>(intro h;omega)
 by_cases tb:g.kind=9
 ·rw[bN tb];have sG:(g.kind==9)=true:=by simpa using tb
  have c1:=tU is es ⟨5,0,0,g⟩ o1;refine bT.mk mixed nO xg x9 Ψ ao.obj fun aG b5=>?_;unfold vo;clear aG b5;rw[kC];unfold bU;simp;(with_reducible repeat' first|refine aA ?_|refine aX Fq ?_|refine aY Fq ?_|simp[qu,bQ,sG]);refine bI.more (c1) (hZ _ _) (by unfold bU;exact aH) (fun _ _ h=>h) (by simp[ah,bU,Pv.look]) ?_;rintro r aC ⟨rfl,rfl⟩;refine⟨⟨o8,oi wh⟩,?_⟩;rw[kC];unfold bU;simp[bu,nh];(with_reducible repeat' first|refine aA ?_|simp);refine ck.new (bU (is++[(⟨5,0,0,g⟩:Ix)]) es) (.inr rfl) (hZ _ _) (wR (fun _=>by simp)) (by unfold bU;exact aH) (fun _ _ h=>h) ?_;simp[cz,wx,bn,bp,bk,bU]
 rw[bf tb];have sG:(g.kind==9)=false:=by simpa using tb
 have c1:=tU is es ⟨0,0,0,g⟩ o1;refine bT.mk mixed nO xg x9 Ψ ao.obj fun aG b5=>?_;unfold vo;clear aG b5;rw[kC];unfold bU;simp;(with_reducible repeat' first|refine aA ?_|refine aX Fq ?_|refine aY Fq ?_|simp[qu,bQ,sG,oO,wY]);refine bI.more (c1) (hZ _ _) (by unfold bU;exact aH) (fun _ _ h=>h) (by simp[ah,bU,Pv.look]) ?_;rintro r aC ⟨rfl,rfl⟩;refine⟨⟨o8,oi wh⟩,?_⟩;rw[kC];unfold bU;simp[bu,nh];(with_reducible repeat' first|refine aA ?_|simp);refine ck.new (bU (is++[(⟨0,0,0,g⟩:Ix)]) es) (.inr rfl) (hZ _ _) (wR (fun _=>by simp)) (by unfold bU;exact aH) (fun _ _ h=>h) ?_;simp[cz,wx,bn,bp,bk,bU]
def Dj(g:Gm):Prop:= ∀(is:List Ix) (es:List Ey),is.length+db g<=100000000->bT aP 168 [.ptr (.obj 881) 0,g.e] (bU is es) fun r aC=>r= .tuple []/\aC=bU (is++fj g is.length) es
def Dn(gs:List Gm)(i:Nat)(cur:List Ix)(es:List Ey):bb:=⟨[(0,.ptr (.obj 881) 0),(37,.slice 4 .no (gs.map Gm.e)),(38,.int .i64 gs.length),(39,.int .i64 i)],[(.obj 881,e5 cur es)],dV cur es,1,nJ cur⟩
theorem Y5(g:Gm)(dQ:g.shape=true)(is:List Ix)(es:List Ey)(aE:is.length+db g<=100000000)(dD:g.kind=7)(a8:∀x∈g.gs,Dj x):bT aP 168 [.ptr (.obj 881) 0,g.e] (bU is es) fun r aC=>r= .tuple []/\aC=bU (is++fj g is.length) es:=by
 have ao:=hZ is es;rw[DJ,bf Ω,bN dD]at aE;rw[Dz,bf Ω,bf Ω,bf Ω,bN dD];have qu:(g.kind==0)=false:=by simp[dD]
 have bQ:(g.kind==1)=false:=by simp[dD]
 have sG:(g.kind==9)=false:=by simp[dD]
 have oO:(g.kind==7)=true:=by simp[dD]
 have EI:=(u0 dQ).1;refine bT.mk mixed nO xg x9 Ψ ao.obj fun aG b5=>?_;unfold vo;clear aG b5;rw[kC];unfold bU;simp;(with_reducible repeat' first|refine aA ?_|simp[qu,bQ,sG,oO]);refine gZ (fun i:Nat=>Dn g.gs i (is++kK (g.gs.take i) is.length) es) (fun i=>g.gs.length-i) (fun i=>i<=g.gs.length) 0 ?_ Ω ?_
 ·cases is<;>simp[Dn,kK,e5,dV,nJ]<;>exact⟨by simp[fresh,ai,ak,bc,ah,Pv.look,br],cb (by simp[fresh,ai,ak,bc,ah,Pv.look,br]),cc (by simp[fresh,ai,ak,b6,ah,Pv.look,br]),Ψ⟩
 intro i aw _;by_cases b7:i<g.gs.length;rotate_left
 ·obtain rfl:i=g.gs.length:=Ω
  rw[jl];simp[Dn];(with_reducible repeat' first|refine aA ?_|simp);refine ck.new (bU (is++kK g.gs is.length) es) (.inr rfl) (hZ _ _) (wR (fun h=>by simp[h])) (by unfold bU;exact aH) (fun _ _ h=>h) ?_;simp[cz,wx,bn,bp,bk,bU]
 obtain⟨x,ad⟩:∃b,g.gs[i]? =some b:=⟨_,bO b7⟩;have dn:∀h,(g.gs[i]'h)=x:=fun h=>by rw[bO h]at ad;exact dZ ad
 have b2:aZ ((i:Int)+1):=by unfold aZ;omega
 have ET:(i:Int)<g.gs.length:=Ω
 have jG:g.gs.take (i+1)=g.gs.take i++[x]:=by rw[jw,ad];rfl
 have hle:=NT g.gs (i+1);rw[jG,NU]at hle;have qK:is++kK (g.gs.take (i+1)) is.length=(is++kK (g.gs.take i) is.length)++fj x (is++kK (g.gs.take i) is.length).length:=by rw[jG,Mw,dF,Dy,l2]
 have eM:=a8 x (eR ad) (is++kK (g.gs.take i) is.length) es (by rw[dF,Dy];omega);have xy:is≠[]->is++kK (g.gs.take i) is.length≠[]:=fun h=>by simp[h]
 generalize is++kK (g.gs.take i) is.length=cur at*;simp[Dn];(with_reducible repeat' first|refine aA ?_|simp[b7,ET,dn,b2]);refine bI.more (eM) (hZ _ _) (by unfold bU;exact aH) (fun _ _ h=>h) (by simp[ah,bU,Pv.look]) ?_;rintro r aC ⟨rfl,rfl⟩;refine⟨⟨o8,oi wh⟩,?_⟩;rw[kC];unfold bU;simp[bu,nh];(with_reducible repeat' first|refine aA ?_|simp[b2]);refine bP.whl (i+1) Ω Ω ?_;rw[qK];have vR:is≠[]->cur++fj x cur.length≠[]:=fun h=>by simp[xy h]
 generalize cur++fj x cur.length=nxt at vR⊢;rcases nxt with _|⟨y,ys⟩
 ·rcases is with _|⟨a,ahp⟩
  ·simp[e5,dV,nJ];exact⟨by simp[fresh,ai,ak,bc,ah,Pv.look,br],cb (by simp[fresh,ai,ak,bc,ah,Pv.look,br]),cc (by simp[fresh,ai,ak,b6,ah,Pv.look,br]),Ψ⟩
  ·exact absurd rfl (vR Ψ)
 ·cases is<;>simp[e5,dV,nJ]<;>exact⟨by simp[fresh,ai,ak,bc,ah,Pv.look,br],cb (by simp[fresh,ai,ak,bc,ah,Pv.look,br]),cc (by simp[fresh,ai,ak,b6,ah,Pv.look,br]),Ψ⟩
@[simp]theorem ajt(m:Nat)(o:dw)(is:List Ix)(es:List Ey):cR (.loc m) o (dV is es)=dV is es++[(.loc m,o)]:=by cases is<;>simp[dV,cR]
@[simp]theorem ajs(is:List Ix)(es:List Ey)(m:Nat):Pv.look (.loc m) (dV is es)=none:=JC is es m
theorem vK(is:List Ix)(es:List Ey)(r:dw):∀k o,Pv.look k (bU is es).e=some o->Pv.look k ((.loc 1,r)::dV is es)=some o:=fun k o h=>by
 cases k with
 |loc m=>rw[show(bU is es).e=dV is es from rfl,JC]at h;cases h
 |obj m=>simpa[Pv.look,bU]using h
theorem De(is:List Ix)(es:List Ey)(r:dw):bu (dV is es) ((.loc 1,r)::dV is es)=[(.loc 1,r)]:=by cases is<;>simp[dV,bu,Pv.look]
theorem pW{is:List Ix}(h:is≠[])(es:List Ey):e5 is es=[.row 7 (.obj 882) is.length,.row 4 (.obj 883) es.length]:=by
 cases is with
 |nil=>exact absurd rfl h
 |cons x xs=>rfl
theorem nG{is:List Ix}(h:is≠[])(es:List Ey):dV is es=[(.obj 883,⟨es.length,99,4,some (es.map Ey.e)⟩),(.obj 882,⟨is.length,74,7,some (is.map Ix.e)⟩)]:=by
 cases is with
 |nil=>exact absurd rfl h
 |cons x xs=>rfl
theorem Cy{is:List Ix}(h:is≠[]):nJ is=[.obj 881,.obj 883,.obj 882]:=by
 cases is with
 |nil=>exact absurd rfl h
 |cons x xs=>rfl
theorem xX(S:aJ->Prop)(Q:List Ix)(k:Nat)(x:ag):ai S ((Q.map Ix.e).set k x)=(k<Q.length->ak S x):=by
 apply propext;induction Q generalizing k with
 |nil=>simp[ai]
 |cons y Q a8=>
  cases k with
  |zero=>simp[ai]
  |succ k=>simp only[eQ,List.set_cons_succ,ai,Rj,true_and,a8,e3,Nat.add_lt_add_iff_right]
theorem TE{L:List Ix}{i:Nat}{y:Ix}(h:L[i]? =some y)(en:Int):(l0 en L i).map Ix.e=(L.map Ix.e).set i (.agg [.int .i64 y.op,.int .i64 en,.int .i64 y.b,.int .i64 y.g.kind,.str y.g.name,.slice 4 .no (y.g.ts.map enc),.slice 4 .no (y.g.gs.map Gm.e)]):=by unfold l0;rw[h];simp only;rw[List.map_set];rfl
theorem TF{L:List Ix}(h:L≠[])(en:Int)(i:Nat):l0 en L i≠[]:=fun e=>h (l3 (by rw[<-Gr en L i,e];rfl))
theorem ab4{l:List Gm}:∀{p j:Nat},j∈lT l p->j<p+fQ l:=by
 induction l with
 |nil=>intro p j h;simp[lT]at h
 |cons x l a8=>
  intro p j h;simp only[lT,gH]at h;simp only[fQ];rcases h with rfl|h
  ·omega
  ·have:=a8 h;omega
def qR(fe:List Nat):List ag:=fe.map fun j:Nat=>ag.int .i64 (j:Int)
@[simp]theorem ace(S:aJ->Prop):∀fe,ai S (qR fe)=True
 |[]=>eq_true trivial
 |j::fe=>by have:=ace S fe;simp only[qR,eQ,ai,ak,true_and]at this⊢;exact this
@[simp]theorem aka(fe:List Nat):(qR fe).length=fe.length:=by simp[qR]
theorem acX(fe:List Nat)(j:Nat):qR (fe++[j])=qR fe++[.int .i64 (j:Int)]:=by simp[qR]
theorem acY{fe:List Nat}{i j:Nat}(h:fe[i]? =some j):∀cr,(qR fe)[i]'cr= .int .i64 (j:Int):=fun cr=>by simp only[qR,List.getElem_map];rw[bO (by simpa using cr)]at h;rw[dZ h]
def Dq(gs:List Gm)(n:Nat)(k:Nat)(cur:List Ix)(es:List Ey)(fe:List Nat):bb:=⟨[(0,.ptr (.obj 881) 0),(6,.int .i64 n),(7,.slice 1 (.own (.loc 1)) (qR fe)),(60,.slice 4 .no (gs.map Gm.e)),(61,.int .i64 gs.length),(62,.int .i64 k)],[(.obj 881,e5 cur es)],(.loc 1,⟨fe.length,3,1,none⟩)::dV cur es,2,nJ cur⟩
def Dp(i:Nat)(cur:List Ix)(es:List Ey)(fe:List Nat):bb:=⟨[(0,.ptr (.obj 881) 0),(105,.slice 1 (.own (.loc 1)) (qR fe)),(106,.int .i64 fe.length),(107,.int .i64 i)],[(.obj 881,e5 cur es)],(.loc 1,⟨fe.length,3,1,none⟩)::dV cur es,2,nJ cur⟩
theorem Y7(g:Gm)(dQ:g.shape=true)(is:List Ix)(es:List Ey)(aE:is.length+db g<=100000000)(fa:g.kind=8)(a8:∀x∈g.gs,Dj x):bT aP 168 [.ptr (.obj 881) 0,g.e] (bU is es) fun r aC=>r= .tuple []/\aC=bU (is++fj g is.length) es:=by
 have ao:=hZ is es;rw[DJ,bf Ω,bf Ω,bN fa]at aE;rw[Dz,bf Ω,bf Ω,bf Ω,bf Ω,bN fa];have qu:(g.kind==0)=false:=by simp[fa]
 have bQ:(g.kind==1)=false:=by simp[fa]
 have sG:(g.kind==9)=false:=by simp[fa]
 have oO:(g.kind==7)=false:=by simp[fa]
 have wY:(g.kind==8)=true:=by simp[fa]
 have EI:=(u0 dQ).1;rcases List.eq_nil_or_concat g.gs with gu|⟨l,y,gu⟩
 ·rw[gu]at aE⊢;simp only[List.isEmpty_nil,if_true]at aE⊢;have c1:=tU is es ⟨4,0,0,dN⟩ aE;refine bT.mk mixed nO xg x9 Ψ ao.obj fun aG b5=>?_;unfold vo;clear aG b5;rw[kC];unfold bU;simp;(with_reducible repeat' first|refine aA ?_|simp[qu,bQ,sG,oO,wY,gu]);refine bI.more (c1) (hZ _ _) (by unfold bU;exact aH) (fun _ _ h=>h) (by simp[ah,bU,Pv.look]) ?_;rintro r aC ⟨rfl,rfl⟩;refine⟨⟨o8,oi wh⟩,?_⟩;rw[kC];unfold bU;simp[bu,nh];(with_reducible repeat' first|refine aA ?_|simp);refine ck.new (bU (is++[(⟨4,0,0,dN⟩:Ix)]) es) (.inl rfl) (hZ _ _) (wR (fun _=>by simp)) (by unfold bU;exact aH) (fun _ _ h=>h) ?_;simp[cz,wx,bn,bp,bk,bU]
 rw[List.concat_eq_append]at gu;have aai:g.gs.isEmpty=false:=by rw[gu];cases l<;>rfl
 rw[aai]at aE⊢;simp only[iR,if_false]at aE⊢;have Ez:iJ g.gs=fQ l+1+db y:=by rw[gu,NV]
 have ZW:nW g.gs 0 is.length (is.length+iJ g.gs)=iN ((is.length+iJ g.gs:Nat):Int) l 0 is.length++(⟨2,0,((0+l.length:Nat):Int),dN⟩::fj y (is.length+fQ l+1)):=by rw[gu,Mx]
 rw[ZW];have zr:g.gs.length=l.length+1:=by rw[gu];simp
 have o2:aZ ((l.length:Int)+1-1):=by unfold aZ;omega
 have mo:¬((l.length:Int)<0):=Ω
 refine bT.mk mixed nO xg x9 Ψ ao.obj fun aG b5=>?_;unfold vo;clear aG b5;rw[kC];unfold bU;simp;(with_reducible repeat' first|refine aA ?_|simp[qu,bQ,sG,oO,wY,zr,o2,mo]);refine gZ (fun k:Nat=>Dq g.gs l.length k (is++iN 0 (l.take k) 0 is.length) es (lT (l.take k) is.length)) (fun k=>l.length+1-k) (fun k=>k<=l.length) 0 ?_ Ω ?_
 ·rw[show([]:List ag)=qR []from rfl];cases is<;>simp[Dq,iN,lT,e5,dV,nJ,zr]<;>exact⟨by simp[fresh,ai,ak,bc,ah,Pv.look,br],cb (by simp[fresh,ai,ak,bc,ah,Pv.look,br]),cc (by simp[fresh,ai,ak,b6,ah,Pv.look,br]),Ψ⟩
 intro k aa _;have j7:k<g.gs.length:=Ω
 have EO:(k:Int)<l.length+1:=Ω
 obtain⟨x,ad⟩:∃b,g.gs[k]? =some b:=⟨_,bO j7⟩;have dn:∀h,(g.gs[k]'h)=x:=fun h=>by rw[bO h]at ad;exact dZ ad
 have hL:aZ ((k:Int)+1):=by unfold aZ;omega
 have aiW:=JK l k;have mi:(is++iN 0 (l.take k) 0 is.length).length=is.length+fQ (l.take k):=by rw[dF,Ss]
 rcases k1 aa with rfl|b7
 ·have j8:((l.length:Int)==l.length)=true:=by simp
  obtain rfl:x=y:=by rw[gu]at ad;simp at ad;exact ad.symm
  rw[jl]at mi⊢;rw[Ez]at aE;obtain⟨cur,qF⟩:∃c,c=is++iN 0 l 0 is.length:=⟨_,rfl⟩;rw[<-qF]at mi⊢;obtain⟨cJ,hI⟩:∃c,c=cur++[(⟨2,0,l.length,dN⟩:Ix)]:=⟨_,rfl⟩;have Bu:cJ.length=cur.length+1:=by rw[hI];simp
  have Bv:cJ≠[]:=by rw[hI];simp
  obtain⟨c2,fV⟩:∃c,c=cJ++fj x cJ.length:=⟨_,rfl⟩;have zo:c2≠[]:=by rw[fV];simp[Bv]
  have Ew:c2.length=is.length+iJ g.gs:=by rw[fV,dF,j2,Bu,mi,Ez];omega
  have c1:=tU cur es ⟨2,0,l.length,dN⟩ Ω;have Q8:=a8 x (eR ad) cJ es Ω;rw[<-hI]at c1;rw[<-fV]at Q8;simp[Dq];(with_reducible repeat' first|refine aA ?_|simp[j7,EO,dn,j8,zr]);refine bI.more (c1) (hZ _ _) (by unfold bU;exact aH) (vK _ _ _) (by simp[ah,bU,Pv.look]) ?_;rintro r aC ⟨rfl,rfl⟩;refine⟨⟨o8,oi wh⟩,?_⟩;rw[kC];unfold bU;simp[bu,De,nh];(with_reducible repeat' first|refine aA ?_|simp);refine bI.more (Q8) (hZ _ _) (by unfold bU;exact aH) (vK _ _ _) (by simp[ah,bU,Pv.look]) ?_;rintro r aC ⟨rfl,rfl⟩;refine⟨⟨o8,oi (fun _=>Bv)⟩,?_⟩;rw[kC];unfold bU;simp[bu,De,nh];(with_reducible repeat' first|refine aA ?_|simp);obtain⟨fe,um⟩:∃fe,fe=lT l is.length:=⟨_,rfl⟩;have eS:fe.length=l.length:=by rw[um,Jy]
  rw[<-um];obtain⟨en,ml⟩:∃en:Nat,en=is.length+iJ g.gs:=⟨_,rfl⟩;refine gZ (fun i:Nat=>Dp i ((fe.take i).foldl (l0 (en:Int)) c2) es fe) (fun i=>fe.length-i) (fun i=>i<=fe.length) 0 ?_ Ω ?_
  ·simp[Dp,pW zo,nG zo,Cy zo];cases is<;>simp only[nJ]<;>exact⟨by simp[fresh,ai,ak,bc,ah,Pv.look,br],cb (by simp[fresh,ai,ak,bc,ah,Pv.look,br]),cc (by simp[fresh,ai,ak,b6,ah,Pv.look,br]),Ψ⟩
  intro i aw _;have Er:=TH (en:Int) (fe.take i) c2;have ua:(fe.take i).foldl (l0 (en:Int)) c2≠[]:=fun e=>zo (l3 (by rw[<-Er,e];rfl));by_cases rP:i<fe.length;rotate_left
  ·obtain rfl:i=fe.length:=Ω
   have hK:(fe.take fe.length).foldl (l0 (en:Int)) c2=is++(iN ((is.length:Int)+iJ g.gs) l 0 is.length++(⟨2,0,(l.length:Int),dN⟩::fj x (is.length+fQ l+1))):=by have:=TG (en:Int) l 0 is.length is (⟨2,0,(l.length:Int),dN⟩::fj x (is.length+fQ l+1)) rfl;rw[jl,um,fV,Bu,hI,mi,qF];rw[ml]at this⊢;push_cast at this⊢;simpa[l2]using this
   generalize (fe.take fe.length).foldl (l0 (en:Int)) c2=L at hK ua⊢;simp[Dp];(with_reducible repeat' first|refine aA ?_|simp);rw[<-hK];refine ck.new (bU L es) (.inr rfl) (hZ _ _) (wR (fun _=>ua)) (by unfold bU;exact aH) (vK _ _ _) ?_;simp[cz,wx,bn,bp,bk,bU]
  obtain⟨j,al⟩:∃j,fe[i]? =some j:=⟨_,bO rP⟩;have aaC:=acY al;have lP:j<c2.length:=by have:=eR al;rw[um]at this;have:=ab4 this;rw[Ew,Ez];omega
  have qK:(fe.take (i+1)).foldl (l0 (en:Int)) c2=l0 (en:Int) ((fe.take i).foldl (l0 (en:Int)) c2) j:=by rw[jw,al,List.foldl_append];rfl
  have b2:aZ ((i:Int)+1):=by unfold aZ;omega
  have aaz:(i:Int)<fe.length:=Ω
  generalize (fe.take i).foldl (l0 (en:Int)) c2=L at Er ua qK⊢;rw[<-Er]at lP;obtain⟨q9,ur⟩:∃q9,L[j]? =some q9:=⟨_,bO lP⟩;have aaE:(j:Int)<L.length:=Ω
  have aaj:en=L.length:=Ω
  subst aaj;have Jp:∀h,(L[j]'h).e= .agg [.int .i64 q9.op,.int .i64 q9.a,.int .i64 q9.b,.int .i64 q9.g.kind,.str q9.g.name,.slice 4 .no (q9.g.ts.map enc),.slice 4 .no (q9.g.gs.map Gm.e)]:=fun h=>by rw[bO h]at ur;rw[dZ ur];rfl
  have xM:=TF ua (L.length:Int) j;simp[Dp,pW ua,nG ua,Cy ua];(with_reducible repeat' first|refine aA ?_|simp[rP,aaz,aaC,b2,ur,lP,aaE,Jp,-GU]);refine bP.whl (i+1) Ω Ω ?_;rw[qK];simp[pW xM,nG xM,Cy xM,TE ur,Gr];cases is<;>simp only[nJ]<;>exact⟨by simp[fresh,ai,ak,bc,ah,Pv.look,br,xX],cb (by simp[fresh,ai,ak,bc,ah,Pv.look,br,xX]),cc (by simp[fresh,ai,ak,b6,ah,Pv.look,br,xX]),Ψ⟩
 ·have j8:((k:Int)==l.length)=false:=by simp;omega
  have mu:l[k]? =some x:=by rw[gu,mF b7]at ad;exact ad
  have jG:l.take (k+1)=l.take k++[x]:=by rw[jw,mu];rfl
  have aaR:=JK l (k+1);rw[jG,Rn]at aaR;rw[Ez]at aE;have BS:is++iN 0 (l.take (k+1)) 0 is.length=(is++iN 0 (l.take k) 0 is.length)++(⟨1,((is.length+fQ (l.take k)+db x+2:Nat):Int),(k:Int),dN⟩::(fj x (is.length+fQ (l.take k)+1)++[⟨3,0,0,dN⟩])):=by rw[jG,St,l2,pt,Nat.min_eq_left aa,nk]
  have EL:lT (l.take (k+1)) is.length=lT (l.take k) is.length++[is.length+fQ (l.take k)+db x+1]:=by rw[jG,QS]
  obtain⟨cur,qF⟩:∃c,c=is++iN 0 (l.take k) 0 is.length:=⟨_,rfl⟩;obtain⟨fe,um⟩:∃fe,fe=lT (l.take k) is.length:=⟨_,rfl⟩;have eS:fe.length=k:=by rw[um,Jy,pt,Nat.min_eq_left aa]
  rw[<-qF]at mi BS⊢;rw[<-um]at EL⊢;obtain⟨cJ,hI⟩:∃c,c=cur++[(⟨1,0,k,dN⟩:Ix)]:=⟨_,rfl⟩;have Bu:cJ.length=cur.length+1:=by rw[hI];simp
  have Bv:cJ≠[]:=by rw[hI];simp
  obtain⟨c2,fV⟩:∃c,c=cJ++fj x cJ.length:=⟨_,rfl⟩;have zo:c2≠[]:=by rw[fV];simp[Bv]
  have Ew:c2.length=is.length+fQ (l.take k)+db x+1:=by rw[fV,dF,j2,Bu,mi];omega
  obtain⟨c3,jb⟩:∃c,c=c2++[(⟨3,0,0,dN⟩:Ix)]:=⟨_,rfl⟩;have Io:c3≠[]:=by rw[jb];simp
  have ZV:c3.length=is.length+fQ (l.take k)+db x+2:=by rw[jb,dF,Ew];rfl
  have c1:=tU cur es ⟨1,0,k,dN⟩ Ω;have Q7:=a8 x (eR ad) cJ es Ω;have rZ:=tU c2 es ⟨3,0,0,dN⟩ Ω;rw[<-hI]at c1;rw[<-fV]at Q7;rw[<-jb]at rZ;have Pz:c3=cur++(⟨1,0,k,dN⟩:Ix)::(fj x (is.length+fQ (l.take k)+1)++[⟨3,0,0,dN⟩]):=by rw[jb,fV,Bu,hI,mi];simp
  have ur:c3[cur.length]? =some ⟨1,0,k,dN⟩:=by rw[Pz];simp
  have pS:l0 (c3.length:Int) c3 cur.length=is++iN 0 (l.take (k+1)) 0 is.length:=by rw[BS,ZV,Pz,TD]
  have EA:cur.length<c3.length:=Ω
  have Z1:(cur.length:Int)<c3.length:=Ω
  have aaD:fe.length+1<=bA:=by unfold bA;omega
  have Jp:∀h,(c3[cur.length]'h).e= .agg [.int .i64 1,.int .i64 0,.int .i64 k,.int .i64 0,.str [],.slice 4 .no [],.slice 4 .no []]:=fun h=>by rw[bO h]at ur;rw[dZ ur];rfl
  have xM:=TF Io (c3.length:Int) cur.length;simp[Dq];have aaH:k<l.length+1:=Ω
  have aaJ:(k==l.length)=false:=by simp;omega
  (with_reducible repeat' first|refine aA ?_|simp[j7,EO,aaH,dn,j8,aaJ,zr]);refine bI.more (c1) (hZ _ _) (by unfold bU;exact aH) (vK _ _ _) (by simp[ah,bU,Pv.look]) ?_;rintro r aC ⟨rfl,rfl⟩;refine⟨⟨o8,oi wh⟩,?_⟩;rw[kC];unfold bU;simp[bu,De,nh];(with_reducible repeat' first|refine aA ?_|simp);refine bI.more (Q7) (hZ _ _) (by unfold bU;exact aH) (vK _ _ _) (by simp[ah,bU,Pv.look]) ?_;rintro r aC ⟨rfl,rfl⟩;refine⟨⟨o8,oi (fun _=>Bv)⟩,?_⟩;rw[kC];unfold bU;simp[bu,De,nh];(with_reducible repeat' first|refine aA ?_|simp);refine bI.more (rZ) (hZ _ _) (by unfold bU;exact aH) (vK _ _ _) (by simp[ah,bU,Pv.look]) ?_;rintro r aC ⟨rfl,rfl⟩;refine⟨⟨o8,oi (fun _=>zo)⟩,?_⟩;rw[kC];unfold bU;simp[bu,De,nh];simp only[pW Io,nG Io];(with_reducible repeat' first|refine aA ?_|simp[aaD,hL,ur,EA,Z1,Jp,-GU]);have aa1:(l0 (c3.length:Int) c3 cur.length).map Ix.e=(c3.map Ix.e).set cur.length (.agg [.int .i64 1,.int .i64 c3.length,.int .i64 k,.int .i64 0,.str [],.slice 4 .no [],.slice 4 .no []]):=TE ur _;have aaF:lT (l.take (k+1)) is.length=fe++[c2.length]:=by rw[EL,Ew]
  refine bP.whl (k+1) Ω Ω ?_;rw[<-pS,aaF];simp[pW xM,nG xM,Cy xM,aa1,Gr,acX];cases is<;>simp only[nJ]<;>exact⟨by simp[fresh,ai,ak,bc,ah,Pv.look,br,xX,fX],cb (by simp[fresh,ai,ak,bc,ah,Pv.look,br,xX,fX]),cc (by simp[fresh,ai,ak,b6,ah,Pv.look,br,xX,fX]),Ψ⟩
theorem Pg:∀(n:Nat) (g:Gm),g.sz<=n->g.shape=true->Dj g:=by
 intro n;induction n with
 |zero=>intro g aO;have:=g.sz_pos;omega
 |succ n a8=>
  intro g aO dQ is es aE;have mU:∀x∈g.gs,Dj x:=fun x ad=>a8 x (by have:=g.gs_lt ad;omega) (qd dQ x ad);by_cases dD:g.kind=7
  ·exact Y5 g dQ is es aE dD mU
  by_cases fa:g.kind=8
  ·exact Y7 g dQ is es aE fa mU
  exact Y6 g dQ is es aE dD fa
theorem Q4(es:List Ey):e5 [] es=[.slice 7 .nil [],.row 4 (.obj 883) es.length]:=rfl
theorem Q6(es:List Ey):dV [] es=[(.obj 883,⟨es.length,99,4,some (es.map Ey.e)⟩)]:=rfl
def p9:Ix:=⟨6,0,0,dN⟩
theorem EC(is:List Ix)(es:List Ey)(m:Nat)(r:dw):∀k o,Pv.look k (bU is es).e=some o->Pv.look k ((.loc m,r)::dV is es)=some o:=fun k o h=>by
 cases k with
 |loc j=>rw[show(bU is es).e=dV is es from rfl,JC]at h;cases h
 |obj j=>simpa[Pv.look,bU]using h
theorem Uw(is:List Ix)(es:List Ey)(m:Nat)(r:dw):bu (dV is es) ((.loc m,r)::dV is es)=[(.loc m,r)]:=by cases is<;>simp[dV,bu,Pv.look]
theorem Pe(name:List aF)(ar vars:Int)(g:Gm)(dQ:g.shape=true)(aE:db g+1<=100000000):bT aP 102 [.ptr (.obj 881) 0,.str name,.int .i64 ar,.int .i64 vars,g.e] ⟨[(.obj 881,[.slice 7 .nil [],.slice 4 .nil []])],[]⟩ fun r aC=>r= .tuple []/\aC=bU (fj g 0++[p9]) [⟨name,0,ar,vars⟩]:=by
 have ao:fq ⟨[(.obj 881,[.slice 7 .nil [],.slice 4 .nil []])],[]⟩:=(fq.of ⟨by intro m;simp[Pv.look],by intro m;simp[Pv.look]⟩ (by simp[ai,ak,ah,Pv.look]) (by simp[ai,ak,ah,Pv.look]));obtain⟨e,he⟩:∃e:Ey,e=⟨name,0,ar,vars⟩:=⟨_,rfl⟩;have lM:e.e= .agg [.str name,.int .i64 0,.int .i64 ar,.int .i64 vars]:=by rw[he];rfl
 rw[<-he];have e0:=Pg g.sz g (da _) dQ [] [e] (by simp;omega);have c1:=tU (fj g 0) [e] p9 (by rw[j2];omega);simp only[nj,List.nil_append]at e0;refine bT.mk mixed nO OE R6 Ψ ao.obj fun aG b5=>?_;unfold G8;clear aG b5;simp;(with_reducible repeat' first|refine aA ?_|simp);rw[<-lM];refine bI.more e0 (hZ _ _) ?_ ?_ (by simp[ah,bU,Pv.look]) ?_
 ·simp only[bU,Q4];exact aH
 ·simp only[bU,Q6];exact aH
 rintro r aC ⟨rfl,rfl⟩;refine⟨⟨o8,oi (fun h=>by simp at h)⟩,?_⟩;rw[kC];simp only[bU,Q4,Q6];simp[bu,Pv.look];(with_reducible repeat' first|refine aA ?_|simp);obtain⟨L,pN⟩:∃L,L=fj g 0:=⟨_,rfl⟩;rw[<-pN]at c1⊢;refine bI.more c1 (hZ _ _) ?_ (EC _ _ _ _) (by simp[ah,bU,Pv.look]) ?_
 ·unfold bU;exact aH
 rintro r aC ⟨rfl,rfl⟩;refine⟨⟨o8,oi (fun h=>wh (by simpa using h))⟩,?_⟩;rw[kC];unfold bU;simp[bu,Uw,nh];refine ck.new (bU (L++[p9]) [e]) (.inr rfl) (hZ _ _) ⟨⟨.inl (by simp[bU,Pv.look]),trivial⟩,trivial⟩ (by unfold bU;exact aH) (EC _ _ _ _) ?_;simp[cz,Ks,bn,bp,bk,bU]
theorem Pf(is:List Ix)(es:List Ey)(aK:is≠[])(xA:es.length+1<=100000000)(name:List aF)(ar vars:Int)(g:Gm)(dQ:g.shape=true)(aE:is.length+db g+1<=100000000):bT aP 102 [.ptr (.obj 881) 0,.str name,.int .i64 ar,.int .i64 vars,g.e] (bU is es) fun r aC=>r= .tuple []/\aC=bU (is++fj g is.length++[p9]) (es++[⟨name,is.length,ar,vars⟩]):=by
 have ao:=hZ is es;obtain⟨e,he⟩:∃e:Ey,e=⟨name,is.length,ar,vars⟩:=⟨_,rfl⟩;have lM:e.e= .agg [.str name,.int .i64 is.length,.int .i64 ar,.int .i64 vars]:=by rw[he];rfl
 rw[<-he];obtain⟨tQ,IC⟩:∃tQ,tQ=es++[e]:=⟨_,rfl⟩;have ug:tQ.length=es.length+1:=by rw[IC];simp
 have aak:tQ.map Ey.e=es.map Ey.e++[e.e]:=by rw[IC];simp
 have fW:es.length+1<=bA:=by unfold bA;omega
 rw[<-IC];have e0:=Pg g.sz g (da _) dQ is tQ Ω;obtain⟨L,pN⟩:∃L,L=is++fj g is.length:=⟨_,rfl⟩;have Er:L.length=is.length+db g:=by rw[pN,dF,j2]
 have ua:L≠[]:=by rw[pN];simp[aK]
 rw[<-pN]at e0⊢;have c1:=tU L tQ p9 Ω;refine bT.mk mixed nO OE R6 Ψ ao.obj fun aG b5=>?_;unfold G8;clear aG b5;rw[kC,Cy aK];simp only[bU,pW aK,nG aK];simp;(with_reducible repeat' first|refine aA ?_|simp[fW]);rw[<-lM];have vF:(bU is tQ).b=[(.obj 881,[.row 7 (.obj 882) is.length,.row 4 (.obj 883) (es.length+1)])]:=by simp only[bU,pW aK,ug]
 have vG:(bU is tQ).e=[(.obj 883,⟨es.length+1,99,4,some (es.map Ey.e++[e.e])⟩),(.obj 882,⟨is.length,74,7,some (is.map Ix.e)⟩)]:=by simp only[bU,nG aK,ug,aak]
 refine bI.more e0 (hZ _ _) ?_ ?_ (by simp[ah,bU,Pv.look]) ?_
 ·rw[vF];exact aH
 ·rw[vG];exact aH
 rintro r aC ⟨rfl,rfl⟩;refine⟨⟨o8,oi (fun _=>aK)⟩,?_⟩;rw[kC,vF,vG];simp only[bU];simp[bu,Pv.look];(with_reducible repeat' first|refine aA ?_|simp);refine bI.more c1 (hZ _ _) ?_ (EC _ _ _ _) (by simp[ah,bU,Pv.look]) ?_
 ·unfold bU;exact aH
 rintro r aC ⟨rfl,rfl⟩;refine⟨⟨o8,oi (fun _=>ua)⟩,?_⟩;rw[kC];unfold bU;simp[bu,Uw,nh];have PD:L++[p9]≠[]:=by simp
 refine ck.new (bU (L++[p9]) tQ) (.inr rfl) (hZ _ _) ⟨⟨.inl (by simp[bU,Pv.look]),trivial⟩,⟨.inr (by simp[bU,nG PD,Pv.look]),.inr (by simp[bU,nG PD,Pv.look]),trivial⟩⟩ (by unfold bU;exact aH) (EC _ _ _ _) ?_;simp[cz,Ks,bn,bp,bk,bU]
theorem Hx(x:jO):∀(l:List jO) (p:Nat),fL (l++[x]) p=fL l p++fj x.body (p+(fL l p).length)++[p9]
 |[],p=>by simp[fL,p9]
 |y::l,p=>by simp only[iT,fL,Hx x l,dF,e3,j2,l2];rw[show p+db y.body+1+(fL l (p+db y.body+1)).length=p+(db y.body+((fL l (p+db y.body+1)).length+1)) by omega]
theorem Hr(x:jO):∀(l:List jO) (p:Nat),jC (l++[x]) p=jC l p++[⟨x.name,(p+(fL l p).length:Nat),x.ar,x.vars⟩]
 |[],p=>by simp[jC,fL]
 |y::l,p=>by simp only[iT,jC,Hr x l,fL,dF,e3,j2];rw[show p+db y.body+1+(fL l (p+db y.body+1)).length=p+(db y.body+((fL l (p+db y.body+1)).length+1)) by omega]
theorem NR{l:List jO}(h:l≠[])(p:Nat):fL l p≠[]:=by
 cases l with
 |nil=>exact absurd rfl h
 |cons x l=>simp[fL]
def hV(a:Bool):dM:=⟨[(.obj 309,[.func 219 []]),(.obj 308,[.bool a])],[]⟩
theorem wQ(a:Bool):fq (hV a):=by unfold hV;exact fq.of ⟨by intro m;simp[Pv.look],by intro m;simp[Pv.look]⟩ (by simp[ai,ak,ah,Pv.look]) Ψ
theorem AM(a b:Bool):fJ (hV a) (hV b):=by
 refine⟨fun k=>?_,fun k=>rfl⟩;simp only[hV,Pv.look];repeat' split
 all_goals rfl
theorem aej(g:Gm)(_:g.shape=true)(a:Bool):(a|| !g.on false)=g.gs.foldl (fun a x=>a|| !x.on false) (a||g.kind==10):=by
 have aM:∀(l:List Gm) (a:Bool),l.foldl (fun a x=>a|| !x.on false) a=(a|| !l.all fun x=>x.on false):=by
  intro l;induction l with
  |nil=>intro a;simp
  |cons x l a8=>intro a;rw[List.foldl_cons,a8,List.all_cons,Bool.or_assoc];simp
 rw[aM,Sn,Kl,Bool.or_assoc];simp[yd]
def yc(l:List Gm)(a:Bool):Bool:=l.foldl (fun a x=>a|| !x.on false) a
theorem aei{l:List Gm}{i:Nat}{x:Gm}(h:l[i]? =some x)(a:Bool):yc (l.take (i+1)) a=(yc (l.take i) a|| !x.on false):=by unfold yc;rw[jw,h];simp
theorem agA(k:Int):cg aP 219 [.int .i64 k] (.bool (k==10)):=by refine bJ jv XO adD fun aG=>?_;unfold MS;exact bZ
theorem Y8(g:Gm)(a:Bool):bT aP 255 [g.e,.ptr (.obj 308) 0,.ptr (.obj 309) 0] (hV a) fun r aC=>r= .tuple []/\aC=hV (a||g.kind==10):=by
 have ao:=wQ a;have et:=wQ (a||g.kind==10);have eu:=AM a (a||g.kind==10);have bX:=agA g.kind;cases a
 ·simp only[Bool.false_or]at et eu⊢;unfold hV at ao et eu⊢;refine bT.mk mixed jv OI Sa Ψ ao.obj fun aG b5=>?_;unfold Hc;clear aG b5;simp;(with_reducible repeat' first|refine aA ?_|refine aX bX ?_|refine aY bX ?_|simp);all_goals refine ck.at _ (.inr rfl) et eu aH aH ?_
  all_goals simp[cz,Kv,bn,bp,bk]
 ·simp only[Bool.true_or]at et eu⊢;unfold hV at ao et eu⊢;refine bT.mk mixed jv OI Sa Ψ ao.obj fun aG b5=>?_;unfold Hc;clear aG b5;simp;(with_reducible repeat' first|refine aA ?_|refine aX bX ?_|refine aY bX ?_|simp);all_goals refine ck.at _ (.inr rfl) et eu aH aH ?_
  all_goals simp[cz,Kv,bn,bp,bk]
theorem Y0:∀(n:Nat) (g:Gm),g.sz<=n->g.shape=true->∀a:Bool,bT aP 157 [g.e,.func 255 [.ptr (.obj 308) 0,.ptr (.obj 309) 0]] (hV a) fun r aC=>r= .tuple []/\aC=hV (a|| !g.on false):=by
 intro n;induction n with
 |zero=>intro g aO;have:=g.sz_pos;omega
 |succ n a8=>
 intro g aO dQ a;have ao:=wQ a;have et:=wQ (a|| !g.on false);have eu:=AM a (a|| !g.on false);have lV:=Y8 g a;have mU:∀x∈g.gs,∀a:Bool,bT aP 157 [x.e,.func 255 [.ptr (.obj 308) 0,.ptr (.obj 309) 0]] (hV a) fun r aC=>r= .tuple []/\aC=hV (a|| !x.on false):=fun x ad a=>a8 x (by have:=g.gs_lt ad;omega) (qd dQ x ad) a;have eZ:=aej g dQ a;rw[eZ,<-yc]at et eu⊢;generalize ig:(a||g.kind==10)=kf at lV et eu eZ⊢;have EI:g.gs.length<=1000000:=by have:=(u0 dQ).1;omega
 unfold hV at ao;refine bT.mk mixed kk HX Kh Ψ ao.obj fun aG b5=>?_;unfold DD;clear aG b5;unfold hV;simp;refine bI.ob (lV) (wQ _) (by unfold hV;exact aH) (by unfold hV;exact aH) (by simp[ah,hV,Pv.look]) ?_;rintro r aC ⟨rfl,rfl⟩;refine⟨AM _ _,?_⟩;unfold hV;simp[bu];(with_reducible repeat' first|refine aA ?_|simp);refine fM (fun i (_:Unit)=>⟨[(1,.func 255 [.ptr (.obj 308) 0,.ptr (.obj 309) 0]),(10,.slice 4 .no (g.gs.map Gm.e)),(11,.int .i64 g.gs.length),(12,.int .i64 i)],(hV (yc (g.gs.take i) kf)).b,[],0,[.obj 309,.obj 308]⟩) g.gs.length (fun _ _=>True) () (by simp[hV,yc];exact⟨by simp[fresh,ai,ak,bc,ah,Pv.look,br],cb (by simp[fresh,ai,ak,bc,ah,Pv.look,br]),cc (by simp[fresh,ai,ak,b6,ah,Pv.look,br]),Ψ⟩) trivial (fun _ _ _=>?_) (fun i _ aw _ _=>?_)
 ·simp only[jl,hV]at et eu⊢;simp;(with_reducible repeat' first|refine aA ?_|simp);all_goals refine ck.at _ (.inr rfl) et eu aH aH ?_
  all_goals simp[cz,F3,bn,bp,bk]
 ·obtain⟨b,af,lI⟩:=gd aw;have kb:=mU b (eR af) (yc (g.gs.take i) kf);rw[<-aei af]at kb;have b2:aZ ((i:Int)+1):=by unfold aZ;omega
  clear et eu;simp only[hV];simp[aw,lI];(with_reducible repeat' first|refine aA ?_|simp[aw,lI]);refine bI.ob (kb) (wQ _) (by unfold hV;exact aH) (by unfold hV;exact aH) (by simp[ah,hV,Pv.look]) ?_;rintro r aC ⟨rfl,rfl⟩;refine⟨AM _ _,?_⟩;unfold hV;simp[bu];(with_reducible repeat' first|refine aA ?_|simp[b2]);all_goals refine bP.rng () aw trivial (by simp[hV];exact⟨by simp[fresh,ai,ak,bc,ah,Pv.look,br],cb (by simp[fresh,ai,ak,bc,ah,Pv.look,br]),cc (by simp[fresh,ai,ak,b6,ah,Pv.look,br]),Ψ⟩)
theorem Um(g:Gm)(h:g.shape=true):cg aP 167 [g.e] (.bool (!g.on false)):=by
 have Cf:cg aP 218 [g.e,.func 219 []] (.bool (!g.on false)):=by have lV:=Y0 g.sz g (da _) h false;rw[Bool.false_or]at lV;refine bJ jv XM adB fun aG=>?_;unfold MQ;clear aG;simp;(with_reducible repeat' first|refine aA ?_|simp);refine bI.ob (lV) (wQ _) (by unfold hV;exact aH) (by unfold hV;exact aH) (by simp[ah,hV,Pv.look]) ?_;rintro r aC ⟨rfl,rfl⟩;refine⟨AM _ _,?_⟩;unfold hV;simp[bu];exact bZ
 refine bJ jv XN adC fun aG=>?_;unfold MR;clear aG;exact bZ
theorem agC(P:List Rl)(gL:∀r∈P,r.body.shape=true):cg aP 217 [gW P] (.bool (P.all fun r=>r.body.on false)):=by
 generalize bh:(P.all fun r=>r.body.on false)=R;refine bJ jv XR adG fun aG=>?_;unfold MV;have fW:P.length<=68719476736:=by simp[gW,-GV,j1,iW,jA,bA]at aG;omega
 clear aG;simp;(with_reducible repeat' first|refine aA ?_|simp);refine fM (fun i (_:Unit)=>⟨[(6,.slice 7 .no (P.map Rl.e)),(7,.int .i64 P.length),(8,.int .i64 i)],[],[],0,[]⟩) P.length (nF (fun r=>r.body.on false) P) () (by simp;exact c8) (fun k b aa=>Ω) (fun _ al _=>?_) (fun i _ aw al _=>?_)
 ·have:R=true:=by rw[<-bh];exact al.fin
  subst this;clear al bh;exact bZ
 ·obtain⟨e,he,eF⟩:=gd aw;have b2:aZ ((i:Int)+1):=by unfold aZ;omega
  have bX:=Um e.body (gL e (eR he));cases aK:e.body.on false
  ·rw[aK]at bX;have:R=false:=by rw[<-bh];exact vm he aK
   subst this;clear al bh;exact bZ
  ·rw[aK]at bX;have gr:=al.step he aK;clear al bh;exact qU
theorem L3(P:List Rl)(i:Nat)(r:Rl):sB P i r↔fw r.name=true/\nd P r.name=(i:Nat)/\(0<=r.ar/\r.ar<=4)/\(0<=r.loc/\r.loc<=8)/\0<=ik r.body 60/\mC r.body (r.ar+r.loc)=true/\r.body.cf P=true:=by
 unfold sB ik Gm.fits;simp only[bB,ef];have:=r.body.sz_pos;constructor
 ·rintro⟨I,J,av,aV,⟨⟨⟨bE,ch⟩,dD⟩,fa⟩,eb⟩;rw[bN ⟨bE,ch⟩]at eb;exact⟨J,I,av,aV,by rw[bN ⟨bE,Ω⟩];omega,fa,dD⟩
 ·rintro⟨I,J,av,aV,bE,ch,dD⟩;split at bE
  ·rename_i h;refine⟨J,I,av,aV,⟨⟨⟨h.1,Ω⟩,dD⟩,ch⟩,?_⟩;split<;>omega
  ·omega
theorem FI{g:Gm}{n:Int}(h:0<=ik g n):g.shape=true:=by
 unfold ik at h;split at h
 ·rename_i J;exact J.1
 ·omega
def oM(P:List Rl)(i:Nat)(_:Unit):bb:=⟨[(1,.ptr (.loc 0) 0),(10,.slice 7 .no (P.map Rl.e)),(11,.int .i64 P.length),(12,.int .i64 i)],[(.loc 0,[.slice 7 .no (P.map Rl.e)])],[],1,[]⟩
set_option maxRecDepth 8000 in
theorem agl(P:List Rl):cg aP 50 [gW P] (.bool (il P)):=by
 have n9:=Kb P;generalize il P=R at n9;by_cases fa:P.length<=8;rotate_left
 ·have:R=false:=by
   cases R with
   |false=>rfl
   |true=>exact absurd (n9.1 rfl).1 fa
  subst this;have Bp:(8:Int)<P.length:=Ω
  refine bJ jv OD R5 fun aG=>?_;unfold G7;clear aG;exact bZ
 have Bp:¬(8:Int)<P.length:=Ω
 refine bJ jv OD R5 fun aG=>?_;unfold G7;clear aG;simp;((with_reducible repeat' first|refine aA ?_|simp[Bp]|((first|apply cu|apply cw|apply cv)<;>intro h<;>try simp at h))<;>(try exact cK));refine fM (oM P) P.length (fun i _=> ∀(k:Nat) (r:Rl),k<i->P[k]? =some r->sB P k r) () (by simp[oM];exact c8) (fun k b aa=>Ω) (fun _ al _=>?_) (fun i _ aw al _=>?_)
 ·have:R=true:=n9.2 ⟨fa,fun i r hr=>al i r (cX.1 hr).1 hr⟩;subst this;clear al n9;simp[oM];((with_reducible repeat' first|refine aA ?_|simp|((first|apply cu|apply cw|apply cv)<;>intro h<;>try simp at h))<;>(try exact cK));simp[b1,sb,bn,bp,bk]
 obtain⟨r,hr⟩:∃e,P[i]? =some e:=⟨_,bO aw⟩;have gg:∀h,(P[i]'h)=r:=fun h=>by rw[bO aw]at hr;exact dZ hr
 have b2:aZ ((i:Int)+1):=by unfold aZ;omega
 have cZ:=Un P r.name;have bX:=Ly r.name;have lU:=Uf r.body.sz r.body (da _) 60 Ω;by_cases cN:sB P i r
 ·have gr:∀(k:Nat) (q:Rl),k<i+1->P[k]? =some q->sB P k q:=fun k q aa bG=>by
   rcases hS k i with h|h
   ·exact al k q h bG
   ·obtain rfl:k=i:=Ω
    rw[hr]at bG;cases bG;exact cN
  obtain⟨aq,aU,bR,ds,hn,gY,mc⟩:=(L3 P i r).1 cN;have ga:=C8 r.body (FI hn) (r.ar+r.loc);have e5:=Lz P r.body (FI hn);rw[aq]at bX;rw[aU]at cZ;rw[gY]at ga;rw[mc]at e5;have fh:aZ (r.ar+r.loc):=by unfold aZ;omega
  have b9:¬r.ar<0:=Ω
  have cx:¬4<r.ar:=Ω
  have dp:¬r.loc<0:=Ω
  have c6:¬8<r.loc:=Ω
  have cH:¬ik r.body 60<0:=Ω
  clear al n9 aq aU gY mc;simp[oM,aw,gg];((with_reducible repeat' first|refine aA ?_|refine aX bX ?_|refine aY bX ?_|refine aX cZ ?_|refine aY cZ ?_|refine aX lU ?_|refine aY lU ?_|refine aX ga ?_|refine aY ga ?_|refine aX e5 ?_|refine aY e5 ?_|simp[aw,gg,b2,fh,b9,cx,dp,c6,cH]|((first|apply cu|apply cw|apply cv)<;>intro h<;>try simp at h))<;>(try exact cK));exact bP.rng () aw gr (by simp[oM];exact c8)
 have:R=false:=by
  cases R with
  |false=>rfl
  |true=>exact absurd ((n9.1 rfl).2 i r hr) cN
 subst this;rw[L3]at cN;clear al n9;cases aq:fw r.name with
 |false=>rw[aq]at bX;clear cN cZ lU;simp[oM,aw,gg];(with_reducible repeat' first|refine aA ?_|refine aX bX ?_|refine aY bX ?_|simp[aw,gg]);simp[b1,sb,bn,bp,bk]
 |true=>
 rw[aq]at bX;generalize nd P r.name=m at cZ cN;by_cases cJ:m=i;rotate_left
 ·have af:(m !=(i:Int))=true:=by simpa using cJ
  clear cN lU;simp[oM,aw,gg];(with_reducible repeat' first|refine aA ?_|refine aX bX ?_|refine aY bX ?_|refine aX cZ ?_|refine aY cZ ?_|simp[aw,gg,af]);simp[b1,sb,bn,bp,bk]
 subst cJ;by_cases c3:0<=r.ar;rotate_left
 ·have b9:r.ar<0:=Ω
  clear cN lU;simp[oM,aw,gg];(with_reducible repeat' first|refine aA ?_|refine aX bX ?_|refine aY bX ?_|refine aX cZ ?_|refine aY cZ ?_|simp[aw,gg,b9]);simp[b1,sb,bn,bp,bk]
 have b9:¬r.ar<0:=Ω
 by_cases c4:r.ar<=4;rotate_left
 ·have cx:4<r.ar:=Ω
  clear cN lU;simp[oM,aw,gg];(with_reducible repeat' first|refine aA ?_|refine aX bX ?_|refine aY bX ?_|refine aX cZ ?_|refine aY cZ ?_|simp[aw,gg,b9,cx]);simp[b1,sb,bn,bp,bk]
 have cx:¬4<r.ar:=Ω
 by_cases c5:0<=r.loc;rotate_left
 ·have dp:r.loc<0:=Ω
  clear cN lU;simp[oM,aw,gg];(with_reducible repeat' first|refine aA ?_|refine aX bX ?_|refine aY bX ?_|refine aX cZ ?_|refine aY cZ ?_|simp[aw,gg,b9,cx,dp]);simp[b1,sb,bn,bp,bk]
 have dp:¬r.loc<0:=Ω
 by_cases iI:r.loc<=8;rotate_left
 ·have c6:8<r.loc:=Ω
  clear cN lU;simp[oM,aw,gg];(with_reducible repeat' first|refine aA ?_|refine aX bX ?_|refine aY bX ?_|refine aX cZ ?_|refine aY cZ ?_|simp[aw,gg,b9,cx,dp,c6]);simp[b1,sb,bn,bp,bk]
 have c6:¬8<r.loc:=Ω
 have fh:aZ (r.ar+r.loc):=by unfold aZ;omega
 by_cases jo:0<=ik r.body 60;rotate_left
 ·have cH:ik r.body 60<0:=Ω
  clear cN;simp[oM,aw,gg];(with_reducible repeat' first|refine aA ?_|refine aX bX ?_|refine aY bX ?_|refine aX cZ ?_|refine aY cZ ?_|refine aX lU ?_|refine aY lU ?_|simp[aw,gg,b9,cx,dp,c6,cH]);simp[b1,sb,bn,bp,bk]
 have cH:¬ik r.body 60<0:=Ω
 have ga:=C8 r.body (FI jo) (r.ar+r.loc);have e5:=Lz P r.body (FI jo);cases gY:mC r.body (r.ar+r.loc)with
 |false=>rw[gY]at ga;clear cN e5;simp[oM,aw,gg];(with_reducible repeat' first|refine aA ?_|refine aX bX ?_|refine aY bX ?_|refine aX cZ ?_|refine aY cZ ?_|refine aX lU ?_|refine aY lU ?_|refine aX ga ?_|refine aY ga ?_|simp[aw,gg,fh,b9,cx,dp,c6,cH]);simp[b1,sb,bn,bp,bk]
 |true=>
 rw[gY]at ga;cases mc:r.body.cf P with
 |false=>rw[mc]at e5;clear cN;simp[oM,aw,gg];((with_reducible repeat' first|refine aA ?_|refine aX bX ?_|refine aY bX ?_|refine aX cZ ?_|refine aY cZ ?_|refine aX lU ?_|refine aY lU ?_|refine aX ga ?_|refine aY ga ?_|refine aX e5 ?_|refine aY e5 ?_|simp[aw,gg,fh,b9,cx,dp,c6,cH]|((first|apply cu|apply cw|apply cv)<;>intro h<;>try simp at h))<;>(try exact cK));simp[b1,sb,bn,bp,bk]
 |true=>exact absurd ⟨aq,rfl,⟨c3,c4⟩,⟨c5,iI⟩,jo,gY,mc⟩ cN
theorem adl{P:List Rl}(h:il P=true):∀r∈P,r.body.shape=true:=fun r hr=>(Ka h r hr).2
def zY(P:List Rl):Bool:=il P&&P.all fun r=>r.body.on false
theorem agk(P:List Rl):cg aP 166 [gW P] (.bool (zY P)):=by
 have jI:=agl P;unfold zY;cases h:il P
 ·rw[h]at jI;refine bJ jv OB R3 fun aG=>?_;unfold G5;clear aG;exact bZ
 ·rw[h]at jI;have c1:=agC P (adl h);rw[mD];refine bJ jv OB R3 fun aG=>?_;unfold G5;clear aG;exact bZ
theorem agm(P:List Rl)(g:Gm)(h:g.shape=true)(n:Int):cg aP 118 [gW P,g.e,.int .i64 n] (.bool (mC g n&&g.cf P)):=by
 have ga:=C8 g h n;have e5:=Lz P g h;cases e:mC g n
 ·rw[e]at ga;refine bJ jv OH R9 fun aG=>?_;unfold Hb;clear aG;exact bZ
 ·rw[e]at ga;rw[mD];refine bJ jv OH R9 fun aG=>?_;unfold Hb;clear aG;have pY:=e5;exact bZ
def w7(P:List Rl)(g:Gm)(n:Int):Bool:=decide (0<=n)&&decide (n<=100000)&&zY P&&g.fits 80&&(mC g n&&g.cf P)&&g.on false
theorem age(P:List Rl)(g:Gm)(n:Int):cg aP 101 [gW P,g.e,.int .i64 n] (.bool (w7 P g n)):=by
 unfold w7;have c1:=agk P;have e0:=Lx g;by_cases I:0<=n;rotate_left
 ·rw[ly I];simp only[Bool.false_and];refine bJ jv y6 zQ fun aG=>?_;unfold w2;clear aG;exact bZ
 rw[k2 I,mD];by_cases J:n<=100000;rotate_left
 ·rw[ly J];simp only[Bool.false_and];refine bJ jv y6 zQ fun aG=>?_;unfold w2;clear aG;exact bZ
 rw[k2 J,mD];cases bR:zY P
 ·rw[bR]at c1;simp only[Bool.false_and];refine bJ jv y6 zQ fun aG=>?_;unfold w2;clear aG;exact bZ
 rw[bR]at c1;rw[mD];cases ds:g.fits 80
 ·rw[ds]at e0;simp only[Bool.false_and];refine bJ jv y6 zQ fun aG=>?_;unfold w2;clear aG;exact bZ
 rw[ds]at e0;rw[mD];have dQ:g.shape=true:=by unfold Gm.fits at ds;rw[bB]at ds;exact ds.1
 have cZ:=agm P g dQ n;have bX:=Um g dQ;generalize (mC g n&&g.cf P)=b at cZ⊢;generalize g.on false=d at bX⊢;cases b
 ·simp only[Bool.false_and];refine bJ jv y6 zQ fun aG=>?_;unfold w2;clear aG;exact bZ
 ·rw[mD];refine bJ jv y6 zQ fun aG=>?_;unfold w2;clear aG;exact bZ
end
end Go.Proofs.YtlnndmgfngfeiaaGreatDoor
namespace Go.Pv
section
open Go Go.Lib
def kD(s:List aF):Prop:= ∀c∈s,c≠10
theorem oq{a b:List aF}(b4:kD a)(af:kD b):kD (a++b):=fun c h=>(iG.1 h).elim (b4 c) (af c)
theorem ot{x:aF}{b:List aF}(b4:x≠10)(af:kD b):kD (x::b):=fun c h=>by
 rcases gH.1 h with rfl|h
 ·exact b4
 ·exact af c h
theorem uJ(n:Int):kD (itoa n):=fun c h=>by have:=ab3 n c h;rintro rfl;simp at this
theorem FN{s:List aF}(h:gM s=true):kD s:=fun c aD=>by
 obtain⟨x,r,rfl,I,J,_⟩:=zJ h;have:kd c=true:=by
  rcases gH.1 aD with rfl|aD
  ·unfold kd;rw[I];rfl
  ·exact J c aD
 simp only[kd,low,Bool.or_eq_true,ef,dO]at this;rintro rfl;simp at this
theorem RU(n:Int):kD (63::itoa n):=ot (by decide) (uJ n)
theorem wg{x:aF}(h:x≠10):kD [x]:=ot h (fun _ h=>by cases h)
mutual
theorem J2:∀t:T,t.ok=true->kD (dB t)
 | .nil,_=>by rw[dB];exact ot (by decide) (wg (by decide))
 | .var n,_=>by rw[dB];exact RU n
 | .sym s,h=>by rw[dB];exact FN (by simpa[T.ok]using h)
 | .num n,_=>by rw[dB];exact uJ n
 | .pair a b,h=>by simp only[T.ok,bB]at h;rw[dB];exact ot (by decide) (oq (J2 a h.1) (RR b h.2))
theorem RR:∀t:T,t.ok=true->kD (fA t)
 | .nil,_=>by rw[fA];exact wg (by decide)
 | .var n,_=>by rw[fA];exact ot (by decide) (ot (by decide) (ot (by decide) (oq (RU n) (wg (by decide)))))
 | .sym s,h=>by rw[fA];exact ot (by decide) (ot (by decide) (ot (by decide) (oq (FN (by simpa[T.ok]using h)) (wg (by decide)))))
 | .num n,_=>by rw[fA];exact ot (by decide) (ot (by decide) (ot (by decide) (oq (uJ n) (wg (by decide)))))
 | .pair a b,h=>by simp only[T.ok,bB]at h;rw[fA];exact ot (by decide) (oq (J2 a h.1) (RR b h.2))
end
theorem RT:∀l:List (List aF),(∀x∈l,kD x)->kD (gv [32] l)
 |[],_=>fun _ h=>by cases h
 |[x],h=>h x Ψ
 |x::y::r,h=>by rw[gv];exact oq (oq (h x Ψ) (wg (by decide))) (RT (y::r) fun z cn=>h z (by simp only[gH]at cn⊢;exact .inr cn))
theorem RS(k:Int):kD (kM k):=by
 unfold kM kD;repeat' split
 all_goals decide
mutual
theorem J1:∀g:Gm,g.shape=true->kD (fl g)
 | .mk k s t g,h=>by
  obtain⟨I,J,av⟩:=afA h;rw[fl];split
  ·exact RS k
  ·refine ot (by decide) (oq (RT _ fun x ad=>?_) (wg (by decide)));simp only[gH,iG,pv]at ad;rcases ad with rfl|⟨y,bC,rfl⟩|ad
   ·split
    ·rename_i aa;have:fw s=true:=by
      rcases av with av|av|av|av
      ·omega
      ·omega
      ·exact av.2.1
      ·omega
     exact FN (KO this)
    ·exact RS k
   ·obtain⟨z,rfl,cn⟩:=ba.fits_ex (I y bC);rw[Lk];exact J2 z (vy cn)
   ·exact RQ g J x ad
theorem RQ:∀g:List Gm,qc g=true->∀x∈xf g,kD x
 |[],_,x,ad=>by simp[xf]at ad
 |y::g,h,x,ad=>by
  simp only[qc,bB]at h;simp only[xf,gH]at ad;rcases ad with rfl|ad
  ·exact J1 y h.1
  ·exact RQ g h.2 x ad
end
def uG(s:List aF):Nat:=s.count 10
theorem uH(a b:List aF):uG (a++b)=uG a+uG b:=List.count_append
theorem FM{s:List aF}(h:kD s):uG s=0:=List.count_eq_zero.2 fun aD=>h 10 aD rfl
theorem ac8{e:Ey}(h:kD e.name):uG (j5 e)=1:=by unfold j5;rw[uH,uH,uH,FM h,FM (uJ _)];rfl
theorem Vc{x:Ix}(h:x.op=0\/x.op=5->x.g.shape=true):kD (ks x):=by
 unfold ks;repeat' split
 ·exact oq (by intro c aD;revert c aD;decide) (J1 _ (h (.inl ‹_›)))
 ·exact oq (by intro c aD;revert c aD;decide) (oq (uJ _) (oq (wg (by decide)) (uJ _)))
 ·exact oq (by intro c aD;revert c aD;decide) (uJ _)
 ·exact oq (by intro c aD;revert c aD;decide) (uJ _)
 ·intro c aD;revert c aD;decide
 ·exact oq (by intro c aD;revert c aD;decide) (J1 _ (h (.inr ‹_›)))
 ·intro c aD;revert c aD;decide
 ·intro c aD;cases aD
theorem ada(k:Nat){x:Ix}(h:x.op=0\/x.op=5->x.g.shape=true):uG (gw k x)=1:=by unfold gw;rw[uH,uH,uH,FM (uJ _),FM (Vc h)];rfl
theorem ac9{es:List Ey}(h:∀e∈es,kD e.name)(k:Nat):uG (kP es k)=(es.filter fun e=>e.pos==(k:Int)).length:=by
 unfold kP;induction es with
 |nil=>rfl
 |cons e es a8=>
  have a8:=a8 fun x ad=>h x (by simp[ad]);rw[List.filter_cons];split
  ·rw[eQ,List.flatten_cons,uH,ac8 (h e Ψ),a8,e3];omega
  ·exact a8
theorem region{c:Cd}(h:lE c){k:Nat}(aa:k<c.is.length):∃(i:Nat) (e:Ey),c.es[i]? =some e/\e.pos<=k/\(k:Int)<c.fin i:=by
 obtain⟨⟨ib,bD,I⟩,J,av⟩:=h;have key:∀d i:Nat,d=c.es.length-i->∀e,c.es[i]? =some e->e.pos<=k->∃(i:Nat) (e:Ey),c.es[i]? =some e/\e.pos<=k/\(k:Int)<c.fin i:=by
  intro d;induction d with
  |zero=>intro i a7 e he;have:=(cX.1 he).1;omega
  |succ d a8=>
   intro i a7 e he bq;by_cases aM:(k:Int)<c.fin i
   ·exact⟨i,e,he,bq,aM⟩
   ·cases aK:c.es[i+1]? with
    |none=>rw[Cd.fin,aK]at aM;simp only at aM;omega
    |some f=>rw[Cd.fin_of aK]at aM;exact a8 (i+1) Ω f aK Ω
 exact key _ 0 rfl ib bD Ω
theorem A0{c:Cd}(h:lE c){k:Nat}{x:Ix}(ad:c.is[k]? =some x):∃(i:Nat) (e:Ey),c.es[i]? =some e/\rY c e (c.fin i) k x:=by obtain⟨i,e,he,I,J⟩:=region h (cX.1 ad).1;exact⟨i,e,he,(h.2.2 i e he).2 k x I J ad⟩
theorem Vx{c:Cd}(h:lE c){k:Nat}{x:Ix}(ad:c.is[k]? =some x):x.op=0\/x.op=5->x.g.shape=true:=by
 obtain⟨i,e,he,b9,cx,dp,_⟩:=A0 h ad;rintro(bD|bE)
 ·have:=(cx bD).2.2.1;simp only[Gm.fits,bB]at this;exact this.1
 ·have:=(dp bE).2.2.1;simp only[Gm.fits,bB]at this;exact this.1
theorem Vw{c:Cd}(h:lE c):∀e∈c.es,kD e.name:=fun e he=>by
 obtain⟨i,aw⟩:=l4 he;obtain⟨b9,cx,_⟩:=h.2.1 i e aw;by_cases aE:i+1=c.es.length
 ·rw[(b9 aE).1];exact fun _ h=>by cases h
 ·exact FN (KO (cx aE).1)
theorem ac7{c:Cd}(h:lE c):uG (oT c)=c.is.length+c.es.length:=by
 have key:∀n,n<=c.is.length->uG (mf c n)=n+(c.es.filter fun e=>decide (e.pos<(n:Int))).length:=by
  intro n;induction n with
  |zero=>
   intro _;have:c.es.filter (fun e=>decide (e.pos<((0:Nat):Int)))=[]:=by rw[List.filter_eq_nil_iff];intro e he;obtain⟨i,aw⟩:=l4 he;have:=(h.2.1 i e aw).2.2.2.2.1.1;simp;omega
   rw[this];rfl
  |succ n a8=>
   intro aK;obtain⟨x,ad⟩:∃x,c.is[n]? =some x:=⟨_,bO Ω⟩;rw[mf,uH,uH,a8 Ω,ac9 (Vw h),ad,ada n (Vx h ad)];have:∀l:List Ey,(l.filter fun e=>decide (e.pos<((n+1:Nat):Int))).length=(l.filter fun e=>decide (e.pos<(n:Int))).length+(l.filter fun e=>e.pos==(n:Int)).length:=by
    intro l;induction l with
    |nil=>rfl
    |cons e l a8=>
     simp only[List.filter_cons];rcases Int.lt_trichotomy e.pos n with I|I|I
     ·rw[bN (by simp;omega),bN (by simp;omega),bf (by simp;omega)];simp only[e3];omega
     ·rw[bN (by simp;omega),bf (by simp;omega),bN (by simp;omega)];simp only[e3];omega
     ·rw[bf (by simp;omega),bf (by simp;omega),bf (by simp;omega)];exact a8
   rw[this];omega
 rw[H2 h,key _ (da _)];congr 1;rw[List.filter_eq_self.2];intro e he;obtain⟨i,aw⟩:=l4 he;have:=(h.2.1 i e aw).2.2.2.2.1.2;simpa using this
theorem Yw(c:Cd)(n:Nat)(aK:0<n)(aE:n<=c.is.length):∃s,mf c n=s++[10]:=by obtain⟨n,rfl⟩:∃m,n=m+1:=⟨n-1,Ω⟩;obtain⟨x,ad⟩:∃x,c.is[n]? =some x:=⟨_,bO Ω⟩;rw[mf,ad];exact⟨mf c n++(kP c.es n++(itoa n++([32]++ks x))),by simp[gw]⟩
theorem NK{c:Cd}(h:lE c):0<c.is.length:=by obtain⟨⟨ib,bD,I⟩,J,_⟩:=h;have:=(J 0 ib bD).2.2.2.2.1.2;omega
def qw(c:Cd)(k:Nat)(x:Ix):Cd:=⟨c.is.set k {x with a:=x.a+c.is.length},c.es⟩
theorem Vd{c:Cd}(h:lE c){k:Nat}{x:Ix}(ad:c.is[k]? =some x):¬lE (qw c k x):=by
 intro af;have aa:=(cX.1 ad).1;have aE:(qw c k x).is.length=c.is.length:=by simp[qw]
 have mT:(qw c k x).is[k]? =some {x with a:=x.a+c.is.length}:=by simp[qw,aa]
 obtain⟨i,e,he,q⟩:=A0 af mT;obtain⟨j,f,aM,p⟩:=A0 h ad;have hK:(qw c k x).fin i<=c.is.length:=by
  cases aK:(qw c k x).es[i+1]? with
  |none=>rw[Cd.fin,aK];simp only;omega
  |some g=>rw[Cd.fin_of aK];have:=(af.2.1 _ g aK).2.2.2.2.1.2;rw[aE]at this;omega
 obtain⟨_,wv,cH,b9,cx,dp,c6,iD,p6,aew⟩:=q;obtain⟨_,CD,CF,iA,hv,uL,CE,Ko,aem,aen⟩:=p;simp only at wv cH b9 cx dp c6 iD p6 aew;rcases(by omega:x.op=0\/x.op=1\/x.op=2\/x.op=3\/x.op=4\/x.op=5\/x.op=6)with aj|aj|aj|aj|aj|aj|aj
 ·have a:=(wv aj).1;have b:=(CD aj).1;omega
 ·have a:=(b9 aj).1.2.2;have b:=(iA aj).1.1;omega
 ·have a:=(cx aj).1;have b:=(hv aj).1;omega
 ·have a:=(dp aj).1.2.2;have b:=(uL aj).1.1;omega
 ·have a:=(c6 aj).1;have b:=(CE aj).1;omega
 ·have a:=(cH aj).1;have b:=(CF aj).1;omega
 ·have a:=(iD aj).1;have b:=(Ko aj).1;omega
theorem ach(P:List Rl)(g:Gm)(n:Int):∃l,(k6 P g n).is=l++[⟨6,0,0,dN⟩]:=by
 have key:∀(l:List jO) (p:Nat),l≠[]->∃r,fL l p=r++[⟨6,0,0,dN⟩]:=by
  intro l;induction l with
  |nil=>intro p h;exact absurd rfl h
  |cons x l a8=>
   intro p _;cases l with
   |nil=>exact⟨fj x.body p,by simp[fL]⟩
   |cons y l=>obtain⟨r,hr⟩:=a8 (p+db x.body+1) Ψ;exact⟨fj x.body p++(⟨6,0,0,dN⟩::r),by rw[fL,hr];simp⟩
 exact key _ 0 (by unfold fR;simp)
mutual
theorem A1:∀g:Gm,db g+2<=3*g.sz
 | .mk k s t gs=>by
  have a:=NS gs;have b:=NW gs;simp only[db,Gm.sz];repeat' split
  all_goals omega
theorem NS:∀l:List Gm,jQ l<=3*iu l
 |[]=>by simp[jQ,iu]
 |x::l=>by have a:=A1 x;have b:=NS l;simp only[jQ,iu];omega
theorem NW:∀l:List Gm,iJ l<=3*iu l
 |[]=>by simp[iJ,iu]
 |x::l=>by have a:=A1 x;have b:=NW l;simp only[iJ,iu];split<;>omega
end
theorem Hw:∀(l:List jO) (p:Nat),(∀x∈l,x.body.sz<=80)->(fL l p).length<=240*l.length
 |[],_,_=>by simp[fL]
 |x::l,p,h=>by have a:=A1 x.body;have b:=h x Ψ;have c:=Hw l (p+db x.body+1) fun y bC=>h y (by simp[bC]);simp only[fL,dF,e3,j2];omega
end
end Go.Pv
