/- Contracts: clauses drawn, with negations. Made by mkneg.py. -/
import Derived.Test.YtlnndmgfngfeiaaGreatDoorProg
import Derived.Test.YtlnndmgfngfeiaaGreatDoorV8
set_option linter.all false
set_option maxHeartbeats 4000000
set_option maxRecDepth 4000
open Bool renaming and_eq_true->bF
open Go renaming program->iT
open Go.IntKind renaming i64->iw
open Go.Proofs.Tryz renaming f8->j2,prog->aQ
open Int renaming add_assoc->pP
open List renaming all_eq_true->hq,append_nil->mg,cons_append->ds,drop_eq_getElem_cons->uk,drop_length->kG,getElem?_drop->lT,getElem?_eq_getElem->cS,getElem?_eq_some_iff->eV,getElem?_map->pQ,length_append->fU,length_cons->ga,length_drop->hG,length_map->pR,length_nil->mh,length_take->n7,map_cons->ek,map_nil->mQ,mem_cons->gb,mem_of_getElem?->fq,sum_cons->qD,take_add_one->kV,take_length->kH,take_of_length_le->rH
open Nat renaming eq_or_lt_of_le->jJ,le_refl->c7,lt_or_ge->lU,zero_add->n9,zero_le->o3
open Option renaming getD_some->qE,isSome_none->um,map_eq_some_iff->hc,map_some->oa
open Option.some renaming inj->hd,injEq->dH
open Prod.mk renaming injEq->gz
open _root_ renaming False->dD,Option->a1,UInt8->ah,beq_eq_false_iff_ne->jy,decide_eq_true->nD,decide_eq_true_eq->ea,if_neg->bo,if_pos->bP
namespace Go.Proofs.YtlnndmgfngfeiaaGreatDoor
section
open Go Go.Pv
theorem aeO(P:List Rl):(P.map Rl.name).Nodup↔∀(i:Nat) (r:Rl),P[i]? =some r->ny P r.name=(i:Nat):=by
 constructor
 ·intro h i r hr;refine Le hr rfl fun j q aD bA cD=>?_;obtain⟨b4,a2⟩:=eV.1 (show(P.map Rl.name)[j]? =some q.name by rw[pQ,bA];rfl);obtain⟨ck,cr⟩:=eV.1 (show(P.map Rl.name)[i]? =some r.name by rw[pQ,hr];rfl);exact(List.pairwise_iff_getElem.1 h) j i b4 ck aD (a2.trans (cD.trans cr.symm))
 ·intro h;refine List.pairwise_iff_getElem.2 fun i j aE aD xX he=>?_;simp only[pR]at aE aD;simp only[List.getElem_map]at he;have I:=h i _ (cS aE);have J:=h j _ (cS aD);rw[he,J]at I;omega
def s6(P:List Rl)(i:Nat)(r:Rl):Prop:=ny P r.name=(i:Nat)/\eS r.name=true/\(0<=r.ar/\r.ar<=4)/\(0<=r.loc/\r.loc<=8)/\(r.body.fits 80&&r.body.cf P&&o1 r.body (r.ar+r.loc))=true/\(if r.body.fits 80 then(r.body.sz:Int)else 0)<=60
theorem S4(P:List Rl):gC P=true↔P.length<=8/\∀(i:Nat) (r:Rl),P[i]? =some r->s6 P i r:=by
 unfold gC;rw[bF,bF,ea,ea,aeO,hq];have key:∀r:Rl,Rl.ok P r=true↔eS r.name=true/\(0<=r.ar/\r.ar<=4)/\(0<=r.loc/\r.loc<=8)/\(r.body.fits 80&&r.body.cf P&&o1 r.body (r.ar+r.loc))=true/\(if r.body.fits 80 then(r.body.sz:Int)else 0)<=60:=by
  intro r;have aK:=Ms r.body (r.ar+r.loc);unfold Rl.ok;simp only[bF,ea,hq,aK];unfold Mr Gm.fits;simp only[bF,ea];constructor
  ·rintro⟨⟨⟨⟨⟨a,b⟩,c⟩,d1,d2⟩,e⟩,f⟩;refine⟨a,b,c,⟨⟨⟨d1,Ω⟩,f⟩,e⟩,?_⟩;split<;>omega
  ·rintro⟨a,b,c,⟨⟨⟨d1,d2⟩,f⟩,e⟩,g⟩;rw[bP ⟨d1,d2⟩]at g;exact⟨⟨⟨⟨⟨a,b⟩,c⟩,d1,Ω⟩,e⟩,f⟩
 constructor
 ·rintro⟨⟨I,J⟩,aA⟩;exact⟨I,fun i r hr=>⟨J i r hr,(key r).1 (aA r (fq hr))⟩⟩
 ·rintro⟨I,J⟩;refine⟨⟨I,fun i r hr=>(J i r hr).1⟩,fun r hr=>?_⟩;obtain⟨i,aE⟩:=List.getElem?_of_mem hr;exact(key r).2 (J i r aE).2
def rL(P:List Rl)(i:Nat)(_:Unit):a6:=⟨[(1,.ptr (.loc 0) 0),(10,.slice 7 .no (P.map Rl.e)),(11,.int .i64 P.length),(12,.int .i64 i)],[(.loc 0,[.slice 7 .no (P.map Rl.e)])],[],1,[]⟩
set_option maxRecDepth 8000 in
theorem aim(P:List Rl):ct aQ 109 [ho P] (.bool (gC P)):=by
 have oE:=S4 P;generalize gC P=R at oE;by_cases fZ:P.length<=8;rotate_left
 ·have:R=false:=by
   cases R with
   |false=>rfl
   |true=>exact absurd (oE.1 rfl).1 fZ
  subst this;have BV:(8:Int)<P.length:=Ω
  refine bW jI PH Tl fun aL=>?_;unfold HR;clear aL;exact cB
 have BV:¬(8:Int)<P.length:=Ω
 refine bW jI PH Tl fun aL=>?_;unfold HR;clear aL;simp;(with_reducible repeat' first|refine av ?_|simp[BV]);refine gP (rL P) P.length (fun i _=> ∀(k:Nat) (r:Rl),k<i->P[k]? =some r->s6 P k r) () (by simp[rL];exact cX) (fun k b aa=>Ω) (fun _ aD _=>?_) (fun i _ aE aD _=>?_)
 ·have:R=true:=oE.2 ⟨fZ,fun i r hr=>aD i r (eV.1 hr).1 hr⟩;subst this;clear aD oE;simp[rL];exact cB
 obtain⟨r,hr⟩:∃e,P[i]? =some e:=⟨_,cS aE⟩;have hk:∀h,(P[i]'h)=r:=fun h=>by rw[cS aE]at hr;exact hd hr
 have cb:aZ ((i:Int)+1):=by unfold aZ;omega
 have cZ:=VT P r.name;have cU:=VX r.name;have eF:=et r.ar 0 4;have l9:=et r.loc 0 8;have cW:=aic P r.body (r.ar+r.loc);have ma:=aik r.body;by_cases cQ:s6 P i r
 ·have jl:∀(k:Nat) (q:Rl),k<i+1->P[k]? =some q->s6 P k q:=fun k q aa bA=>by
   rcases lU k i with h|h
   ·exact aD k q h bA
   ·obtain rfl:k=i:=Ω
    rw[hr]at bA;cases bA;exact cQ
  obtain⟨aB,aU,b1,dN,hJ,hx⟩:=cQ;rw[aB]at cZ;rw[aU]at cU;rw[hJ]at cW;rw[nD b1]at eF;rw[nD dN]at l9;have cp:¬60<(if r.body.fits 80 then(r.body.sz:Int)else 0):=Ω
  generalize (if r.body.fits 80 then(r.body.sz:Int)else 0)=z at ma cp;have en:aZ (r.ar+r.loc):=by unfold aZ;omega
  clear aD oE aB aU hJ hx;simp[rL,aE,hk];(with_reducible repeat' first|refine av ?_|refine ba cZ ?_|refine bb cZ ?_|refine ba cU ?_|refine bb cU ?_|refine ba eF ?_|refine bb eF ?_|refine ba l9 ?_|refine bb l9 ?_|refine ba cW ?_|refine bb cW ?_|refine ba ma ?_|refine bb ma ?_|simp[aE,hk,cb,en,cp]);exact bU.rng () aE jl (by simp[rL];exact cX)
 ·have:R=false:=by
   cases R with
   |false=>rfl
   |true=>exact absurd ((oE.1 rfl).2 i r hr) cQ
  subst this;unfold s6 at cQ;clear aD oE;generalize ny P r.name=m at cZ cQ;generalize eS r.name=sG at cU cQ;generalize (r.body.fits 80&&r.body.cf P&&o1 r.body (r.ar+r.loc))=dE at cW cQ;generalize (if r.body.fits 80 then(r.body.sz:Int)else 0)=z at ma cQ;by_cases c8:m=i;rotate_left
  ·have ao:(m !=(i:Int))=true:=by simpa using c8
   simp[rL,aE,hk];exact cB
  subst c8;cases sG
  ·simp[rL,aE,hk];exact cB
  by_cases c3:0<=r.ar/\r.ar<=4;rotate_left
  ·rw[decide_eq_false c3]at eF;simp[rL,aE,hk];exact cB
  rw[nD c3]at eF;by_cases c4:0<=r.loc/\r.loc<=8;rotate_left
  ·rw[decide_eq_false c4]at l9;simp[rL,aE,hk];exact cB
  rw[nD c4]at l9;have en:aZ (r.ar+r.loc):=by unfold aZ;omega
  cases dE
  ·simp[rL,aE,hk];exact cB
  have cp:60<z:=by have:¬z<=60:=fun h=>cQ ⟨rfl,rfl,c3,c4,rfl,h⟩;omega
  simp[rL,aE,hk];exact cB
def ql(o:a1 (List (List ah)×List (List ah))):al:=match o with
 |some (a,ms)=>.tuple [.slice 1 .no (cl a),.int .i64 ms.length,.bool true]
 |none=>.tuple [.slice 1 .no [],.int .i64 0,.bool false]
def j8(ns out:List (List ah)):List (aO×dU):=[(.loc 0,⟨ns.length,9,1,none⟩),(.loc 1,⟨out.length,9,1,none⟩)]
def pU(l:List (List ah))(i:Nat)(x:List (List ah)×List (List ah)):a6:=⟨[(5,.slice 1 (.own (.loc 0)) (cl x.1)),(6,.slice 1 (.own (.loc 1)) (cl x.2)),(14,.slice 1 .no (cl l)),(15,.int .i64 l.length),(16,.int .i64 i)],[],j8 x.1 x.2,2,[]⟩
def qM(l:List (List ah))(i:Nat)(ns out:List (List ah))(w:List ah)(k:Nat):a6:=⟨[(5,.slice 1 (.own (.loc 0)) (cl ns)),(6,.slice 1 (.own (.loc 1)) (cl out)),(8,.str w),(11,.int .i64 k),(14,.slice 1 .no (cl l)),(15,.int .i64 l.length),(16,.int .i64 i)],[],j8 ns out,2,[]⟩
theorem JX{α:Type}[BEq α][LawfulBEq α]{w:α}:∀{ns:List α} {k:Nat},ns[k]? =some w->(∀m,m<k->ns[m]?≠some w)->ns.idxOf w=k
 |x::ns,0,h,_=>by simp at h;subst h;simp
 |x::ns,k+1,h,aJ=>by
  have bK:=aJ 0 Ω;simp at bK;have ao:(x==w)=false:=by simpa using bK
  have aE:=JX (ns:=ns) (k:=k) (by simpa using h) fun m hm=>by simpa using aJ (m+1) Ω
  rw[List.idxOf_cons,ao,aE];rfl
 |[],k,h,_=>by simp at h
theorem RE{α:Type}[BEq α][LawfulBEq α]{w:α}:∀{ns:List α},(∀m,m<ns.length->ns[m]?≠some w)->w∉ns/\ns.idxOf w=ns.length:=by
 intro ns h;have:w∉ns:=fun hm=>by obtain⟨k,aa⟩:=List.getElem?_of_mem hm;exact h k (eV.1 aa).1 aa
 exact⟨this,List.idxOf_eq_length this⟩
set_option maxRecDepth 8000 in
theorem aie(l:List (List ah))(aG:l.length<=100000)(hw:∀w∈l,w≠[]):ct aQ 173 [.slice 1 .no (cl l)] (ql (num [] l)):=by
 obtain⟨R,bH⟩:∃R,R=ql (num [] l):=⟨_,rfl⟩;rw[<-bH];have nI:ak (fun _=>dD) R:=by rw[bH];unfold ql;split<;>simp[ak,aj]
 refine bW jI aah afW (fun aL=>?_) (hr:=nI);unfold OA;clear aL;simp;(with_reducible repeat' first|refine av ?_|simp);refine gP (pU l) l.length (fun i x=>ql ((num x.1 (l.drop i)).map fun y=>(x.2++y.1,y.2))=R/\x.1.length<=i/\x.2.length<=i) ([],[]) (by simp[pU,j8,pE];exact⟨by simp[fresh,aj,ak,bj,ag,Pv.look,dO],cg (by simp[fresh,aj,ak,bj,ag,Pv.look,dO]),ch (by simp[fresh,aj,ak,cc,ag,Pv.look,dO]),Ψ⟩) ⟨by rw[bH];simp,Ψ,Ψ⟩ (fun x aD _=>?_) (fun i x aE aD _=>?_)
 ·obtain⟨ns,out⟩:=x;obtain⟨aD,_,_⟩:=aD;simp only[kG,num,oa,ql,mg]at aD;subst aD;clear bH;simp[pU,j8];exact cB
 obtain⟨ns,out⟩:=x;obtain⟨aD,mF,uV⟩:=aD;simp only at aD mF uV;obtain⟨w,ad⟩:∃v,l[i]? =some v:=⟨_,cS aE⟩;have eR:∀cp,((cl l)[i]'cp)= .str w:=fun cp=>by rw[mc aE];rw[cS aE]at ad;rw[hd ad]
 have tL:=hw w (fq ad);have cb:aZ ((i:Int)+1):=by unfold aZ;omega
 have tG:out.length+1<=bs:=by unfold bs;omega
 have js:ns.length+1<=bs:=by unfold bs;omega
 rw[fH ad]at aD;clear bH;rcases FD w with⟨s,rfl⟩|aK;rotate_left
 ·rw[iF _ _ _ aK,Option.map_map]at aD;have eZ:ql ((num ns (l.drop (i+1))).map fun y=>((out++[w])++y.1,y.2))=R:=by rw[<-aD];congr 2;funext y;simp
  obtain⟨c,r,rfl⟩:∃c r,w=c::r:=by
   cases w with
   |nil=>exact absurd rfl tL
   |cons c r=>exact⟨c,r,rfl⟩
  have ao:((c.toNat:Int) !=63)=true:=w6 (d:=63) fun h=>aK r (by rw[h]);have ya:(0:Int)<(r.length:Int)+1:=Ω
  clear aD aK;simp[pU,j8,aE];(with_reducible repeat' first|refine av ?_|simp[aE,eR,ad,ao,ya,tG,cb]);refine bU.rng (ns,out++[c::r]) aE ⟨eZ,by simp;omega,by simp;omega⟩ (by simp[pU,j8,ub,oW,pE];exact⟨by simp[fresh,aj,ak,bj,ag,Pv.look,bC,dO],cg (by simp[fresh,aj,ak,bj,ag,Pv.look,bC,dO]),ch (by simp[fresh,aj,ak,cc,ag,Pv.look,bC,dO]),Ψ⟩)
 ·rw[Ah]at aD;have cy:=Ml s;have cU:=gZ s;have ya:(0:Int)<(s.length:Int)+1:=Ω
  have wq:(1:Int)<=(s.length:Int)+1:=Ω
  unfold Ao at cy;by_cases q6:sT s=true;rotate_left
  ·rw[bo q6]at aD;simp only[Option.map_none,ql]at aD;subst aD;unfold sT at q6;rw[Bool.or_eq_true,not_or]at q6;obtain⟨I,J⟩:=q6;rw[Bool.not_eq_true]at I;rw[I]at cU;cases bn:gw s with
   |none=>rw[bn]at cy;simp only[Option.getD_none,um]at cy;clear J;simp[pU,j8,aE];exact cB
   |some n=>rw[bn]at cy J;simp only[qE,Option.isSome_some,ea]at cy J;have ey:=et n 0 100000;rw[decide_eq_false J]at ey;clear J;simp[pU,j8,aE];exact cB
  rw[bP q6]at aD;rw[Option.map_map]at aD;cases iD:fA s
  ·rw[iD]at cU;obtain⟨n,Rk,Ra⟩:∃n,gw s=some n/\(0<=n/\n<=100000):=by
    unfold sT at q6;rw[iD,Bool.false_or]at q6;split at q6
    ·rename_i n h;exact⟨n,h,by simpa using q6⟩
    ·cases q6
   rw[Rk]at cy;simp only[qE,Option.isSome_some]at cy;have ey:=et n 0 100000;rw[nD Ra]at ey;clear q6 Rk Ra;simp[pU,j8,aE];(with_reducible repeat' first|refine av ?_|refine ba cy ?_|refine bb cy ?_|refine ba cU ?_|refine bb cU ?_|refine ba ey ?_|refine bb ey ?_|simp[aE,eR,ad,ya,wq]);refine gf (qM l i ns out (63::s)) (fun k=>ns.length-k) (fun k=>k<=ns.length/\∀m,m<k->ns[m]?≠some (63::s)) 0 (by simp[qM,j8];exact⟨by simp[fresh,aj,ak,bj,ag,Pv.look,dO],cg (by simp[fresh,aj,ak,bj,ag,Pv.look,dO]),ch (by simp[fresh,aj,ak,cc,ag,Pv.look,dO]),Ψ⟩) ⟨Ω,fun m h=>Ω⟩ ?_;rintro k ⟨aa,k3⟩ _;rcases jJ aa with rfl|e2
   ·obtain⟨I,J⟩:=RE k3;rw[bo I,J]at aD;have en:aZ (ns.length:Int):=by unfold aZ;omega
    have cZ:=yQ (ns.length:Int) en;have h2:(Lib.itoa (ns.length:Int)).length+1<=bs:=by have:=yg en;unfold bs;omega
    have xY:1+(Lib.itoa (ns.length:Int)).length<=bs:=Ω
    have eZ:ql ((num (ns++[63::s]) (l.drop (i+1))).map fun y=>((out++[63::Lib.itoa (ns.length:Int)])++y.1,y.2))=R:=by rw[<-aD];congr 2;funext y;simp
    clear aD k3 I J;simp[qM,j8];(with_reducible repeat' first|refine av ?_|refine ba cZ ?_|refine bb cZ ?_|simp[h2,xY,tG,js,cb]);refine bU.rng (ns++[63::s],out++[63::Lib.itoa (ns.length:Int)]) aE ⟨eZ,by simp;omega,by simp;omega⟩ (by simp[pU,j8,ub,oW,pE];exact⟨by simp[fresh,aj,ak,bj,ag,Pv.look,bC,dO],cg (by simp[fresh,aj,ak,bj,ag,Pv.look,bC,dO]),ch (by simp[fresh,aj,ak,cc,ag,Pv.look,bC,dO]),Ψ⟩)
   ·obtain⟨u,hu⟩:∃v,ns[k]? =some v:=⟨_,cS e2⟩;have ki:∀cp,((cl ns)[k]'cp)= .str u:=fun cp=>by rw[mc e2];rw[cS e2]at hu;rw[hd hu]
    have iM:(k:Int)<ns.length:=Ω
    have k2:aZ ((k:Int)+1):=by unfold aZ;omega
    by_cases he:u=63::s
    ·subst he;have J:=JX hu k3;rw[bP (fq hu),J]at aD;have en:aZ (k:Int):=by unfold aZ;omega
     have cZ:=yQ (k:Int) en;have h2:(Lib.itoa (k:Int)).length+1<=bs:=by have:=yg en;unfold bs;omega
     have xY:1+(Lib.itoa (k:Int)).length<=bs:=Ω
     have cD:((k:Int)==ns.length)=false:=jy.2 Ω;have eZ:ql ((num ns (l.drop (i+1))).map fun y=>((out++[63::Lib.itoa (k:Int)])++y.1,y.2))=R:=by rw[<-aD];congr 2;funext y;simp
     clear aD k3 J;simp[qM,j8];(with_reducible repeat' first|refine av ?_|refine ba cZ ?_|refine bb cZ ?_|simp[e2,iM,ki,hu,cD,h2,xY,tG,cb]);refine bU.rng (ns,out++[63::Lib.itoa (k:Int)]) aE ⟨eZ,by simp;omega,by simp;omega⟩ (by simp[pU,j8,ub,oW,pE];exact⟨by simp[fresh,aj,ak,bj,ag,Pv.look,bC,dO],cg (by simp[fresh,aj,ak,bj,ag,Pv.look,bC,dO]),ch (by simp[fresh,aj,ak,cc,ag,Pv.look,bC,dO]),Ψ⟩)
    ·have ao:=re he;have Jl:∀m,m<k+1->ns[m]?≠some (63::s):=fun m hm=>by
      rcases lU m k with h|h
      ·exact k3 m h
      ·obtain rfl:m=k:=Ω
       rw[hu];simpa using he
     clear aD k3;simp[qM,j8];((with_reducible repeat' first|refine av ?_|simp[e2,iM,ki,hu,ao,k2]|((first|apply cN|apply cP|apply cO)<;>intro h<;>try simp at h))<;>(try exact dr));refine bU.whl (k+1) Ω ⟨e2,Jl⟩ (by simp[qM,j8];exact⟨by simp[fresh,aj,ak,bj,ag,Pv.look,dO],cg (by simp[fresh,aj,ak,bj,ag,Pv.look,dO]),ch (by simp[fresh,aj,ak,cc,ag,Pv.look,dO]),Ψ⟩)
  ·rw[iD]at cU;generalize (gw s).getD 0=cz at cy;generalize (gw s).isSome=db at cy;clear q6;simp[pU,j8,aE];(with_reducible repeat' first|refine av ?_|refine ba cy ?_|refine bb cy ?_|refine ba cU ?_|refine bb cU ?_|simp[aE,eR,ad,ya,wq]);refine gf (qM l i ns out (63::s)) (fun k=>ns.length-k) (fun k=>k<=ns.length/\∀m,m<k->ns[m]?≠some (63::s)) 0 (by simp[qM,j8];exact⟨by simp[fresh,aj,ak,bj,ag,Pv.look,dO],cg (by simp[fresh,aj,ak,bj,ag,Pv.look,dO]),ch (by simp[fresh,aj,ak,cc,ag,Pv.look,dO]),Ψ⟩) ⟨Ω,fun m h=>Ω⟩ ?_;rintro k ⟨aa,k3⟩ _;rcases jJ aa with rfl|e2
   ·obtain⟨I,J⟩:=RE k3;rw[bo I,J]at aD;have en:aZ (ns.length:Int):=by unfold aZ;omega
    have cZ:=yQ (ns.length:Int) en;have h2:(Lib.itoa (ns.length:Int)).length+1<=bs:=by have:=yg en;unfold bs;omega
    have xY:1+(Lib.itoa (ns.length:Int)).length<=bs:=Ω
    have eZ:ql ((num (ns++[63::s]) (l.drop (i+1))).map fun y=>((out++[63::Lib.itoa (ns.length:Int)])++y.1,y.2))=R:=by rw[<-aD];congr 2;funext y;simp
    clear aD k3 I J;simp[qM,j8];(with_reducible repeat' first|refine av ?_|refine ba cZ ?_|refine bb cZ ?_|simp[h2,xY,tG,js,cb]);refine bU.rng (ns++[63::s],out++[63::Lib.itoa (ns.length:Int)]) aE ⟨eZ,by simp;omega,by simp;omega⟩ (by simp[pU,j8,ub,oW,pE];exact⟨by simp[fresh,aj,ak,bj,ag,Pv.look,bC,dO],cg (by simp[fresh,aj,ak,bj,ag,Pv.look,bC,dO]),ch (by simp[fresh,aj,ak,cc,ag,Pv.look,bC,dO]),Ψ⟩)
   ·obtain⟨u,hu⟩:∃v,ns[k]? =some v:=⟨_,cS e2⟩;have ki:∀cp,((cl ns)[k]'cp)= .str u:=fun cp=>by rw[mc e2];rw[cS e2]at hu;rw[hd hu]
    have iM:(k:Int)<ns.length:=Ω
    have k2:aZ ((k:Int)+1):=by unfold aZ;omega
    by_cases he:u=63::s
    ·subst he;have J:=JX hu k3;rw[bP (fq hu),J]at aD;have en:aZ (k:Int):=by unfold aZ;omega
     have cZ:=yQ (k:Int) en;have h2:(Lib.itoa (k:Int)).length+1<=bs:=by have:=yg en;unfold bs;omega
     have xY:1+(Lib.itoa (k:Int)).length<=bs:=Ω
     have cD:((k:Int)==ns.length)=false:=jy.2 Ω;have eZ:ql ((num ns (l.drop (i+1))).map fun y=>((out++[63::Lib.itoa (k:Int)])++y.1,y.2))=R:=by rw[<-aD];congr 2;funext y;simp
     clear aD k3 J;simp[qM,j8];(with_reducible repeat' first|refine av ?_|refine ba cZ ?_|refine bb cZ ?_|simp[e2,iM,ki,hu,cD,h2,xY,tG,cb]);refine bU.rng (ns,out++[63::Lib.itoa (k:Int)]) aE ⟨eZ,by simp;omega,by simp;omega⟩ (by simp[pU,j8,ub,oW,pE];exact⟨by simp[fresh,aj,ak,bj,ag,Pv.look,bC,dO],cg (by simp[fresh,aj,ak,bj,ag,Pv.look,bC,dO]),ch (by simp[fresh,aj,ak,cc,ag,Pv.look,bC,dO]),Ψ⟩)
    ·have ao:=re he;have Jl:∀m,m<k+1->ns[m]?≠some (63::s):=fun m hm=>by
      rcases lU m k with h|h
      ·exact k3 m h
      ·obtain rfl:m=k:=Ω
       rw[hu];simpa using he
     clear aD k3;simp[qM,j8];((with_reducible repeat' first|refine av ?_|simp[e2,iM,ki,hu,ao,k2]|((first|apply cN|apply cP|apply cO)<;>intro h<;>try simp at h))<;>(try exact dr));refine bU.whl (k+1) Ω ⟨e2,Jl⟩ (by simp[qM,j8];exact⟨by simp[fresh,aj,ak,bj,ag,Pv.look,dO],cg (by simp[fresh,aj,ak,bj,ag,Pv.look,dO]),ch (by simp[fresh,aj,ak,cc,ag,Pv.look,dO]),Ψ⟩)
def Gp:Rl:=⟨[],0,0,my⟩
theorem Au:Gp.e= .agg [.str [],.int .i64 0,.int .i64 0,.int .i64 0,.str [],.slice 4 .no [],.slice 4 .no []]:=rfl
def A1(o:a1 Rl)(r:al)(aq:dF):Prop:=aq=⟨[],[]⟩/\match o with
 |some x=>r= .tuple [x.e,.bool true]
 |none=> ∃x:Rl,r= .tuple [x.e,.bool false]
theorem bL.df{e6:List cu}{e:Exit}{st:a6}(o:a1 Rl)(x:al)(b:Bool)(k0:e= .ret\/e= .normal)(jm:A1 o (.tuple [x,.bool b]) ⟨[],[]⟩)(aa:ak (fun _=>dD) x)(h:bV st e6 fun r=>r= .tuple [x,.bool b]):bL e6 ⟨[],[]⟩ (A1 o) e st:=by
 refine bL.at ⟨[],[]⟩ k0 gF (Same.refl _) (fun k cs h=>by simp[Pv.look]at h) (fun k cs h=>by simp[Pv.look]at h) ?_;unfold bV at h⊢;split at h
 ·rename_i c b2 hr;refine⟨h.1,?_⟩;rw[h.2];refine⟨?_,jm⟩;simp only[ak,aj,and_true];exact u7 (fun _ h=>h.elim) _ aa
 ·exact h.elim
theorem vH{x:Rl}{p:al}(h:p=x.e):A1 none (.tuple [p,.bool false]) ⟨[],[]⟩:=⟨rfl,x,by rw[h]⟩
theorem Wt{x:Rl}{p:al}(h:p=x.e):A1 (some x) (.tuple [p,.bool true]) ⟨[],[]⟩:=⟨rfl,by rw[h]⟩
theorem SO{l T M:List (List ah)}(h:num [] l=some (T,M)):T.length=l.length:=(wJ l [] T M h).1
theorem KA:∀(l ns T M:List (List ah)),(∀w∈l,w≠[])->num ns l=some (T,M)->(∀w∈T,w≠[])/\M.length<=ns.length+l.length
 |[],ns,T,M,_,h=>by simp only[num,dH,gz]at h;obtain⟨rfl,rfl⟩:=h;simp
 |w::l,ns,T,M,hw,h=>by
  have p9:∀v∈l,v≠[]:=fun v aK=>hw v (by simp[aK]);rcases FD w with⟨s,rfl⟩|aK
  ·rw[Ah]at h;split at h
   ·simp only[hc]at h;obtain⟨⟨w7,w8⟩,ad,e⟩:=h;simp only[gz]at e;obtain⟨rfl,rfl⟩:=e;obtain⟨I,J⟩:=KA l _ w7 w8 p9 ad;refine⟨fun v aK=>?_,?_⟩
    ·rcases gb.1 aK with rfl|aK
     ·simp
     ·exact I v aK
    ·split at J<;>simp at J⊢ <;>omega
   ·cases h
  ·rw[iF _ _ _ aK]at h;simp only[hc]at h;obtain⟨⟨w7,w8⟩,ad,e⟩:=h;simp only[gz]at e;obtain⟨rfl,rfl⟩:=e;obtain⟨I,J⟩:=KA l _ w7 w8 p9 ad;refine⟨fun v aK=>?_,by simp;omega⟩;rcases gb.1 aK with rfl|aK
   ·exact hw _ Ψ
   ·exact I v aK
def vL(T:List (List ah))(c:Int)(name:List ah)(k:Nat):a6:=⟨[(2,.ptr (.loc 0) 0),(4,.slice 1 .no (cl T)),(5,.int .i64 c),(7,.ptr (.loc 1) 0),(8,.int .i64 (4+(k:Int)))],[(.loc 0,[.str [],.int .i64 0,.int .i64 0,.int .i64 0,.str [],.slice 4 .nil [],.slice 4 .nil []]),(.loc 1,[.str name,.int .i64 k,.int .i64 0,.int .i64 0,.str [],.slice 4 .nil [],.slice 4 .nil []])],[],2,[]⟩
set_option maxRecDepth 8000 in
theorem aaW(l:List (List ah))(aG:l.length<=100000)(hw:∀w∈l,w≠[]):bJ aQ 108 [.slice 1 .no (cl l)] ⟨[],[]⟩ (A1 (mX l)):=by
 have cU:=aie l aG hw;obtain⟨O,hK⟩:∃O,O=mX l:=⟨_,rfl⟩;rw[<-hK];unfold mX at hK;cases tF:num [] l with
 |none=>rw[tF]at cU hK;subst hK;simp only[ql]at cU;have au:=gF;refine bJ.mk mixed jI BL C4 Ψ au.obj fun aL bT=>?_;unfold zb;clear aL bT;simp;(with_reducible repeat' first|refine av ?_|refine ba cU ?_|refine bb cU ?_|simp);refine bL.df _ (.agg [.str [],.int .i64 0,.int .i64 0,.int .i64 0,.str [],.slice 4 .no [],.slice 4 .no []]) false Ψ (vH Au.symm) (by simp[ak,aj]) ?_;simp[bV,tW,bg,bh,bf]
 |some x=>
 obtain⟨T,M⟩:=x;rw[tF]at cU hK;simp only[ql]at cU;have aks:=SO tF;obtain⟨abD,abv⟩:=KA l [] T M hw tF;simp only[mh,n9]at abv;have abC:T.length<=100000:=Ω
 by_cases cq:T.length<6
 ·have:O=none:=by
   rw[hK];match T,cq with
   |[],_=>rfl
   |[a],_=>rfl
   |[a,b],_=>rfl
   |[a,b,c],_=>rfl
   |[a,b,c,d],_=>simp[hp]
   |[a,b,c,d,e],_=>
    simp only;split
    ·have:∀k r,hp 0 [e]=some (k,r)->r=[]:=fun k r h=>by
      simp only[hp]at h;split at h
      ·cases h;rfl
      ·split at h<;>cases h
     cases bn:hp 0 [e]with
     |none=>rfl
     |some y=>obtain⟨k,r⟩:=y;have:=this k r bn;subst this;simp[ed]
    ·rfl
  subst this;have zy:(T.length:Int)<6:=Ω
  clear hK;have au:=gF;refine bJ.mk mixed jI BL C4 Ψ au.obj fun aL bT=>?_;unfold zb;clear aL bT;simp;(with_reducible repeat' first|refine av ?_|refine ba cU ?_|refine bb cU ?_|simp[zy]);refine bL.df _ (.agg [.str [],.int .i64 0,.int .i64 0,.int .i64 0,.str [],.slice 4 .no [],.slice 4 .no []]) false Ψ (vH Au.symm) (by simp[ak,aj]) ?_;simp[bV,tW,bg,bh,bf]
 have zy:¬(T.length:Int)<6:=Ω
 obtain⟨t0,t1,t2,t3,Vm,rfl⟩:∃a b c d e,T=a::b::c::d::e:=by
  match T,cq with
  |a::b::c::d::e,_=>exact⟨a,b,c,d,e,rfl⟩
  |[],h=>simp at h
  |[a],h=>simp at h
  |[a,b],h=>simp at h
  |[a,b,c],h=>simp at h
 simp only at hK;generalize BX:t0::t1::t2::t3::Vm=T at*;have g1:T[1]? =some t1:=by rw[<-BX];rfl
 have g2:T[2]? =some t2:=by rw[<-BX];rfl
 have g3:T[3]? =some t3:=by rw[<-BX];rfl
 have Rs:Vm=T.drop 4:=by rw[<-BX];rfl
 rw[Rs]at hK;have lI:1<T.length:=Ω
 have du:2<T.length:=Ω
 have FM:3<T.length:=Ω
 have s1:∀cp,((cl T)[1]'cp)= .str t1:=fun cp=>by rw[mc lI];rw[cS lI]at g1;rw[hd g1]
 have s2:∀cp,((cl T)[2]'cp)= .str t2:=fun cp=>by rw[mc du];rw[cS du]at g2;rw[hd g2]
 have AH:∀cp,((cl T)[3]'cp)= .str t3:=fun cp=>by rw[mc FM];rw[cS FM]at g3;rw[hd g3]
 have i1:(1:Int)<T.length:=Ω
 have i2:(2:Int)<T.length:=Ω
 have i3:(3:Int)<T.length:=Ω
 clear BX tF Rs;by_cases aP:t1=ha;rotate_left
 ·have:O=none:=by rw[hK,bo fun h=>aP h.1]
  subst this;have ao:(t1 != [100,101,102,105,110,101])=true:=re aP;clear hK;have au:=gF;refine bJ.mk mixed jI BL C4 Ψ au.obj fun aL bT=>?_;unfold zb;clear aL bT;simp;((with_reducible repeat' first|refine av ?_|refine ba cU ?_|refine bb cU ?_|simp[zy,lI,i1,s1,g1,ao]|((first|apply cN|apply cP|apply cO)<;>intro h<;>try simp at h))<;>(try exact dr));refine bL.df _ (.agg [.str [],.int .i64 0,.int .i64 0,.int .i64 0,.str [],.slice 4 .no [],.slice 4 .no []]) false Ψ (vH Au.symm) (by simp[ak,aj]) ?_;simp[bV,tW,bg,bh,bf]
 by_cases EW:t2=[40];rotate_left
 ·have:O=none:=by rw[hK,bo fun h=>EW h.2]
  subst this;have ao:=re EW;unfold ha at aP;clear hK;have au:=gF;refine bJ.mk mixed jI BL C4 Ψ au.obj fun aL bT=>?_;unfold zb;clear aL bT;simp;((with_reducible repeat' first|refine av ?_|refine ba cU ?_|refine bb cU ?_|simp[zy,lI,i1,s1,g1,aP,du,i2,s2,g2,ao]|((first|apply cN|apply cP|apply cO)<;>intro h<;>try simp at h))<;>(try exact dr));refine bL.df _ (.agg [.str [],.int .i64 0,.int .i64 0,.int .i64 0,.str [],.slice 4 .no [],.slice 4 .no []]) false Ψ (vH Au.symm) (by simp[ak,aj]) ?_;simp[bV,tW,bg,bh,bf]
 rw[bP ⟨aP,EW⟩]at hK;unfold ha at aP;subst EW;have au:=gF;refine bJ.mk mixed jI BL C4 Ψ au.obj fun aL bT=>?_;unfold zb;clear aL bT;simp;(with_reducible repeat' first|refine av ?_|refine ba cU ?_|refine bb cU ?_|simp[zy,lI,i1,s1,g1,aP,du,i2,s2,g2,FM,i3,AH,g3]);clear i1 i2 i3 s1 s2 AH lI du FM g1 g2 g3 zy;refine gf (vL T M.length t3) (fun k=>T.length-(4+k)) (fun k=>4+k<=T.length/\hp k (T.drop (4+k))=hp 0 (T.drop 4)) 0 (by simp[vL];exact⟨by simp[fresh,aj,ak,bj,ag,Pv.look,dO],cg (by simp[fresh,aj,ak,bj,ag,Pv.look,dO]),ch (by simp[fresh,aj,ak,cc,ag,Pv.look,dO]),Ψ⟩) ⟨Ω,rfl⟩ ?_;rintro k ⟨aa,nR⟩ _;have en:aZ (k:Int):=by unfold aZ;omega
 have cZ:=yQ (k:Int) en;have h2:(Lib.itoa (k:Int)).length+1<=bs:=by have:=yg en;unfold bs;omega
 rcases jJ aa with xZ|e2
 ·have:O=none:=by rw[hK,<-nR,xZ,kG];rfl
  subst this;have iK:¬(4+(k:Int))<T.length:=Ω
  have acm:(T.length:Int)<=4+(k:Int):=Ω
  clear hK nR cZ;simp[vL];(with_reducible repeat' first|refine av ?_|simp[iK,acm]);refine bL.df _ (.agg [.str [],.int .i64 0,.int .i64 0,.int .i64 0,.str [],.slice 4 .no [],.slice 4 .no []]) false Ψ (vH Au.symm) (by simp[ak,aj]) ?_;simp[bV,tW,bg,bh,bf]
 obtain⟨w,ad⟩:∃v,T[4+k]? =some v:=⟨_,cS e2⟩;have eR:∀cp,((cl T)[4+k]'cp)= .str w:=fun cp=>by rw[mc e2];rw[cS e2]at ad;rw[hd ad]
 have c8:(4+(k:Int))<T.length:=Ω
 have c2:¬(T.length:Int)<=4+(k:Int):=Ω
 have c3:(0:Int)<=4+(k:Int):=Ω
 have c4:(4+(k:Int)).toNat=4+k:=Ω
 have c5:aZ (4+(k:Int)+1):=by unfold aZ;omega
 have iW:aZ ((k:Int)+1):=by unfold aZ;omega
 rw[fH ad]at nR;have Rw:hp k (w::T.drop (4+k+1))=if w=[41]then some ((k:Int),T.drop (4+k+1))else if w=63::Lib.itoa (k:Int)then hp ((k:Int)+1) (T.drop (4+k+1))else none:=rfl
 rw[Rw]at nR;clear Rw;by_cases aK:w=63::Lib.itoa (k:Int)
 ·have e1:w≠[41]:=by rw[aK];simp
  rw[bo e1,bP aK]at nR;have ao:(w==63::Lib.itoa (k:Int))=true:=by simpa using aK
  have eZ:hp ((k+1:Nat):Int) (T.drop (4+(k+1)))=hp 0 (T.drop 4):=nR;clear nR hK aK e1;simp[vL];(with_reducible repeat' first|refine av ?_|refine ba cZ ?_|refine bb cZ ?_|simp[c8,c3,c4,e2,eR,ad,h2,ao,c5,iW]);refine bU.whl (k+1) Ω ⟨Ω,eZ⟩ (by simp[vL,pP];exact⟨by simp[fresh,aj,ak,bj,ag,Pv.look,dO],cg (by simp[fresh,aj,ak,bj,ag,Pv.look,dO]),ch (by simp[fresh,aj,ak,cc,ag,Pv.look,dO]),Ψ⟩)
 have h6:=vg aK;by_cases e1:w=[41];rotate_left
 ·rw[bo e1,bo aK]at nR;have:O=none:=by rw[hK,<-nR]
  subst this;have ao:=re e1;clear hK nR;simp[vL];((with_reducible repeat' first|refine av ?_|refine ba cZ ?_|refine bb cZ ?_|simp[c8,c2,c3,c4,e2,eR,ad,h2,h6,ao,c5,iW]|((first|apply cN|apply cP|apply cO)<;>intro h<;>try simp at h))<;>(try exact dr));refine bL.df _ (.agg [.str [],.int .i64 0,.int .i64 0,.int .i64 0,.str [],.slice 4 .no [],.slice 4 .no []]) false Ψ (vH Au.symm) (by simp[ak,aj]) ?_;simp[bV,tW,bg,bh,bf]
 subst e1;rw[bP rfl]at nR;rw[<-nR]at hK;simp only at hK;have dP:=aaY T abC abD (2*(T.length-(4+k+1))+1) (4+k+1) Ω (c7 _);rw[show(2*(T.drop (4+k+1)).length+1)=2*(T.length-(4+k+1))+1 by rw[hG]]at hK;have IX:((4+k+1:Nat):Int)=4+(k:Int)+1:=Ω
 rw[IX]at dP;have uU:aZ ((M.length:Int)-(k:Int)):=by unfold aZ;omega
 have JL:aZ ((T.length:Int)-1):=by unfold aZ;omega
 clear nR;cases eb:ed jw Go.Pv.hdS (2*(T.length-(4+k+1))+1) (T.drop (4+k+1))with
 |none=>rw[eb]at dP hK;simp only at hK;subst hK;simp[vL];(with_reducible repeat' first|refine av ?_|refine ba cZ ?_|refine bb cZ ?_|simp[c8,c2,c3,c4,e2,eR,ad,h2,h6,c5,iW]);refine bc.ob dP gF (fun k cs h=>by simp[Pv.look]at h) (fun k cs h=>by simp[Pv.look]at h) (by simp[aj,ak]) ?_;rintro r aq ⟨rfl,g,q,rfl⟩;refine⟨Same.refl _,?_⟩;simp[aX];(with_reducible repeat' first|refine av ?_|simp[uU,JL]);refine bL.df _ (.agg [.str t3,.int .i64 k,.int .i64 ((M.length:Int)-k),.int .i64 g.kind,.str g.name,.slice 4 .no (g.ts.map enc),.slice 4 .no (g.gs.map Gm.e)]) false Ψ (vH (x:=⟨t3,k,(M.length:Int)-k,g⟩) rfl) (by simp[ak,aj]) ?_;simp[bV,tW,bg,bh,bf]
 |some x=>
  obtain⟨g,rest⟩:=x;rw[eb]at dP hK;have JK:=(yx DE _ _ _ _ eb).1.length_le;rw[hG]at JK;simp[vL];(with_reducible repeat' first|refine av ?_|refine ba cZ ?_|refine bb cZ ?_|simp[c8,c2,c3,c4,e2,eR,ad,h2,h6,c5,iW]);refine bc.ob dP gF (fun k cs h=>by simp[Pv.look]at h) (fun k cs h=>by simp[Pv.look]at h) (by simp[aj,ak]) ?_;rintro r aq ⟨rfl,rfl⟩;refine⟨Same.refl _,?_⟩;simp[aX];by_cases I:rest.length=1
  ·obtain⟨u,rfl⟩:∃u,rest=[u]:=List.length_eq_one_iff.1 I;simp only at hK;subst hK;have bA:(((T.length-1:Nat):Int)==(T.length:Int)-1)=true:=by simp;omega
   (with_reducible repeat' first|refine av ?_|simp[uU,JL,bA]);refine bL.df _ (.agg [.str t3,.int .i64 k,.int .i64 ((M.length:Int)-k),.int .i64 g.kind,.str g.name,.slice 4 .no (g.ts.map enc),.slice 4 .no (g.gs.map Gm.e)]) true Ψ (Wt (x:=⟨t3,k,(M.length:Int)-k,g⟩) rfl) (by simp[ak,aj]) ?_;simp[bV,tW,bg,bh,bf]
  ·have:O=none:=by
    rw[hK];match rest,I with
    |[],_=>rfl
    |a::b::c,_=>rfl
    |[a],h=>simp at h
   subst this;have bA:(((T.length-rest.length:Nat):Int)==(T.length:Int)-1)=false:=jy.2 Ω;clear hK;(with_reducible repeat' first|refine av ?_|simp[uU,JL,bA]);refine bL.df _ (.agg [.str t3,.int .i64 k,.int .i64 ((M.length:Int)-k),.int .i64 g.kind,.str g.name,.slice 4 .no (g.ts.map enc),.slice 4 .no (g.gs.map Gm.e)]) false Ψ (vH (x:=⟨t3,k,(M.length:Int)-k,g⟩) rfl) (by simp[ak,aj]) ?_;simp[bV,tW,bg,bh,bf]
end
end Go.Proofs.YtlnndmgfngfeiaaGreatDoor
namespace Go.Pv
section
open Go Go.Lib
def nY(s:List ah):a1 (List Rl):=match gG s with
 |none=>none
 |some l=>nA (lN l.length l)
theorem af3(s:List ah):nY s=match gG s with
  |none=>none
  |some l=>nA (oR l.length l):=by
 unfold nY;split
 ·rfl
 ·rw[aga]
theorem aeX{n k:Nat}{w:List ah}(h:w∈dz k n):jd w:=by obtain⟨i,_,_,rfl⟩:=Gl n k w h;exact KG _
theorem aeW{x:Rl}(aJ:eS x.name=true)(ao:x.body.shape=true):jd (tt x):=by
 unfold tt;refine nV (nV (nV (nV (nV (nV ?_ ?_) ?_) ?_) ?_) (F9 _ ao)) ?_
 ·unfold jd;decide
 ·unfold jd;decide
 ·unfold jd;decide
 ·refine KF _ fun w hw=>?_;rcases gb.1 hw with rfl|hw
  ·exact Ga (vq aJ)
  ·exact aeX hw
 ·unfold jd;decide
 ·unfold jd;decide
theorem SZ:∀P:List Rl,(∀x∈P,eS x.name=true/\x.body.shape=true)->jd (hi P)
 |[],_=>fun _ h=>by cases h
 |x::P,h=>by rw[hi];exact nV (aeW (h x Ψ).1 (h x Ψ).2) (SZ P fun y bB=>h y (by simp[bB]))
theorem V4:∀P:List Rl,P.length<=(nB P).length
 |[]=>c7 _
 |x::P=>by have:=V4 P;simp only[nB,uh,fU,ga];omega
theorem Tv{P:List Rl}(h:gC P=true){r:List ah}(hr:dp r=[])(ao:jd r)(aG:(hi P).length+r.length<=100000)(hw:(nB P).length<=20000):nY (hi P++r)=some (P.map Rl.num):=by
 have aR:∀x∈P,eS x.name=true/\x.body.shape=true:=fun x ad=>⟨(nv h ad).1,(nv h ad).2.2.1⟩;have aI:dp (hi P++r)=nB P:=by rw[GZ P r aR,hr,mg]
 have I:gG (hi P++r)=some (nB P):=by unfold gG;rw[aI,bP ⟨by rw[fU];omega,nV (SZ P aR) ao,hw⟩]
 have J:=agT h (n:=(nB P).length) (V4 P) hr;rw[aI]at J;unfold nY;rw[I];exact J
end
end Go.Pv
namespace Go.Proofs.YtlnndmgfngfeiaaGreatDoor
section
open Go Go.Pv
def je(o:a1 (List Rl)):al:=match o with
 |some P=>.tuple [ho P,.bool true]
 |none=>.tuple [ho [],.bool false]
@[simp]theorem ai7:al.agg [.slice 7 .no []]=ho []:=rfl
@[simp]theorem ai8(a:Rl)(eX:List Rl):al.agg [.slice 7 .no (a.e::eX.map Rl.e)]=ho (a::eX):=rfl
theorem X7(w:List ah): -1<=fv w/\fv w<=1:=by unfold fv;split<;>(try split)<;>omega
theorem If(a:List (List ah))(w:List ah):ej (a++[w])=ej a+fv w:=by
 induction a with
 |nil=>simp[ej]
 |cons x a bp=>simp only[ds,ej,bp];omega
theorem Pc:∀l:List (List ah),-(l.length:Int)<=ej l/\ej l<=l.length
 |[]=>by simp[ej]
 |w::l=>by have:=X7 w;have:=Pc l;simp only[ej,ga];omega
def iV(l:List (List ah))(i:Nat):List Rl×Nat×Int->a6
 |([],fr,d)=>⟨[(2,.ptr (.loc 0) 0),(4,.slice 1 .no (cl l)),(6,.ptr (.loc 1) 0),(7,.int .i64 fr),(8,.int .i64 d),(22,.slice 1 .no (cl l)),(23,.int .i64 l.length),(24,.int .i64 i)],[(.loc 0,[.slice 7 .nil []]),(.loc 1,[.slice 7 .nil []])],[],2,[]⟩
 |(x::xs,fr,d)=>⟨[(2,.ptr (.loc 0) 0),(4,.slice 1 .no (cl l)),(6,.ptr (.loc 1) 0),(7,.int .i64 fr),(8,.int .i64 d),(22,.slice 1 .no (cl l)),(23,.int .i64 l.length),(24,.int .i64 i)],[(.loc 0,[.slice 7 .nil []]),(.loc 1,[.slice 7 (.own (.loc 4)) (x.e::xs.map Rl.e)])],[(.loc 4,⟨xs.length+1,86,7,none⟩)],5,[]⟩
structure pT (l:List (List ah)) (R:al) (i:Nat) (x:List Rl×Nat×Int):Prop where
 fr:x.2.1<=i
 d:x.2.2=ej ((l.drop x.2.1).take (i-x.2.1))
 op:∀m,0<m->m<=i-x.2.1->0<ej ((l.drop x.2.1).take m)
 res:∃n,(l.drop x.2.1).length<=n/\je (nA ((oR n (l.drop x.2.1)).map (x.1++ ·)))=R
 len:x.1.length<=x.2.1
theorem pT.zero{l:List (List ah)}{R:al}{n:Nat}(aJ:l.length<=n)(h:je (nA (oR n l))=R):pT l R 0 ([],0,0):=⟨c7 _,rfl,fun m I J=>Ω,⟨n,by simpa using aJ,by simpa using h⟩,Ψ⟩
theorem pT.more{l:List (List ah)}{R:al}{i:Nat}{P:List Rl}{fr:Nat}{d:Int}(h:pT l R i (P,fr,d)){w:List ah}(hw:l[i]? =some w)(aP:0<d+fv w):pT l R (i+1) (P,fr,d+fv w):=by
 obtain⟨I,J,aA,aS,bG⟩:=h;simp only at I J aA aS bG;have e:(l.drop fr).take (i+1-fr)=(l.drop fr).take (i-fr)++[w]:=by rw[show i+1-fr=(i-fr)+1 by omega,kV,lT,show fr+(i-fr)=i by omega,hw];rfl
 refine⟨by simp only;omega,by simp only;rw[e,If,<-J],fun m hm Jo=>?_,aS,bG⟩;simp only at Jo⊢;rcases lU (i-fr) m with bY|iK
 ·have:m=i+1-fr:=Ω
  rw[this,e,If,<-J];exact aP
 ·exact aA m hm iK
theorem pT.end'{l:List (List ah)}{R:al}{i:Nat}{P:List Rl}{fr:Nat}{d:Int}(h:pT l R i (P,fr,d)){w:List ah}(hw:l[i]? =some w)(aP:¬0<d+fv w):
  (mX ((l.drop fr).take (i+1-fr))=none->R=je none)/\∀x,mX ((l.drop fr).take (i+1-fr))=some x->pT l R (i+1) (P++[x],i+1,0):=by
 obtain⟨I,J,aA,⟨n,aS,cq⟩,bG⟩:=h;simp only at I J aA aS bG cq;have aE:=(eV.1 hw).1;have e:(l.drop fr).take (i+1-fr)=(l.drop fr).take (i-fr)++[w]:=by rw[show i+1-fr=(i-fr)+1 by omega,kV,lT,show fr+(i-fr)=i by omega,hw];rfl
 have hlen:((l.drop fr).take (i+1-fr)).length=i+1-fr:=by rw[n7,hG];omega
 have nK:pW 0 (l.drop fr)=some (i+1-fr):=by
  have:=H3 ((l.drop fr).take (i+1-fr)) ((l.drop fr).drop (i+1-fr)) 0 (fun h=>by rw[h]at hlen;simp at hlen;omega) (by rw[e,If,<-J];omega) fun k aa h4=>by rw[hlen]at h4;have:=aA k aa Ω;rw[List.take_take,Nat.min_eq_left Ω];omega
  rwa[List.take_append_drop,hlen]at this
 have fI:(l.drop fr).drop (i+1-fr)=l.drop (i+1):=by rw[List.drop_drop];congr 1;omega
 obtain⟨u,us,hu⟩:∃u us,l.drop fr=u::us:=by
  cases aH:l.drop fr with
  |nil=>rw[aH]at hlen;simp at hlen;omega
  |cons u us=>exact⟨u,us,rfl⟩
 obtain⟨n,rfl⟩:∃m,n=m+1:=⟨n-1,by rw[hu]at aS;simp at aS;omega⟩;have Jz:oR (n+1) (l.drop fr)=match mX ((l.drop fr).take (i+1-fr))with
   |some x=>(oR n (l.drop (i+1))).map (x:: ·)
   |none=>none:=by
  conv=>lhs;rw[hu];unfold oR
  rw[<-hu,nK];simp only[fI];cases mX ((l.drop fr).take (i+1-fr))<;>rfl
 rw[Jz]at cq;constructor
 ·intro aJ;rw[aJ]at cq;exact cq.symm
 ·intro x ad;rw[ad]at cq;have abp:(l.drop (i+1)).length<=n:=by simp only[hG]at aS⊢;omega
  refine⟨c7 _,by simp[ej],fun m hm Jo=>by simp only at Jo;omega,⟨n,abp,?_⟩,by simp;omega⟩;rw[<-cq];simp only[Option.map_map];congr 3;funext y;simp
theorem pT.fin{l:List (List ah)}{R:al}{P:List Rl}{fr:Nat}{d:Int}(h:pT l R l.length (P,fr,d)):(fr<l.length->0<d/\R=je none)/\(fr=l.length->d=0/\R=je (nA (some P))):=by
 obtain⟨I,J,aA,⟨n,aS,cq⟩,bG⟩:=h;simp only at I J aA aS bG cq;constructor
 ·intro bY;have aG:(l.drop fr).length=l.length-fr:=hG ..;refine⟨by rw[J];exact aA _ Ω (c7 _),?_⟩;have nK:pW 0 (l.drop fr)=none:=by
   cases aH:pW 0 (l.drop fr)with
   |none=>rfl
   |some k=>obtain⟨b4,a2,a3,_⟩:=H4 _ _ _ aH;have:=aA k b4 Ω;omega
  obtain⟨u,us,hu⟩:∃u us,l.drop fr=u::us:=by
   cases aH:l.drop fr with
   |nil=>rw[aH]at aG;simp at aG;omega
   |cons u us=>exact⟨u,us,rfl⟩
  have Jz:oR n (l.drop fr)=none:=by
   cases n with
   |zero=>rw[hu];rfl
   |succ n=>
    conv=>lhs;rw[hu];unfold oR
    rw[<-hu,nK]
  rw[Jz]at cq;exact cq.symm
 ·intro he;subst he;refine⟨by rw[J];simp[ej],?_⟩;rw[<-cq,kG];cases n<;>simp[oR]
theorem fi(S:aO->Prop):∀a b:List al,aj S (a++b)↔aj S a/\aj S b
 |[],b=>by simp[aj]
 |x::r,b=>by simp only[ds,aj,fi S r b,and_assoc]
theorem O9(w:List ah):mX [w]=none:=by
 unfold mX;cases h:num [] [w]with
 |none=>rfl
 |some p=>
  obtain⟨T,M⟩:=p;have:=SO h;match T,this with
  |[t],_=>rfl
set_option maxRecDepth 8000 in
theorem ail(s:List ah)(au:s.length<=bs):ct aQ 37 [.str s] (je (nY s)):=by
 have cW:=aio s au;obtain⟨R,bH⟩:∃R,R=je (nY s):=⟨_,rfl⟩;rw[<-bH];have nI:ak (fun _=>dD) R:=by rw[bH];unfold je;split<;>simp[ak,aj]
 rw[af3]at bH;cases aI:gG s with
 |none=>rw[aI]at cW bH;simp only[lk]at cW;simp only[je]at bH;refine bW jI PG Tk (fun aL=>?_) (hr:=nI);unfold HQ;clear aL;simp;(with_reducible repeat' first|refine av ?_|refine ba cW ?_|refine bb cW ?_|simp);rw[bH];simp[b8,rh,bg,bh,bf]
 |some l=>
 rw[aI]at cW bH;simp only[lk]at cW;simp only at bH;have aG:l.length<=20000/\∀w∈l,w≠[]:=by
  unfold gG at aI;split at aI
  ·rename_i h;cases aI;exact⟨h.2.2,AN s.length s (c7 _)⟩
  ·cases aI
 obtain⟨aG,hw⟩:=aG;refine bW jI PG Tk (fun aL=>?_) (hr:=nI);unfold HQ;clear aL;simp;(with_reducible repeat' first|refine av ?_|refine ba cW ?_|refine bb cW ?_|simp);clear cW;refine gP (iV l) l.length (fun i x=>pT l R i x) ([],0,0) (by simp[iV];exact⟨by simp[fresh,aj,ak,bj,ag,Pv.look,dO],cg (by simp[fresh,aj,ak,bj,ag,Pv.look,dO]),ch (by simp[fresh,aj,ak,cc,ag,Pv.look,dO]),Ψ⟩) (pT.zero (c7 _) bH.symm) (fun x aD _=>?_) (fun i x aE aD _=>?_)
 ·obtain⟨P,fr,d⟩:=x;obtain⟨f1,f2⟩:=aD.fin;have l3:=aD.fr;simp only at l3;have cy:=aim P;clear bH aD;rcases lU fr l.length with bY|iK
  ·obtain⟨I,hX⟩:=f1 bY;simp only[je]at hX;have ao:(d !=0)=true:=by simp;omega
   clear f1 f2 cy;cases P with
   |nil=>simp[iV];(with_reducible repeat' first|refine av ?_|simp[ao]);rw[hX];simp[b8,rh,bg,bh,bf]
   |cons a eX=>simp[iV];(with_reducible repeat' first|refine av ?_|simp[ao]);rw[hX];simp[b8,rh,bg,bh,bf]
  ·obtain⟨I,hX⟩:=f2 Ω;subst I;clear f1 f2;cases dS:gC P
   ·rw[dS]at cy;replace hX:R= .tuple [ho [],.bool false]:=by rw[hX];simp[nA,dS,je]
    cases P with
    |nil=>simp[iV];(with_reducible repeat' first|refine av ?_|refine ba cy ?_|refine bb cy ?_|simp);rw[hX];simp[b8,rh,bg,bh,bf]
    |cons a eX=>simp[iV];(with_reducible repeat' first|refine av ?_|refine ba cy ?_|refine bb cy ?_|simp);rw[hX];simp[b8,rh,bg,bh,bf]
   ·rw[dS]at cy;replace hX:R= .tuple [ho P,.bool true]:=by rw[hX];simp[nA,dS,je]
    cases P with
    |nil=>simp[iV];(with_reducible repeat' first|refine av ?_|refine ba cy ?_|refine bb cy ?_|simp);rw[hX];simp[b8,rh,bg,bh,bf]
    |cons a eX=>simp[iV];(with_reducible repeat' first|refine av ?_|refine ba cy ?_|refine bb cy ?_|simp);rw[hX];simp[b8,rh,bg,bh,bf]
 obtain⟨P,fr,d⟩:=x;obtain⟨w,ad⟩:∃v,l[i]? =some v:=⟨_,cS aE⟩;have eR:∀cp,((cl l)[i]'cp)= .str w:=fun cp=>by rw[mc aE];rw[cS aE]at ad;rw[hd ad]
 have cb:aZ ((i:Int)+1):=by unfold aZ;omega
 have l3:=aD.fr;have fx:=aD.len;have fI:=aD.d;simp only at l3 fx fI;have ka:=Pc ((l.drop fr).take (i-fr));rw[<-fI]at ka;have ab5:((l.drop fr).take (i-fr)).length<=20000:=by rw[n7,hG];omega
 have hZ:P.length+1<=bs:=by unfold bs;omega
 have d64:aZ (d+1):=by unfold aZ;omega
 have Ep:aZ (d-1):=by unfold aZ;omega
 have f1:(fr:Int)<=(i:Int)+1:=Ω
 have f2:(i:Int)+1<=l.length:=Ω
 have se:=fun h=>aD.more ad h;obtain⟨qX,r5⟩:_/\_:=⟨fun h=>(aD.end' ad h).1,fun h=>(aD.end' ad h).2⟩;have h8:=aaW ((l.drop fr).take (i+1-fr)) (by rw[n7,hG];omega) fun w p9=>hw w (List.mem_of_mem_drop (List.mem_of_mem_take p9));have k7:((cl l).take (i+1)).drop fr=cl ((l.drop fr).take (i+1-fr)):=by unfold cl;rw[<-List.map_take,<-List.map_drop,List.drop_take]
 have nL:0<=d/\(d=0->(l.drop fr).take (i+1-fr)=[w]):=by
  rcases lU fr i with bY|iK
  ·have:=aD.op (i-fr) (by first|omega|(simp only;omega)) (by first|omega|(simp only;omega));simp only at this;exact⟨Ω,fun h=>Ω⟩
  ·have e:fr=i:=Ω
   subst e;refine⟨by simp[fI,ej],fun _=>?_⟩;rw[show fr+1-fr=1 by omega,List.take_one,List.head?_drop,ad];rfl
 obtain⟨nL,jS⟩:=nL;clear bH aD fI ka ab5;by_cases Mx:w=[40]
 ·subst Mx;have tp:d+fv [40]=d+1:=by simp[fv]
  rw[tp]at se;have aP:0<d+1:=Ω
  have eZ:=se aP;clear se qX r5 h8 k7 tp jS;cases P with
  |nil=>simp[iV,aE];(with_reducible repeat' first|refine av ?_|simp[aE,eR,ad,d64,aP,nL,cb]);refine bU.rng (([]:List Rl),fr,d+1) aE eZ ?_;simp[iV];exact⟨by simp[fresh,aj,ak,bj,ag,Pv.look,dO],cg (by simp[fresh,aj,ak,bj,ag,Pv.look,dO]),ch (by simp[fresh,aj,ak,cc,ag,Pv.look,dO]),Ψ⟩
  |cons a eX=>simp[iV,aE];(with_reducible repeat' first|refine av ?_|simp[aE,eR,ad,d64,aP,nL,cb]);refine bU.rng (a::eX,fr,d+1) aE eZ ?_;simp[iV];exact⟨by simp[fresh,aj,ak,bj,ag,Pv.look,dO],cg (by simp[fresh,aj,ak,bj,ag,Pv.look,dO]),ch (by simp[fresh,aj,ak,cc,ag,Pv.look,dO]),Ψ⟩
 have su:=vg Mx;by_cases My:w=[41]
 ·subst My;have tp:d+fv [41]=d-1:=by simp[fv];omega
  rw[tp]at se qX r5;by_cases aP:0<d-1
  ·have eZ:=se aP;have ie:1<d:=Ω
   clear se qX r5 h8 k7 tp jS;cases P with
   |nil=>simp[iV,aE];(with_reducible repeat' first|refine av ?_|simp[aE,eR,ad,Ep,aP,ie,cb]);refine bU.rng (([]:List Rl),fr,d-1) aE eZ ?_;simp[iV];exact⟨by simp[fresh,aj,ak,bj,ag,Pv.look,dO],cg (by simp[fresh,aj,ak,bj,ag,Pv.look,dO]),ch (by simp[fresh,aj,ak,cc,ag,Pv.look,dO]),Ψ⟩
   |cons a eX=>simp[iV,aE];(with_reducible repeat' first|refine av ?_|simp[aE,eR,ad,Ep,aP,ie,cb]);refine bU.rng (a::eX,fr,d-1) aE eZ ?_;simp[iV];exact⟨by simp[fresh,aj,ak,bj,ag,Pv.look,dO],cg (by simp[fresh,aj,ak,bj,ag,Pv.look,dO]),ch (by simp[fresh,aj,ak,cc,ag,Pv.look,dO]),Ψ⟩
  replace qX:=qX aP;replace r5:=r5 aP;have aca:d=0\/d=1:=Ω
  clear se tp;cases ly:mX ((l.drop fr).take (i+1-fr))with
  |none=>
   have hX:=qX ly;simp only[je]at hX;clear qX r5 jS;have ie:¬1<d:=Ω
   cases P with
   |nil=>simp[iV,aE];(with_reducible repeat' first|refine av ?_|simp[aE,eR,ad,Ep,aP,ie,cb,f1,f2,k7]);refine bc.ob h8 gF (fun k cs h=>by simp[Pv.look]at h) (fun k cs h=>by simp[Pv.look]at h) (by simp[aj,ak]) ?_;rintro r aq bA;rw[ly]at bA;obtain⟨rfl,x,rfl⟩:=bA;refine⟨Same.refl _,?_⟩;simp[aX];(with_reducible repeat' first|refine av ?_|simp);rw[hX];simp[b8,rh,bg,bh,bf]
   |cons a eX=>simp[iV,aE];(with_reducible repeat' first|refine av ?_|simp[aE,eR,ad,Ep,aP,ie,cb,f1,f2,k7]);refine bc.ob h8 gF (fun k cs h=>by simp[Pv.look]at h) (fun k cs h=>by simp[Pv.look]at h) (by simp[aj,ak]) ?_;rintro r aq bA;rw[ly]at bA;obtain⟨rfl,x,rfl⟩:=bA;refine⟨Same.refl _,?_⟩;simp[aX];(with_reducible repeat' first|refine av ?_|simp);rw[hX];simp[b8,rh,bg,bh,bf]
  |some x=>
   rcases aca with rfl|rfl
   ·rw[jS rfl,O9]at ly;cases ly
   have eZ:=r5 x ly;clear qX r5 jS;have i0:aZ 0:=by unfold aZ;omega
   cases P with
   |nil=>simp[iV,aE];(with_reducible repeat' first|refine av ?_|simp[aE,eR,ad,i0,cb,f1,f2,k7]);refine bc.ob h8 gF (fun k cs h=>by simp[Pv.look]at h) (fun k cs h=>by simp[Pv.look]at h) (by simp[aj,ak]) ?_;rintro r aq bA;rw[ly]at bA;obtain⟨rfl,rfl⟩:=bA;refine⟨Same.refl _,?_⟩;simp[aX];(with_reducible repeat' first|refine av ?_|simp[hZ,cb]);refine bU.rng ([x],i+1,0) aE eZ ?_;simp[iV];exact⟨by simp[fresh,aj,ak,bj,ag,Pv.look,dO,fi],cg (by simp[fresh,aj,ak,bj,ag,Pv.look,dO,fi]),ch (by simp[fresh,aj,ak,cc,ag,Pv.look,dO,fi]),Ψ⟩
   |cons a eX=>simp[iV,aE];(with_reducible repeat' first|refine av ?_|simp[aE,eR,ad,i0,cb,f1,f2,k7]);refine bc.ob h8 gF (fun k cs h=>by simp[Pv.look]at h) (fun k cs h=>by simp[Pv.look]at h) (by simp[aj,ak]) ?_;rintro r aq bA;rw[ly]at bA;obtain⟨rfl,rfl⟩:=bA;refine⟨Same.refl _,?_⟩;simp[aX];(with_reducible repeat' first|refine av ?_|simp[hZ,cb]);refine bU.rng (a::(eX++[x]),i+1,0) aE eZ ?_;simp[iV];exact⟨by simp[fresh,aj,ak,bj,ag,Pv.look,dO,fi],cg (by simp[fresh,aj,ak,bj,ag,Pv.look,dO,fi]),ch (by simp[fresh,aj,ak,cc,ag,Pv.look,dO,fi]),Ψ⟩
 have rb:=vg My;have tp:d+fv w=d:=by unfold fv;simp[Mx,My]
 rw[tp]at se qX r5;by_cases aP:0<d
 ·have eZ:=se aP;clear se qX r5 h8 k7 tp jS;cases P with
  |nil=>simp[iV,aE];(with_reducible repeat' first|refine av ?_|simp[aE,eR,ad,su,rb,aP,cb]);refine bU.rng (([]:List Rl),fr,d) aE eZ ?_;simp[iV];exact⟨by simp[fresh,aj,ak,bj,ag,Pv.look,dO],cg (by simp[fresh,aj,ak,bj,ag,Pv.look,dO]),ch (by simp[fresh,aj,ak,cc,ag,Pv.look,dO]),Ψ⟩
  |cons a eX=>simp[iV,aE];(with_reducible repeat' first|refine av ?_|simp[aE,eR,ad,su,rb,aP,cb]);refine bU.rng (a::eX,fr,d) aE eZ ?_;simp[iV];exact⟨by simp[fresh,aj,ak,bj,ag,Pv.look,dO],cg (by simp[fresh,aj,ak,bj,ag,Pv.look,dO]),ch (by simp[fresh,aj,ak,cc,ag,Pv.look,dO]),Ψ⟩
 have cp:d=0:=Ω
 subst cp;have ly:mX ((l.drop fr).take (i+1-fr))=none:=by rw[jS rfl];exact O9 w
 have hX:=qX aP ly;simp only[je]at hX;clear se tp qX r5 jS;cases P with
 |nil=>simp[iV,aE];(with_reducible repeat' first|refine av ?_|simp[aE,eR,ad,su,rb,cb,f1,f2,k7]);refine bc.ob h8 gF (fun k cs h=>by simp[Pv.look]at h) (fun k cs h=>by simp[Pv.look]at h) (by simp[aj,ak]) ?_;rintro r aq bA;rw[ly]at bA;obtain⟨rfl,x,rfl⟩:=bA;refine⟨Same.refl _,?_⟩;simp[aX];(with_reducible repeat' first|refine av ?_|simp);rw[hX];simp[b8,rh,bg,bh,bf]
 |cons a eX=>simp[iV,aE];(with_reducible repeat' first|refine av ?_|simp[aE,eR,ad,su,rb,cb,f1,f2,k7]);refine bc.ob h8 gF (fun k cs h=>by simp[Pv.look]at h) (fun k cs h=>by simp[Pv.look]at h) (by simp[aj,ak]) ?_;rintro r aq bA;rw[ly]at bA;obtain⟨rfl,x,rfl⟩:=bA;refine⟨Same.refl _,?_⟩;simp[aX];(with_reducible repeat' first|refine av ?_|simp);rw[hX];simp[b8,rh,bg,bh,bf]
end
section
open Go Go.Pv
def NB:C:=(af [fl 3 0,fl 4 1,bZ 6 false] (af [bO 7 1 3,cC 8 50 7,ab 9 8,aF 9 true (bO 10 4 4),aF 9 true (cC 11 115 10),ep 12 9 11,ab 13 12,aF 13 true (bO 14 1 3),aF 13 true (bO 15 4 4),b0 13 true 16 2,aF 13 true (eM 17 118 [.t 14,.t 15,.t 16]),ep 18 13 17,ab 6 18] .ret))
@[simp] def ago:List cu:=[.tmp 6]
def HG:C:=(af [fl 1 0,bZ 2 false] (.seq (af [bm 5 0 1 1,a7 6 1 5,cJ 7 6,bk 8 .gtr 7 8] (bt 8 (af [bZ 2 false] .ret) .skip)) (.seq (af [bm 9 0 1 1,a7 10 1 9,cJ 11 10,cG 12 0] (jx 13 12 11 (.seq (.block 1 (af [ab 14 12,dm 15 7 10 12,bO 16 7 15,cd (.alloc 4 none (.agg [.str [],.int .i64 0,.int .i64 0,.int .i64 0,.str [],.slice 4 .nil [],.slice 4 .nil []])),ab 3 14,bD 7 4 16] (.seq (af (bm 17 0 1 4::a7 18 1 17::cC 19 103 18::dq 20 19::ab 21 20::aF 21 false (bO 22 1 1)::aF 21 false (bm 23 0 1 4)::aF 21 false (a7 24 1 23)::aF 21 false (eN 25 119 22 24)::b0 21 false 26 3::aF 21 false (cA 27 .neq 25 26)::cH 28 21 27::ab 29 28::aF 29 false (bm 30 1 1 4)::aF 29 false (a7 31 1 30)::aF 29 false (bk 32 .lss 31 0)::cH 33 29 32::ab 34 33::aF 34 false (bm 35 1 1 4)::aF 34 false (a7 36 1 35)::aF 34 false (bk 37 .gtr 36 4)::cH 38 34 37::ab 39 38::aF 39 false (bm 40 2 1 4)::aF 39 false (a7 41 1 40)::aF 39 false (bk 42 .lss 41 0)::cH 43 39 42::ab 44 43::aF 44 false (bm 45 2 1 4)::aF 44 false (a7 46 1 45)::aF 44 false (bk 47 .gtr 46 8)::cH 48 44 47::[]) (bt 48 (af [bZ 2 false] .ret) .skip)) (af [qo 49 3 4 4,bO 50 4 49,eM 51 117 [.t 50,(b6 60)],bk 52 .lss 51 0,ab 53 52,aF 53 false (qo 54 3 4 4),aF 53 false (bO 55 4 54),aF 53 false (bm 56 1 1 4),aF 53 false (a7 57 1 56),aF 53 false (bm 58 2 1 4),aF 53 false (a7 59 1 58),aF 53 false (cA 60 .add 57 59),aF 53 false (eN 61 120 55 60),aF 53 false (dq 62 61),cH 63 53 62,ab 64 63,aF 64 false (bO 65 1 1),aF 64 false (qo 66 3 4 4),aF 64 false (bO 67 4 66),aF 64 false (eN 68 121 65 67),aF 64 false (dq 69 68),cH 70 64 69] (bt 70 (af [bZ 2 false] .ret) .skip))))) (.region [bk 71 .add 12 1,ab 12 71])))) (af [bZ 2 true] .ret))))
@[simp] def sD:List cu:=[.tmp 2]
def HJ:C:=(af [fl 3 0,fl 4 1,bZ 6 false] (af [bO 7 4 4,ab 8 2,eN 9 120 7 8,ab 10 9,aF 10 true (bO 11 1 3),aF 10 true (bO 12 4 4),aF 10 true (eN 13 121 11 12),ep 14 10 13,ab 6 14] .ret))
@[simp] def ags:List cu:=[.tmp 6]
def NS:C:=(af [fl 2 0,cG 4 0] (.seq (af [bm 7 0 1 2,a7 8 1 7,cJ 9 8,cG 10 0] (jx 11 10 9 (.seq (.block 1 (af [ab 12 10,dm 13 7 8 10,bO 14 7 13,cd (.alloc 6 none (.agg [.str [],.int .i64 0,.int .i64 0,.int .i64 0,.str [],.slice 4 .nil [],.slice 4 .nil []])),ab 5 12,bD 7 6 14] (af [bm 15 0 1 6,a7 16 1 15,ab 17 1,cA 18 .eql 16 17] (bt 18 (af [ab 19 5,ab 4 19] .ret) .skip)))) (.region [bk 20 .add 10 1,ab 10 20])))) (af [cG 4 (-1)] .ret)))
@[simp] def agu:List cu:=[.tmp 4]
def NJ:C:=(af [cd (.box 2 (some 306) (.t 0)),fl 3 1,bZ 4 false] (af [cd (.alloc 5 (some 307) (.bool false)),cd (.store 1 (.t 5) (.c (.bool true)))] (af [bO 6 4 3,a8 7 (.mkf 184 [.t 2,.t 5]),eN 8 157 6 7] (af [a7 9 1 5,ab 4 9] .ret))))
@[simp] def agr:List cu:=[.tmp 4]
def Bs:C:=(af [fl 3 0] (af [bm 5 0 1 3,a7 6 1 5,bk 7 .eql 6 9] (bt 7 (af [bO 8 1 1,bm 9 1 1 3,a7 10 1 9,eN 11 119 8 10,ab 4 11] (.seq (.drawn true 26 [ab 12 4,bk 13 .lss 12 0,ab 14 13,aF 14 false (bm 15 0 1 1),aF 14 false (a7 16 1 15),b0 14 false 17 4,aF 14 false (dm 18 7 16 17),aF 14 false (bm 19 1 1 18),aF 14 false (a7 20 1 19),aF 14 false (bm 21 2 1 3),aF 14 false (a7 22 1 21),aF 14 false (cJ 23 22),aF 14 false (cA 24 .neq 20 23),cH 25 14 24]) (bt 25 (.region [cd (.store 1 (.t 2) (.c (.bool false)))]) .skip))) .skip)))
@[simp] def Df:List cu:=[]
def yP:List (Nat×dt):=[
 (3,⟨1,8,.int .i64,.int .i64 0⟩),
 (4,⟨1,1,.bool,.bool false⟩),
 (9,⟨1,16,.str,.str []⟩),
 (38,⟨1,24,.slice 40,.slice 4 .nil []⟩),
 (40,⟨4,56,.struct [(0,3),(1,3),(2,9),(3,38)],.agg [.int .i64 0,.int .i64 0,.str [],.slice 4 .nil []]⟩),
 (59,⟨1,24,.slice 86,.slice 7 .nil []⟩),
 (61,⟨1,24,.struct [(0,59)],.agg [.slice 7 .nil []]⟩),
 (63,⟨1,24,.slice 65,.slice 4 .nil []⟩),
 (65,⟨4,72,.struct [(0,3),(1,9),(2,38),(3,63)],.agg [.int .i64 0,.str [],.slice 4 .nil [],.slice 4 .nil []]⟩),
 (86,⟨7,104,.struct [(0,9),(1,3),(2,3),(3,65)],.agg [.str [],.int .i64 0,.int .i64 0,.int .i64 0,.str [],.slice 4 .nil [],.slice 4 .nil []]⟩),
 (191,⟨1,8,.other,.junk⟩)]
theorem sS:e7 aQ yP=true:=by kernel_rfl
theorem ae4:cI yP NB ago 3 Tryz.f49=true:=by kernel_rfl
theorem Zp:aQ.funcs[(49:Nat)]? =some Tryz.f49:=Tryz.func49
theorem Tc:cI yP HG sD 1 Tryz.f50=true:=by kernel_rfl
theorem Pz:aQ.funcs[(50:Nat)]? =some Tryz.f50:=Tryz.func50
theorem Tf:cI yP HJ ags 3 Tryz.f118=true:=by kernel_rfl
theorem PC:aQ.funcs[(118:Nat)]? =some Tryz.f118:=Tryz.func118
theorem afk:cI yP NS agu 2 Tryz.f119=true:=by kernel_rfl
theorem ZF:aQ.funcs[(119:Nat)]? =some Tryz.f119:=Tryz.func119
theorem afb:cI yP NJ agr 2 Tryz.f121=true:=by kernel_rfl
theorem Zw:aQ.funcs[(121:Nat)]? =some Tryz.f121:=Tryz.func121
theorem Gd:cI yP Bs Df 3 Tryz.f184=true:=by kernel_rfl
theorem Ez:aQ.funcs[(184:Nat)]? =some Tryz.f184:=Tryz.func184
theorem VV(P:List Rl)(s:List ah):ct aQ 119 [ho P,.str s] (.int .i64 (ny P s)):=by
 generalize bH:ny P s=R;refine bW sS ZF afk fun aL=>?_;unfold NS;have gg:P.length<=68719476736:=by simp[ho,-M4,lY,kn,kX,bs]at aL;exact aL.1
 clear aL;simp;(with_reducible repeat' first|refine av ?_|simp);refine gP (fun i (_:Unit)=>⟨[(1,.str s),(8,.slice 7 .no (P.map Rl.e)),(9,.int .i64 P.length),(10,.int .i64 i)],[],[],0,[]⟩) P.length (fun i _=>FE P s i) () (by simp;exact cX) (fun k b aa=>Ω) (fun _ aD _=>?_) (fun i _ aE aD _=>?_)
 ·have:R= -1:=by rw[<-bH];exact Uk fun j f aY=>aD j f (eV.1 aY).1 aY
  subst this;clear aD bH;exact cB
 ·obtain⟨e,he,acb⟩:=gp aE;have cb:aZ ((i:Int)+1):=by unfold aZ;omega
  by_cases aJ:e.name=s
  ·have:R=i:=by rw[<-bH];exact Le he aJ aD
   subst this;clear aD bH;subst aJ;exact cB
  ·have gS:(e.name==s)=false:=by simpa using aJ
   have jl:FE P s (i+1):=fun k f aa aY=>by
    rcases lU k i with h|h
    ·exact aD k f h aY
    ·obtain rfl:k=i:=Ω
     rw[he]at aY;cases aY;exact aJ
   clear aD bH;exact wS
def hH(P:List Rl)(a:Bool):dF:=⟨[(.obj 306,[.slice 7 .no (P.map Rl.e)]),(.obj 307,[.bool a])],[]⟩
theorem xe{P:List Rl}(a:Bool):gJ (hH P a):=by unfold hH;exact gJ.of ⟨by intro m;simp[Pv.look],by intro m;simp[Pv.look]⟩ (by simp[aj,ak,ag,Pv.look]) Ψ
theorem A4{P:List Rl}(a b:Bool):Same (hH P a) (hH P b):=by
 refine⟨fun k=>?_,fun k=>rfl⟩;simp only[hH,Pv.look];repeat' split
 all_goals rfl
def xw(P:List Rl)(g:Gm):Bool:=if g.kind=9 then(match P.find? fun r=>r.name==g.name with|some r=>r.ar==(g.ts.length:Int)|none=>false)else true
theorem Xe{P:List Rl}(g:Gm)(h:g.shape=true)(a:Bool):(a&&g.cf P)=g.gs.foldl (fun a x=>a&&x.cf P) (a&&xw P g):=by
 have aY:∀(l:List Gm) (a:Bool),l.foldl (fun a x=>a&&x.cf P) a=(a&&l.all fun x=>x.cf P):=by
  intro l;induction l with
  |nil=>intro a;simp
  |cons x l bp=>intro a;rw[List.foldl_cons,bp,List.all_cons,Bool.and_assoc]
 rw[aY,OO,xw,H0,Bool.and_assoc];by_cases ee:g.kind=9
 ·rw[bP ee,bP ee];have:g.gs=[]:=by rw[qu,bF]at h;have J:=h.2;rw[bo Ω,bP ee]at J;simp at J;exact J.1.2
  rw[this,List.all_nil,Bool.and_true];cases P.find? fun r=>r.name==g.name<;>rfl
 ·rw[bo ee,bo ee,Bool.true_and]
def xx(P:List Rl)(l:List Gm)(a:Bool):Bool:=l.foldl (fun a x=>a&&x.cf P) a
theorem Xd{P:List Rl}{l:List Gm}{i:Nat}{x:Gm}(h:l[i]? =some x)(a:Bool):xx P (l.take (i+1)) a=(xx P (l.take i) a&&x.cf P):=by unfold xx;rw[kV,h];simp
theorem aaH{P:List Rl}(g:Gm)(a:Bool):bJ aQ 184 [g.e,.ptr (.obj 306) 0,.ptr (.obj 307) 0] (hH P a) fun r aq=>r= .tuple []/\aq=hH P (a&&xw P g):=by
 have au:=xe (P:=P) a;have gq:=xe (P:=P) (a&&xw P g);have fa:=A4 (P:=P) a (a&&xw P g);have cZ:=VV P g.name;unfold xw at gq fa⊢;by_cases ee:g.kind=9;rotate_left
 ·have xN:(g.kind==9)=false:=jy.2 ee;rw[bo ee,Bool.and_true]at gq fa⊢;unfold hH at au gq fa⊢;refine bJ.mk mixed sS Ez Gd Ψ au.obj fun aL bT=>?_;unfold Bs;clear aL bT;simp;(with_reducible repeat' first|refine av ?_|simp[xN]);all_goals refine bL.at _ (.inr rfl) gq fa ai ai ?_
  all_goals simp[bV,Df,bg,bh,bf]
 rw[bP ee]at gq fa⊢;rcases Uj P g.name with⟨I,J⟩|⟨k,r,I,J,aA⟩
 ·rw[I]at cZ;rw[J,Bool.and_false]at gq fa⊢;unfold hH at au gq fa⊢;refine bJ.mk mixed sS Ez Gd Ψ au.obj fun aL bT=>?_;unfold Bs;clear aL bT;simp;(with_reducible repeat' first|refine av ?_|refine ba cZ ?_|refine bb cZ ?_|simp[ee]);all_goals refine bL.at _ (.inr rfl) gq fa ai ai ?_
  all_goals simp[bV,Df,bg,bh,bf]
 ·rw[I]at cZ;rw[aA]at gq fa⊢;have aa:=(eV.1 J).1;have kO:∀h,(P[k]'h)=r:=fun h=>by rw[cS aa]at J;exact hd J
  simp only at gq fa⊢;by_cases zD:r.ar=(g.ts.length:Int)
  ·have bG:(r.ar==(g.ts.length:Int))=true:=by simpa using zD
   have cq:(r.ar !=(g.ts.length:Int))=false:=by simpa using zD
   rw[bG,Bool.and_true]at gq fa⊢;unfold hH at au gq fa⊢;refine bJ.mk mixed sS Ez Gd Ψ au.obj fun aL bT=>?_;unfold Bs;clear aL bT;simp;((with_reducible repeat' first|refine av ?_|refine ba cZ ?_|refine bb cZ ?_|simp[ee,aa,kO,J,cq]|((first|apply cN|apply cP|apply cO)<;>intro h<;>try simp at h))<;>(try exact dr));all_goals refine bL.at _ (.inr rfl) gq fa ai ai ?_
   all_goals simp[bV,Df,bg,bh,bf]
  ·have bG:(r.ar==(g.ts.length:Int))=false:=by simpa using zD
   have cq:(r.ar !=(g.ts.length:Int))=true:=by simpa using zD
   rw[bG,Bool.and_false]at gq fa⊢;unfold hH at au gq fa⊢;refine bJ.mk mixed sS Ez Gd Ψ au.obj fun aL bT=>?_;unfold Bs;clear aL bT;simp;((with_reducible repeat' first|refine av ?_|refine ba cZ ?_|refine bb cZ ?_|simp[ee,aa,kO,J,cq]|((first|apply cN|apply cP|apply cO)<;>intro h<;>try simp at h))<;>(try exact dr));all_goals refine bL.at _ (.inr rfl) gq fa ai ai ?_
   all_goals simp[bV,Df,bg,bh,bf]
theorem aaL(P:List Rl):∀(n:Nat) (g:Gm),g.sz<=n->g.shape=true->∀a:Bool,bJ aQ 157 [g.e,.func 184 [.ptr (.obj 306) 0,.ptr (.obj 307) 0]] (hH P a) fun r aq=>r= .tuple []/\aq=hH P (a&&g.cf P):=by
 intro n;induction n with
 |zero=>intro g aR;have:=g.sz_pos;omega
 |succ n bp=>
 intro g aR gA a;have au:=xe (P:=P) a;have gq:=xe (P:=P) (a&&g.cf P);have fa:=A4 (P:=P) a (a&&g.cf P);have nU:=aaH (P:=P) g a;have uZ:∀x∈g.gs,∀a:Bool,bJ aQ 157 [x.e,.func 184 [.ptr (.obj 306) 0,.ptr (.obj 307) 0]] (hH P a) fun r aq=>r= .tuple []/\aq=hH P (a&&x.cf P):=fun x ad a=>bp x (by have:=g.gs_lt ad;omega) (sI gA x ad) a;have eA:=Xe (P:=P) g gA a;rw[eA,<-xx]at gq fa⊢;generalize jT:(a&&xw P g)=lI at nU gq fa eA⊢;have ack:g.gs.length<=1000000:=by have:=(Dv gA).1;omega
 unfold hH at au;refine bJ.mk mixed kU PB Te Ψ au.obj fun aL bT=>?_;unfold HI;clear aL bT;unfold hH;simp;refine bc.ob (nU) (xe _) (by unfold hH;exact ai) (by unfold hH;exact ai) (by simp[ag,hH,Pv.look]) ?_;rintro r aq ⟨rfl,rfl⟩;refine⟨A4 _ _,?_⟩;unfold hH;simp[aX];(with_reducible repeat' first|refine av ?_|simp);refine gP (fun i (_:Unit)=>⟨[(1,.func 184 [.ptr (.obj 306) 0,.ptr (.obj 307) 0]),(10,.slice 4 .no (g.gs.map Gm.e)),(11,.int .i64 g.gs.length),(12,.int .i64 i)],(hH P (xx P (g.gs.take i) lI)).b,[],0,[.obj 306,.obj 307]⟩) g.gs.length (fun _ _=>True) () (by simp[hH,xx];exact⟨by simp[fresh,aj,ak,bj,ag,Pv.look,bC],cg (by simp[fresh,aj,ak,bj,ag,Pv.look,bC]),ch (by simp[fresh,aj,ak,cc,ag,Pv.look,bC]),Ψ⟩) trivial (fun _ _ _=>?_) (fun i _ aE _ _=>?_)
 ·simp only[kH,hH]at gq fa⊢;simp;(with_reducible repeat' first|refine av ?_|simp);all_goals refine bL.at _ (.inr rfl) gq fa ai ai ?_
  all_goals simp[bV,KU,bg,bh,bf]
 ·obtain⟨b,ao,oC⟩:=gp aE;have kb:=uZ b (fq ao) (xx P (g.gs.take i) lI);rw[<-Xd ao]at kb;have cb:aZ ((i:Int)+1):=by unfold aZ;omega
  clear gq fa;simp only[hH];simp[aE,oC];(with_reducible repeat' first|refine av ?_|simp[aE,oC]);refine bc.ob (kb) (xe _) (by unfold hH;exact ai) (by unfold hH;exact ai) (by simp[ag,hH,Pv.look]) ?_;rintro r aq ⟨rfl,rfl⟩;refine⟨A4 _ _,?_⟩;unfold hH;simp[aX];(with_reducible repeat' first|refine av ?_|simp[cb]);all_goals refine bU.rng () aE trivial (by simp[hH];exact⟨by simp[fresh,aj,ak,bj,ag,Pv.look,bC],cg (by simp[fresh,aj,ak,bj,ag,Pv.look,bC]),ch (by simp[fresh,aj,ak,cc,ag,Pv.look,bC]),Ψ⟩)
theorem Mg(P:List Rl)(g:Gm)(h:g.shape=true):ct aQ 121 [ho P,g.e] (.bool (g.cf P)):=by have nU:=aaL P g.sz g (c7 _) h true;rw[Bool.true_and]at nU;refine bW sS Zw afb fun aL=>?_;unfold NJ;clear aL;simp;((with_reducible repeat' first|refine av ?_|simp|((first|apply cN|apply cP|apply cO)<;>intro h<;>try simp at h))<;>(try exact dr));refine bc.ob (nU) (xe _) (by unfold hH;exact ai) (by unfold hH;exact ai) (by simp[ag,hH,Pv.look]) ?_;rintro r aq ⟨rfl,rfl⟩;refine⟨A4 _ _,?_⟩;unfold hH;simp[aX];exact cB
theorem MN(P:List Rl)(i:Nat)(r:Rl):s6 P i r↔eS r.name=true/\ny P r.name=(i:Nat)/\(0<=r.ar/\r.ar<=4)/\(0<=r.loc/\r.loc<=8)/\0<=iE r.body 60/\o1 r.body (r.ar+r.loc)=true/\r.body.cf P=true:=by
 unfold s6 iE Gm.fits;simp only[bF,ea];have:=r.body.sz_pos;constructor
 ·rintro⟨I,J,aA,aS,⟨⟨⟨bG,cq⟩,dW⟩,fZ⟩,ee⟩;rw[bP ⟨bG,cq⟩]at ee;exact⟨J,I,aA,aS,by rw[bP ⟨bG,Ω⟩];omega,fZ,dW⟩
 ·rintro⟨I,J,aA,aS,bG,cq,dW⟩;split at bG
  ·rename_i h;refine⟨J,I,aA,aS,⟨⟨⟨h.1,Ω⟩,dW⟩,cq⟩,?_⟩;split<;>omega
  ·omega
theorem F2{g:Gm}{n:Int}(h:0<=iE g n):g.shape=true:=by
 unfold iE at h;split at h
 ·rename_i J;exact J.1
 ·omega
def o8(P:List Rl)(i:Nat)(_:Unit):a6:=⟨[(1,.ptr (.loc 0) 0),(10,.slice 7 .no (P.map Rl.e)),(11,.int .i64 P.length),(12,.int .i64 i)],[(.loc 0,[.slice 7 .no (P.map Rl.e)])],[],1,[]⟩
set_option maxRecDepth 8000 in
theorem DK(P:List Rl):ct aQ 50 [ho P] (.bool (gC P)):=by
 have oE:=S4 P;generalize gC P=R at oE;by_cases fZ:P.length<=8;rotate_left
 ·have:R=false:=by
   cases R with
   |false=>rfl
   |true=>exact absurd (oE.1 rfl).1 fZ
  subst this;have BV:(8:Int)<P.length:=Ω
  refine bW sS Pz Tc fun aL=>?_;unfold HG;clear aL;exact cB
 have BV:¬(8:Int)<P.length:=Ω
 refine bW sS Pz Tc fun aL=>?_;unfold HG;clear aL;simp;((with_reducible repeat' first|refine av ?_|simp[BV]|((first|apply cN|apply cP|apply cO)<;>intro h<;>try simp at h))<;>(try exact dr));refine gP (o8 P) P.length (fun i _=> ∀(k:Nat) (r:Rl),k<i->P[k]? =some r->s6 P k r) () (by simp[o8];exact cX) (fun k b aa=>Ω) (fun _ aD _=>?_) (fun i _ aE aD _=>?_)
 ·have:R=true:=oE.2 ⟨fZ,fun i r hr=>aD i r (eV.1 hr).1 hr⟩;subst this;clear aD oE;simp[o8];((with_reducible repeat' first|refine av ?_|simp|((first|apply cN|apply cP|apply cO)<;>intro h<;>try simp at h))<;>(try exact dr));simp[b8,sD,bg,bh,bf]
 obtain⟨r,hr⟩:∃e,P[i]? =some e:=⟨_,cS aE⟩;have hk:∀h,(P[i]'h)=r:=fun h=>by rw[cS aE]at hr;exact hd hr
 have cb:aZ ((i:Int)+1):=by unfold aZ;omega
 have cZ:=VV P r.name;have cU:=Md r.name;have ma:=Mh r.body.sz r.body (c7 _) 60 Ω;by_cases cQ:s6 P i r
 ·have jl:∀(k:Nat) (q:Rl),k<i+1->P[k]? =some q->s6 P k q:=fun k q aa bA=>by
   rcases lU k i with h|h
   ·exact aD k q h bA
   ·obtain rfl:k=i:=Ω
    rw[hr]at bA;cases bA;exact cQ
  obtain⟨aB,aU,b1,dN,hJ,hx,mw⟩:=(MN P i r).1 cQ;have iq:=Mn r.body (F2 hJ) (r.ar+r.loc);have jt:=Mg P r.body (F2 hJ);rw[aB]at cU;rw[aU]at cZ;rw[hx]at iq;rw[mw]at jt;have en:aZ (r.ar+r.loc):=by unfold aZ;omega
  have cz:¬r.ar<0:=Ω
  have db:¬4<r.ar:=Ω
  have eo:¬r.loc<0:=Ω
  have dC:¬8<r.loc:=Ω
  have dc:¬iE r.body 60<0:=Ω
  clear aD oE aB aU hx mw;simp[o8,aE,hk];((with_reducible repeat' first|refine av ?_|refine ba cU ?_|refine bb cU ?_|refine ba cZ ?_|refine bb cZ ?_|refine ba ma ?_|refine bb ma ?_|refine ba iq ?_|refine bb iq ?_|refine ba jt ?_|refine bb jt ?_|simp[aE,hk,cb,en,cz,db,eo,dC,dc]|((first|apply cN|apply cP|apply cO)<;>intro h<;>try simp at h))<;>(try exact dr));exact bU.rng () aE jl (by simp[o8];exact cX)
 have:R=false:=by
  cases R with
  |false=>rfl
  |true=>exact absurd ((oE.1 rfl).2 i r hr) cQ
 subst this;rw[MN]at cQ;clear aD oE;cases aB:eS r.name with
 |false=>rw[aB]at cU;clear cQ cZ ma;simp[o8,aE,hk];(with_reducible repeat' first|refine av ?_|refine ba cU ?_|refine bb cU ?_|simp[aE,hk]);simp[b8,sD,bg,bh,bf]
 |true=>
 rw[aB]at cU;generalize ny P r.name=m at cZ cQ;by_cases c8:m=i;rotate_left
 ·have ao:(m !=(i:Int))=true:=by simpa using c8
  clear cQ ma;simp[o8,aE,hk];(with_reducible repeat' first|refine av ?_|refine ba cU ?_|refine bb cU ?_|refine ba cZ ?_|refine bb cZ ?_|simp[aE,hk,ao]);simp[b8,sD,bg,bh,bf]
 subst c8;by_cases c3:0<=r.ar;rotate_left
 ·have cz:r.ar<0:=Ω
  clear cQ ma;simp[o8,aE,hk];(with_reducible repeat' first|refine av ?_|refine ba cU ?_|refine bb cU ?_|refine ba cZ ?_|refine bb cZ ?_|simp[aE,hk,cz]);simp[b8,sD,bg,bh,bf]
 have cz:¬r.ar<0:=Ω
 by_cases c4:r.ar<=4;rotate_left
 ·have db:4<r.ar:=Ω
  clear cQ ma;simp[o8,aE,hk];(with_reducible repeat' first|refine av ?_|refine ba cU ?_|refine bb cU ?_|refine ba cZ ?_|refine bb cZ ?_|simp[aE,hk,cz,db]);simp[b8,sD,bg,bh,bf]
 have db:¬4<r.ar:=Ω
 by_cases c5:0<=r.loc;rotate_left
 ·have eo:r.loc<0:=Ω
  clear cQ ma;simp[o8,aE,hk];(with_reducible repeat' first|refine av ?_|refine ba cU ?_|refine bb cU ?_|refine ba cZ ?_|refine bb cZ ?_|simp[aE,hk,cz,db,eo]);simp[b8,sD,bg,bh,bf]
 have eo:¬r.loc<0:=Ω
 by_cases iW:r.loc<=8;rotate_left
 ·have dC:8<r.loc:=Ω
  clear cQ ma;simp[o8,aE,hk];(with_reducible repeat' first|refine av ?_|refine ba cU ?_|refine bb cU ?_|refine ba cZ ?_|refine bb cZ ?_|simp[aE,hk,cz,db,eo,dC]);simp[b8,sD,bg,bh,bf]
 have dC:¬8<r.loc:=Ω
 have en:aZ (r.ar+r.loc):=by unfold aZ;omega
 by_cases jB:0<=iE r.body 60;rotate_left
 ·have dc:iE r.body 60<0:=Ω
  clear cQ;simp[o8,aE,hk];(with_reducible repeat' first|refine av ?_|refine ba cU ?_|refine bb cU ?_|refine ba cZ ?_|refine bb cZ ?_|refine ba ma ?_|refine bb ma ?_|simp[aE,hk,cz,db,eo,dC,dc]);simp[b8,sD,bg,bh,bf]
 have dc:¬iE r.body 60<0:=Ω
 have iq:=Mn r.body (F2 jB) (r.ar+r.loc);have jt:=Mg P r.body (F2 jB);cases hx:o1 r.body (r.ar+r.loc)with
 |false=>rw[hx]at iq;clear cQ jt;simp[o8,aE,hk];(with_reducible repeat' first|refine av ?_|refine ba cU ?_|refine bb cU ?_|refine ba cZ ?_|refine bb cZ ?_|refine ba ma ?_|refine bb ma ?_|refine ba iq ?_|refine bb iq ?_|simp[aE,hk,en,cz,db,eo,dC,dc]);simp[b8,sD,bg,bh,bf]
 |true=>
 rw[hx]at iq;cases mw:r.body.cf P with
 |false=>rw[mw]at jt;clear cQ;simp[o8,aE,hk];((with_reducible repeat' first|refine av ?_|refine ba cU ?_|refine bb cU ?_|refine ba cZ ?_|refine bb cZ ?_|refine ba ma ?_|refine bb ma ?_|refine ba iq ?_|refine bb iq ?_|refine ba jt ?_|refine bb jt ?_|simp[aE,hk,en,cz,db,eo,dC,dc]|((first|apply cN|apply cP|apply cO)<;>intro h<;>try simp at h))<;>(try exact dr));simp[b8,sD,bg,bh,bf]
 |true=>exact absurd ⟨aB,rfl,⟨c3,c4⟩,⟨c5,iW⟩,jB,hx,mw⟩ cQ
theorem ah3(P:List Rl)(g:Gm)(h:g.shape=true)(n:Int):ct aQ 118 [ho P,g.e,.int .i64 n] (.bool (o1 g n&&g.cf P)):=by
 have iq:=Mn g h n;have jt:=Mg P g h;cases e:o1 g n
 ·rw[e]at iq;refine bW sS PC Tf fun aL=>?_;unfold HJ;clear aL;exact cB
 ·rw[e]at iq;rw[Bool.true_and];refine bW sS PC Tf fun aL=>?_;unfold HJ;clear aL;have wB:=jt;exact cB
def qL(l:List (List ah))(i:Nat):List Rl->a6
 |[]=>⟨[(2,.ptr (.loc 0) 0),(3,.bool false),(6,.ptr (.obj 871) 0),(7,.ptr (.loc 1) 0)],[(.loc 0,[.slice 7 .nil []]),(.obj 871,[.slice 1 .no (cl l),.int .i64 i]),(.loc 1,[.slice 7 .nil []])],[],2,[.obj 871]⟩
 |x::xs=>⟨[(2,.ptr (.loc 0) 0),(3,.bool false),(6,.ptr (.obj 871) 0),(7,.ptr (.loc 1) 0)],[(.loc 0,[.slice 7 .nil []]),(.obj 871,[.slice 1 .no (cl l),.int .i64 i]),(.loc 1,[.slice 7 (.own (.loc 4)) (x.e::xs.map Rl.e)])],[(.loc 4,⟨xs.length+1,86,7,none⟩)],5,[.obj 871]⟩
structure CJ (l:List (List ah)) (R:al) (x:List Rl×Nat):Prop where
 le:x.2<=l.length
 len:x.1.length<=x.2
 res:∃n,(l.drop x.2).length<=n/\je (nA ((lN n (l.drop x.2)).map (x.1++ ·)))=R
theorem O7{l r:List (List ah)}{x:Rl}(h:mv l=some (x,r)):r<:+l/\r.length<l.length:=by
 unfold mv at h;split at h
 ·rename_i d name FL;split at h
  ·split at h
   ·rename_i cF ms aJ;simp only[hc]at h;obtain⟨⟨y,e3⟩,ao,e⟩:=h;cases e;refine⟨((List.drop_suffix _ _).trans ⟨[[40],d,[40],name],rfl⟩),by simp;omega⟩
   ·cases h
  ·cases h
 ·cases h
theorem adR{l:List (List ah)}{R:al}{P:List Rl}{i:Nat}(h:CJ l R (P,i))(aE:i<l.length)(aP:mv (l.drop i)=none):R=je none:=by obtain⟨_,_,n,aJ,bH⟩:=h;simp only at aJ bH;rw[hG]at aJ;obtain⟨m,rfl⟩:∃m,n=m+1:=⟨n-1,Ω⟩;rw[<-bH];obtain⟨w,r,JT⟩:∃w r,l.drop i=w::r:=⟨_,_,uk aE⟩;rw[JT]at aP⊢;simp only[lN,aP];rfl
theorem adS{l:List (List ah)}{R:al}{P:List Rl}{i:Nat}(h:CJ l R (P,i)){x:Rl}{r:List (List ah)}(aP:mv (l.drop i)=some (x,r)):CJ l R (P++[x],l.length-r.length):=by obtain⟨I,J,n,aJ,bH⟩:=h;simp only at aJ bH I J;obtain⟨d1,d2⟩:=O7 aP;rw[hG]at aJ d2;obtain⟨m,rfl⟩:∃m,n=m+1:=⟨n-1,Ω⟩;have hr:r=l.drop (l.length-r.length):=(yD d1).1;refine⟨by simp only;omega,by simp;omega,m,by rw[<-hr];omega,?_⟩;rw[<-bH];simp only;rw[<-hr];obtain⟨w,dh,JT⟩:∃w dh,l.drop i=w::dh:=⟨_,_,uk Ω⟩;rw[JT]at aP⊢;simp only[lN,aP,Option.map_map];congr 3;funext y;simp
theorem adQ{l:List (List ah)}{R:al}{P:List Rl}(h:CJ l R (P,l.length)):R=je (nA (some P)):=by obtain⟨_,_,n,_,bH⟩:=h;simp only[kG]at bH;rw[<-bH];cases n<;>simp[lN]
set_option maxRecDepth 8000 in
theorem VH(s:List ah)(au:s.length<=bs):ct aQ 38 [.str s] (je (nY s)):=by
 have cW:=VL s au;obtain⟨R,bH⟩:∃R,R=je (nY s):=⟨_,rfl⟩;rw[<-bH];have nI:ak (fun _=>dD) R:=by rw[bH];unfold je;split<;>simp[ak,aj]
 unfold nY at bH;cases aI:gG s with
 |none=>rw[aI]at cW bH;simp only[lk]at cW;simp only[je]at bH;refine bW vC Py Tb (fun aL=>?_) (hr:=nI);unfold HF;clear aL;simp;(with_reducible repeat' first|refine av ?_|refine ba cW ?_|refine bb cW ?_|simp);rw[bH];simp[b8,wT,bg,bh,bf]
 |some l=>
 rw[aI]at cW bH;simp only[lk]at cW;simp only at bH;obtain⟨jT,hz⟩:=Vn aI;refine bW vC Py Tb (fun aL=>?_) (hr:=nI);unfold HF;clear aL;simp;(with_reducible repeat' first|refine av ?_|refine ba cW ?_|refine bb cW ?_|simp);clear cW;refine gf (fun x:List Rl×Nat=>qL l x.2 x.1) (fun x=>l.length-x.2) (fun x=>CJ l R x) ([],0) (by simp[qL];exact⟨by simp[fresh,aj,ak,bj,ag,Pv.look,dO],cg (by simp[fresh,aj,ak,bj,ag,Pv.look,dO]),ch (by simp[fresh,aj,ak,cc,ag,Pv.look,dO]),Ψ⟩) ⟨o3 _,c7 _,l.length,Ψ,by simpa using bH.symm⟩ ?_;clear bH;rintro⟨P,i⟩ aD _;simp only;have h2:=aD.le;have fx:=aD.len;simp only at h2 fx;rcases jJ h2 with rfl|bY
 ·have cM:=BA (ky:=871) l;have hX:=adQ aD;have cy:=DK P;clear aD;cases dS:gC P
  ·rw[dS]at cy;replace hX:R= .tuple [ho [],.bool false]:=by rw[hX];simp[nA,dS,je]
   cases P with
   |nil=>simp[qL];refine bc.ob (cM) (bE _ _) (by simp only[ae];exact ai) (by simp only[ae];exact ai) (by simp[ag,Pv.look,ae,aM,dx,aj,ak]) ?_;rintro r aq ⟨rfl,rfl⟩;refine⟨b9 _ _ _ _,?_⟩;simp[aX,ae,aM];(with_reducible repeat' first|refine av ?_|refine ba cy ?_|refine bb cy ?_|simp);rw[hX];simp[b8,wT,bg,bh,bf]
   |cons a eX=>simp[qL];refine bc.ob (cM) (bE _ _) (by simp only[ae];exact ai) (by simp only[ae];exact ai) (by simp[ag,Pv.look,ae,aM,dx,aj,ak]) ?_;rintro r aq ⟨rfl,rfl⟩;refine⟨b9 _ _ _ _,?_⟩;simp[aX,ae,aM];(with_reducible repeat' first|refine av ?_|refine ba cy ?_|refine bb cy ?_|simp);rw[hX];simp[b8,wT,bg,bh,bf]
  ·rw[dS]at cy;replace hX:R= .tuple [ho P,.bool true]:=by rw[hX];simp[nA,dS,je]
   cases P with
   |nil=>simp[qL];refine bc.ob (cM) (bE _ _) (by simp only[ae];exact ai) (by simp only[ae];exact ai) (by simp[ag,Pv.look,ae,aM,dx,aj,ak]) ?_;rintro r aq ⟨rfl,rfl⟩;refine⟨b9 _ _ _ _,?_⟩;simp[aX,ae,aM];(with_reducible repeat' first|refine av ?_|refine ba cy ?_|refine bb cy ?_|simp);rw[hX];simp[b8,wT,bg,bh,bf]
   |cons a eX=>simp[qL];refine bc.ob (cM) (bE _ _) (by simp only[ae];exact ai) (by simp only[ae];exact ai) (by simp[ag,Pv.look,ae,aM,dx,aj,ak]) ?_;rintro r aq ⟨rfl,rfl⟩;refine⟨b9 _ _ _ _,?_⟩;simp[aX,ae,aM];(with_reducible repeat' first|refine av ?_|refine ba cy ?_|refine bb cy ?_|simp);rw[hX];simp[b8,wT,bg,bh,bf]
 have cM:bJ aQ 83 [aM 871] (ae 871 l i) fun r aq=>r= .bool false/\aq=ae 871 l i:=pb bY;have h8:=aaK l Ω hz h2;have hZ:P.length+1<=bs:=by unfold bs;omega
 cases ly:mv (l.drop i)with
 |none=>
  have hX:=adR aD bY ly;simp only[je]at hX;clear aD;cases P with
  |nil=>simp[qL];refine bc.ob (cM) (bE _ _) (by simp only[ae];exact ai) (by simp only[ae];exact ai) (by simp[ag,Pv.look,ae,aM,dx,aj,ak]) ?_;rintro r aq ⟨rfl,rfl⟩;refine⟨b9 _ _ _ _,?_⟩;simp[aX,ae,aM];(with_reducible repeat' first|refine av ?_|simp);refine bc.ob h8 (bE _ _) (by simp only[ae];exact ai) (by simp only[ae];exact ai) (by simp[ag,Pv.look,ae,aM,aj,ak]) ?_;rintro r aq bA;rw[ly]at bA;obtain⟨x,j,_,rfl,rfl⟩:=bA;refine⟨b9 _ _ _ _,?_⟩;simp[aX,ae,aM];(with_reducible repeat' first|refine av ?_|simp);rw[hX];simp[b8,wT,bg,bh,bf]
  |cons a eX=>simp[qL];refine bc.ob (cM) (bE _ _) (by simp only[ae];exact ai) (by simp only[ae];exact ai) (by simp[ag,Pv.look,ae,aM,dx,aj,ak]) ?_;rintro r aq ⟨rfl,rfl⟩;refine⟨b9 _ _ _ _,?_⟩;simp[aX,ae,aM];(with_reducible repeat' first|refine av ?_|simp);refine bc.ob h8 (bE _ _) (by simp only[ae];exact ai) (by simp only[ae];exact ai) (by simp[ag,Pv.look,ae,aM,aj,ak]) ?_;rintro r aq bA;rw[ly]at bA;obtain⟨x,j,_,rfl,rfl⟩:=bA;refine⟨b9 _ _ _ _,?_⟩;simp[aX,ae,aM];(with_reducible repeat' first|refine av ?_|simp);rw[hX];simp[b8,wT,bg,bh,bf]
 |some y=>
  obtain⟨x,rest⟩:=y;have eZ:=adS aD ly;have kg:=(O7 ly).2;rw[hG]at kg;clear aD;cases P with
  |nil=>simp[qL];refine bc.ob (cM) (bE _ _) (by simp only[ae];exact ai) (by simp only[ae];exact ai) (by simp[ag,Pv.look,ae,aM,dx,aj,ak]) ?_;rintro r aq ⟨rfl,rfl⟩;refine⟨b9 _ _ _ _,?_⟩;simp[aX,ae,aM];(with_reducible repeat' first|refine av ?_|simp);refine bc.ob h8 (bE _ _) (by simp only[ae];exact ai) (by simp only[ae];exact ai) (by simp[ag,Pv.look,ae,aM,aj,ak]) ?_;rintro r aq bA;rw[ly]at bA;obtain⟨rfl,rfl⟩:=bA;refine⟨b9 _ _ _ _,?_⟩;simp[aX,ae,aM];(with_reducible repeat' first|refine av ?_|simp[hZ]);refine bU.whl ([x],l.length-rest.length) (by simp only;omega) eZ ?_;simp[qL];exact⟨by simp[fresh,aj,ak,bj,ag,Pv.look,dO,fi],cg (by simp[fresh,aj,ak,bj,ag,Pv.look,dO,fi]),ch (by simp[fresh,aj,ak,cc,ag,Pv.look,dO,fi]),Ψ⟩
  |cons a eX=>simp[qL];refine bc.ob (cM) (bE _ _) (by simp only[ae];exact ai) (by simp only[ae];exact ai) (by simp[ag,Pv.look,ae,aM,dx,aj,ak]) ?_;rintro r aq ⟨rfl,rfl⟩;refine⟨b9 _ _ _ _,?_⟩;simp[aX,ae,aM];(with_reducible repeat' first|refine av ?_|simp);refine bc.ob h8 (bE _ _) (by simp only[ae];exact ai) (by simp only[ae];exact ai) (by simp[ag,Pv.look,ae,aM,aj,ak]) ?_;rintro r aq bA;rw[ly]at bA;obtain⟨rfl,rfl⟩:=bA;refine⟨b9 _ _ _ _,?_⟩;simp[aX,ae,aM];(with_reducible repeat' first|refine av ?_|simp[hZ]);refine bU.whl (a::(eX++[x]),l.length-rest.length) (by simp only;omega) eZ ?_;simp[qL];exact⟨by simp[fresh,aj,ak,bj,ag,Pv.look,dO,fi],cg (by simp[fresh,aj,ak,bj,ag,Pv.look,dO,fi]),ch (by simp[fresh,aj,ak,cc,ag,Pv.look,dO,fi]),Ψ⟩
mutual
theorem Lc{at':List ah->a1 T}(bM:∀w t,at' w=some t->t.size=1):∀(n:Nat) (l:List (List ah)) (t:T) (r:List (List ah)),rd at' n l=some (t,r)->t.size+1+2*r.length<=2*l.length
 |0,_,_,_,h=>by simp[rd]at h
 |_+1,[],_,_,h=>by simp[rd]at h
 |n+1,w::l,t,r,h=>by
  simp only[rd]at h;split at h
  ·have:=RS bM n l [] t r h;simp at this⊢;omega
  ·split at h
   ·cases h
   ·simp only[hc]at h;obtain⟨eH,I,J⟩:=h;cases J;have:=bM _ _ I;simp;omega
theorem RS{at':List ah->a1 T}(bM:∀w t,at' w=some t->t.size=1):∀(n:Nat) (l:List (List ah)) (acc:List T) (t:T) (r:List (List ah)),b5 at' n l acc=some (t,r)->t.size+2*r.length+1<=2*l.length+(acc.map fun x=>x.size+1).sum
 |0,_,_,_,_,h=>by simp[b5]at h
 |_+1,[],_,_,_,h=>by simp[b5]at h
 |n+1,w::l,acc,t,r,h=>by
  have aG:∀(a:List T) (u:T),(gi a u).size=(a.map fun x=>x.size+1).sum+u.size:=by
   intro a u;induction a with
   |nil=>simp[gi]
   |cons x a bp=>simp only[gi,T.size,bp,ek,qD];omega
  simp only[b5]at h;split at h
  ·cases h;rw[aG];simp[T.size];omega
  ·split at h
   ·split at h
    ·cases h
    ·split at h
     ·rename_i t1 v eU I;split at h
      ·cases h;have:=Lc bM n l t1 (v::r) I;rw[aG];simp only[ga]at this⊢;omega
      ·cases h
     ·cases h
   ·split at h
    ·rename_i t1 eU I;have J:=Lc bM n (w::l) t1 eU I;have aA:=RS bM n eU _ t r h;simp only[List.map_append,List.sum_append,ek,qD,mQ,List.sum_nil]at aA;omega
    ·cases h
end
theorem WH(w:List ah)(t:T)(h:fs w=some t):t.size=1:=by
 unfold fs at h;split at h
 ·split at h
  ·split at h
   ·cases h;rfl
   ·cases h
  ·cases h
 ·split at h
  ·cases h;rfl
  ·simp only[hc]at h;obtain⟨n,_,rfl⟩:=h;rfl
theorem G1(x:T):x.tm.sz=x.size:=by
 induction x with
 |pair a b qe qf=>simp[T.tm,aV.sz,aV.szL,T.size,qe,qf];omega
 |_=>rfl
def L7(tr:List (List ah)->a1 (T×List (List ah))):Prop:= ∀l t r,tr l=some (t,r)->t.size+2*r.length<=2*l.length
theorem ahP:L7 er:=by
 intro l t r h;unfold er at h;split at h
 ·rename_i t1 eU I;split at h
  ·cases h;have:=Lc WH _ _ _ _ I;omega
  ·cases h
 ·cases h
mutual
theorem Ui{tr:List (List ah)->a1 (T×List (List ah))}(aI:L7 tr){aP:List ah->a1 (Int×List ah)}:∀(n:Nat) (l:List (List ah)) (g:Gm) (r:List (List ah)),ed tr aP n l=some (g,r)->g.w+2*r.length<=2*l.length
 |0,_,_,_,h=>by simp[ed]at h
 |_+1,[],_,_,h=>by simp[ed]at h
 |n+1,w::l,g,r,h=>by
  simp only[ed]at h;split at h
  ·cases h;simp[Gm.w,aV.szL,mZ];omega
  ·split at h
   ·cases h;simp[Gm.w,aV.szL,mZ];omega
   ·split at h
    ·split at h
     ·cases h
     ·rename_i hw dh;split at h
      ·have:=La aI n _ _ [] [] dh g r h;simp[mZ]at this⊢;omega
      ·cases h
    ·cases h
theorem La{tr:List (List ah)->a1 (T×List (List ah))}(aI:L7 tr){aP:List ah->a1 (Int×List ah)}:∀(n:Nat) (k:Int) (s:List ah) (ts:List T) (gs:List Gm) (l:List (List ah)) (g:Gm) (r:List (List ah)),eh tr aP n k s ts gs l=some (g,r)->g.w+2*r.length<=2*l.length+(ts.map T.size).sum+mZ gs
 |0,_,_,_,_,_,_,_,h=>by simp[eh]at h
 |_+1,_,_,_,_,[],_,_,h=>by simp[eh]at h
 |n+1,k,s,ts,gs,w::l,g,r,h=>by
  simp only[eh]at h;split at h
  ·split at h
   ·cases h;have e:aV.szL (ts.map T.tm)=(ts.map T.size).sum:=by rw[AM,List.map_map];congr 1;exact List.map_congr_left fun x _=>G1 x
    simp only[Gm.w,e,ga];omega
   ·cases h
  ·split at h
   ·split at h
    ·rename_i g1 eU I;have J:=Ui aI n (w::l) g1 eU I;have aA:=La aI n k s ts _ eU g r h;simp only[IP,List.map_append,List.sum_append,ek,mQ,qD,List.sum_nil]at aA⊢;omega
    ·cases h
   ·split at h
    ·rename_i t1 eU I;have J:=aI _ _ _ I;have aA:=La aI n k s _ gs eU g r h;simp only[List.map_append,List.sum_append,ek,mQ,qD,List.sum_nil]at aA;omega
    ·cases h
end
theorem agb:∀(l:List (List ah)) (k j:Int) (r:List (List ah)),hp k l=some (j,r)->r.length<=l.length:=fun l k j r h=>by obtain⟨p,I,_⟩:=Db l k j r h;rw[I];simp
theorem XW{name:List ah}{c:Nat}{l r:List (List ah)}{x:Rl}(h:ot name c l=some (x,r)):x.body.w+2*r.length<=2*l.length/\r.length<=l.length:=by
 obtain⟨p,q,e,_⟩:=Eg h;refine⟨?_,by rw[e];simp;omega⟩;unfold ot at h;cases bn:hp 0 l with
 |none=>rw[bn]at h;cases h
 |some y=>
  obtain⟨k,eU⟩:=y;rw[bn]at h;simp only at h;have I:=agb _ _ _ _ bn;split at h
  ·rename_i g e3 aR;cases h;have J:=Ui ahP _ _ _ _ aR;simp only[ga]at J;simp only;omega
  ·cases h
theorem X1{l r:List (List ah)}{x:Rl}(h:mv l=some (x,r)):x.body.w+2*r.length<=2*l.length:=by
 unfold mv at h;split at h
 ·rename_i d name FL;split at h
  ·split at h
   ·rename_i cF ms aJ;simp only[hc]at h;obtain⟨⟨y,e3⟩,ao,e⟩:=h;cases e;have I:=(wJ _ _ _ _ aJ).1;have J:=XW ao;simp only[n7]at I;simp only[hG,ga];omega
   ·cases h
  ·cases h
 ·cases h
theorem Ud:∀(n:Nat) (l:List (List ah)) (P:List Rl),lN n l=some P->(P.map fun x=>x.body.w).sum<=2*l.length
 |n,[],P,h=>by cases n<;>(simp[lN]at h;subst h;simp)
 |0,w::l,P,h=>by simp[lN]at h
 |n+1,w::l,P,h=>by
  simp only[lN]at h;split at h
  ·rename_i x r aP;simp only[hc]at h;obtain⟨Q,jm,rfl⟩:=h;have I:=X1 aP;have J:=Ud n r Q jm;simp only[ek,qD];omega
  ·cases h
def pC(P:List Rl):Prop:=(P.map fun x=>x.body.w).sum<=600
theorem Tw{t:List ah}{P:List Rl}(h:nY t=some P)(aG:t.length<=300):gC P=true/\pC P:=by
 unfold nY at h;split at h
 ·cases h
 ·rename_i l hz;obtain⟨I,J⟩:=DN.1 h;refine⟨J,?_⟩;have aA:=Ud _ _ _ I;unfold gG at hz;split at hz
  ·cases hz;have:=yN _ t (c7 _);unfold pC;omega
  ·cases hz
theorem Zi{x:Rl}(aJ:eS x.name=true)(bM:x.ar<=4)(ao:x.body.shape=true):(tt x).length<=30*x.body.w+114:=by
 have I:=BG x.body.sz x.body (c7 _) ao;have J:=F1 (vq aJ);have aA:=RZ (x.name::dz 0 x.ar.toNat);have aS:∀(n k:Nat),k+n<=100000->((dz k n).map fun x=>x.length+1).sum<=22*n:=by
  intro n;induction n with
  |zero=>intro k _;simp[dz]
  |succ n bp=>intro k aa;have:=bp (k+1) Ω;have bG:=yg (n:=(k:Int)) (by unfold aZ;omega);simp only[dz,ek,qD,hP,ga];omega
 have bG:=aS x.ar.toNat 0 Ω;simp only[ek,qD]at aA;simp only[tt,fU,ga,mh,show ha.length=6 from rfl];omega
theorem Pt:∀P:List Rl,(∀x∈P,eS x.name=true/\x.ar<=4/\x.body.shape=true)->(hi P).length<=30*(P.map fun x=>x.body.w).sum+114*P.length
 |[],_=>by simp[hi]
 |x::P,h=>by have I:=Pt P fun y bB=>h y (by simp[bB]);obtain⟨a,b,c⟩:=h x Ψ;have J:=Zi a b c;simp only[hi,fU,ek,qD,ga];omega
theorem Dz{P:List Rl}(h:gC P=true)(au:pC P):(hi P).length<=19000/\(nB P).length<=19000:=by
 have I:=Pt P fun x ad=>⟨(nv h ad).1,(nv h ad).2.1.2,(nv h ad).2.2.1⟩;have J:P.length<=8:=by unfold gC at h;simp only[bF,ea]at h;exact h.1.1
 have aA:(hi P).length<=19000:=by unfold pC at au;omega
 refine⟨aA,?_⟩;have aS:=GZ P [] fun x ad=>⟨(nv h ad).1,(nv h ad).2.2.1⟩;rw[mg,rs,mg]at aS;rw[<-aS];have:=yN _ (hi P) (c7 _);omega
theorem agW(ms:List (List ah))(y:T):(gX ms y).size=y.size:=by
 induction y with
 |pair a b qe qf=>simp[gX,T.size,qe,qf]
 |_=>rfl
mutual
theorem Ux(ms:List (List ah)):∀g:Gm,g.shape=true->(ir ms g).w=g.w
 | .mk k s t g,h=>by
  obtain⟨I,J,_⟩:=qv h;rw[ir];simp only[Gm.w,Uu ms g J];have e:aV.szL (t.map (oS ms))=aV.szL t:=by rw[AM,AM,List.map_map];congr 1;refine List.map_congr_left fun x ad=>?_;obtain⟨y,rfl,_⟩:=aV.fits_ex (I x ad);simp only[Function.comp,Az,G1,agW]
  rw[e]
theorem Uu(ms:List (List ah)):∀g:List Gm,hO g=true->mZ (gL ms g)=mZ g
 |[],_=>rfl
 |x::g,h=>by simp only[hO,bF]at h;simp only[gL,mZ,Ux ms x h.1,Uu ms g h.2]
end
theorem U5{P:List Rl}(h:gC P=true)(au:pC P):pC (P.map Rl.num):=by
 unfold pC at au⊢;rw[List.map_map];have:P.map ((fun x=>x.body.w)∘Rl.num)=P.map fun x=>x.body.w:=List.map_congr_left fun x ad=>by simp only[Function.comp,Rl.num];exact Ux _ _ (nv h ad).2.2.1
 rw[this];exact au
theorem TD{P:List Rl}(h:gC P=true)(au:pC P):nY (hi P)=some (P.map Rl.num)/\gC (P.map Rl.num)=true/\nY (hi (P.map Rl.num)++[59,32,101,110,100])=some (P.map Rl.num):=by have I:=Dz h au;have J:=S5 h;have aA:=Dz J (U5 h au);have aB:=Tv h (r:=[]) (by rw[rs]) (by unfold jd;simp) (by simp;omega) Ω;have aU:=Tv J (r:=[59,32,101,110,100]) (ahL _ (by decide)) (by unfold jd;decide) (by simp;omega) Ω;rw[mg]at aB;rw[aeR h]at aU;exact⟨aB,J,aU⟩
theorem aiB{g:Gm}(h:g.shape=true):(j0 g).length<=(ff g).length:=by have aS:=DB g [] h (by simp[im]);rw[mg,rs,mg]at aS;rw[<-aS];exact yN _ (ff g) (c7 _)
theorem abk{g:Gm}(h:g.fits 80=true)(hw:g.w<=600):Aq (32::ff g)=some g:=by
 have au:g.shape=true:=by unfold Gm.fits at h;simp only[bF]at h;exact h.1
 have I:=BG g.sz g (c7 _) au;have J:=aiB au;exact(af2 h Ω Ω).2
def A7(P:List Rl)(i:Nat)(s:List ah):a6:=⟨[(3,.str s),(12,.slice 7 .no (P.map Rl.e)),(13,.int .i64 P.length),(14,.int .i64 i)],[],[],1,[]⟩
def A8(P:List Rl)(i:Nat)(s:List ah)(x:Rl)(k:Nat):a6:=⟨[(3,.str s),(5,.ptr (.loc 1) 0),(6,.slice 1 (.own (.loc 2)) (cl (x.name::dz 0 k))),(7,.int .i64 k),(12,.slice 7 .no (P.map Rl.e)),(13,.int .i64 P.length),(14,.int .i64 i)],[(.loc 1,[.str x.name,.int .i64 x.ar,.int .i64 x.loc,.int .i64 x.body.kind,.str x.body.name,.slice 4 .no (x.body.ts.map enc),.slice 4 .no (x.body.gs.map Gm.e)])],[(.loc 2,⟨k+1,9,1,none⟩)],3,[]⟩
theorem agf(n k:Nat):(dz k n).length=n:=by
 induction n generalizing k with
 |zero=>rfl
 |succ n bp=>simp[dz,bp]
theorem Iw:∀a b:List Rl,hi (a++b)=hi a++hi b
 |[],_=>rfl
 |x::a,b=>by simp[hi,Iw a b]
theorem Zg{P:List Rl}{i:Nat}{x:Rl}(h:P[i]? =some x):hi (P.take (i+1))=hi (P.take i)++tt x:=by rw[kV,h,Iw];simp[hi]
theorem Zh(P:List Rl)(i:Nat):(hi (P.take i)).length<=(hi P).length:=by
 have h:hi P=hi (P.take i)++hi (P.drop i):=by rw[<-Iw,List.take_append_drop]
 rw[h];simp
theorem VC(P:List Rl)(h:gC P=true)(au:pC P):ct aQ 43 [ho P] (.str (hi P)):=by
 have aG:=(Dz h au).1;have fC:=DK P;rw[h]at fC;have abw:P.length<=8:=by unfold gC at h;simp only[bF,ea]at h;exact h.1.1
 refine bW vC Zn ae2 fun aL=>?_;unfold Nz;clear aL;simp;(with_reducible repeat' first|refine av ?_|refine ba fC ?_|refine bb fC ?_|simp);refine gP (A7 P) P.length (fun i s=>s=hi (P.take i)) [] (by simp[A7];exact cX) (by simp[hi]) (fun s aD _=>?_) (fun i s aE aD _=>?_)
 ·rw[kH]at aD;subst aD;simp[A7];exact cB
 obtain⟨x,ad,gr⟩:=gp aE;obtain⟨akP,l5,ac6,_⟩:=nv h (fq ad);have eZ:=Zg ad;have hle:=Zh P (i+1);rw[eZ,<-aD]at hle;rw[<-aD]at eZ;have cb:aZ ((i:Int)+1):=by unfold aZ;omega
 have akR:x.body.w<=600:=by have:=FP (fun x:Rl=>x.body.w) (fq ad);unfold pC at au;omega
 have iN:=VM x.body.sz x.body (c7 _) ac6 Ω;clear fC au aD;simp[A7,aE,gr];(with_reducible repeat' first|refine av ?_|simp[aE,gr]);refine gf (fun k:Nat=>A8 P i s x k) (fun k=>x.ar.toNat-k) (fun k=>k<=x.ar.toNat) 0 (by simp[A8,dz,oW,pE];exact cX) (o3 _) ?_;intro k aa _;by_cases e2:k<x.ar.toNat
 ·have bY:(k:Int)<x.ar:=Ω
  have adW:aZ ((k:Int)+1):=by unfold aZ;omega
  have fj:=vE (k:Int);have ec:=VE (.var (k:Int)) (V0 Ω);have adn:dw (.var (k:Int))=hP (k:Int):=rfl;rw[adn]at ec;have fx:k+1+1<=bs:=by unfold bs;omega
  have nk:=wR k 0;rw[n9]at nk;simp[A8];(with_reducible repeat' first|refine av ?_|refine ba fj ?_|refine bb fj ?_|refine ba ec ?_|refine bb ec ?_|simp[bY,adW,fx,agf]);refine bU.whl (k+1) Ω e2 ?_;simp[A8,nk,oW,ub,pE];exact⟨by simp[fresh,aj,ak,bj,ag,Pv.look,bC],cg (by simp[fresh,aj,ak,bj,ag,Pv.look,bC]),ch (by simp[fresh,aj,ak,cc,ag,Pv.look,bC]),Ψ⟩
 ·have xZ:k=x.ar.toNat:=Ω
  subst xZ;have js:¬((x.ar.toNat:Int)<x.ar):=Ω
  have l3:tt x=[40,100,101,102,105,110,101,32,40]++fK [32] (x.name::dz 0 x.ar.toNat)++[41,32]++ff x.body++[41,10]:=by simp[tt,ha]
  have nM:=hle;rw[l3]at hle eZ;simp only[fU,ga,mh]at hle;have jT:(fK [32] (x.name::dz 0 x.ar.toNat)).length<=bs:=by unfold bs;omega
  have q9:=Me (x.name::dz 0 x.ar.toNat) [32] jT;obtain⟨fV,jl⟩:∃fV,fV=fK [32] (x.name::dz 0 x.ar.toNat):=⟨_,rfl⟩;rw[<-jl]at q9 hle eZ jT;have ck:s.length+9<=bs:=by unfold bs;omega
  have cr:s.length+9+fV.length<=bs:=by unfold bs;omega
  have fo:s.length+9+fV.length+2<=bs:=by unfold bs;omega
  have Bn:s.length+9+fV.length+2+(ff x.body).length<=bs:=by unfold bs;omega
  have y2:s.length+9+fV.length+2+(ff x.body).length+2<=bs:=by unfold bs;omega
  have c2:s.length+(9+fV.length)<=bs:=Ω
  have c3:s.length+(9+(fV.length+2))<=bs:=Ω
  have c4:s.length+(9+(fV.length+(2+(ff x.body).length)))<=bs:=Ω
  have c5:s.length+(9+(fV.length+(2+((ff x.body).length+2))))<=bs:=Ω
  simp[A8];((with_reducible repeat' first|refine av ?_|refine ba q9 ?_|refine bb q9 ?_|refine ba iN ?_|refine bb iN ?_|simp[js,ck,cr,fo,Bn,y2,c2,c3,c4,c5,cb]|((first|apply cN|apply cP|apply cO)<;>intro h<;>try simp at h))<;>(try exact dr));refine bU.rng _ aE eZ.symm ?_;simp[A7];exact cX
theorem ah0(P:List Rl)(h:gC P=true)(au:pC P):ct aQ 42 [ho P] (.tuple [ho (P.map Rl.num),.bool true]):=by have fC:=DK P;rw[h]at fC;have cZ:=VC P h au;have aG:=(Dz h au).1;have nm:=VH (hi P) (by unfold bs;omega);rw[(TD h au).1]at nm;simp only[je]at nm;generalize P.map Rl.num=Q at nm⊢;refine bW vC Zu ae9 fun aL=>?_;unfold NH;clear aL;simp;((with_reducible repeat' first|refine av ?_|refine ba fC ?_|refine bb fC ?_|refine ba cZ ?_|refine bb cZ ?_|refine ba nm ?_|refine bb nm ?_|simp|((first|apply cN|apply cP|apply cO)<;>intro h<;>try simp at h))<;>(try exact dr));simp[b8,TM,bg,bh,bf]
def sJ:Nat->bS->bS
 |0,c=>c
 |n+1,c=>(sJ n c).next
theorem LJ{c:bS}(h:c.ok):∀n,(sJ n c).ok
 |0=>h
 |n+1=>(LJ h n).next
theorem SL{d:List Int}(aP:tg d)(aG:d.length<=10000000):(wG d).ok:=⟨aP,aG,by simp[-aC,-aw,wG]⟩
def rQ(d:List Int)(n:Nat):bS:=sJ n (wG d)
theorem O0{d:List Int}(aP:tg d)(aG:d.length<=10000000)(n:Nat):(rQ d n).ok:=LJ (SL aP aG) n
theorem cV(S:aO->Prop)(c:bS):aj S c.e:=by simp[-aC,-aw,bS.e,aj,ak]
def adG(c:bS)(n:Nat)(k:Nat)(st:a6):Prop:=∃i:Nat,i<=n/\k=n-i/\st=⟨[(1,.int .i64 n),(5,.ptr (.obj 401) 0),(6,.int .i64 i)],[(.obj 401,(sJ i c).e)],[],0,[.obj 401]⟩
theorem Qf(d:List Int)(aP:tg d)(aG:d.length<=10000000)(n:Nat)(aJ:n<=1000000):bJ aQ 70 [.slice 1 .no (iz d),.int .i64 n] ⟨[],[]⟩ fun r aq=>r= .ptr (.obj 401) 0/\aq=aN (rQ d n):=by
 unfold rQ;have au:gJ ⟨[],[]⟩:=(gJ.of ⟨by intro m;simp[-aC,-aw,Pv.look],by intro m;simp[-aC,-aw,Pv.look]⟩ (by simp[-aC,-aw,aj,ak,ag,Pv.look]) (by simp[-aC,-aw,aj,ak,ag,Pv.look]));refine bJ.mk mixed sR aai afX (by simp[-aC,-aw]) au.obj fun aL bT=>?_;unfold OB;simp[-aC,-aw];refine bc.new (aaR d aP aG) au ai ai (by simp[-aC,-aw]) ?_;rintro r aq ⟨rfl,rfl⟩;refine⟨fun m _=>.inr (by simp[-aC,-aw]),?_⟩;unfold aN;simp[-aC,-aw,aX];refine xB (adG (wG d) n) n _ ⟨by simp[-aC,-aw,fresh,aj,ak,bj,ag,Pv.look,cV,sJ],cg (by simp[-aC,-aw,fresh,aj,ak,bj,ag,Pv.look,cV,sJ]),ch (by simp[-aC,-aw,fresh,aj,ak,cc,ag,Pv.look,cV,sJ]),by simp[-aC,-aw]⟩ ⟨0,Ω,rfl,rfl⟩ ?_;rintro k st ⟨i,aE,aa,rfl⟩ qZ bT;clear qZ bT;simp[-aC,-aw];(with_reducible repeat' first|((first|apply cN|apply cP|apply cO)<;>intro h<;>try simp[-aC,-aw]at h)|refine av ?_|simp[-aC,-aw])
 ·(refine bc.ob (Qb _ (LJ (SL aP aG) i)) (cn _) (by unfold aN;exact ai) (by unfold aN;exact ai) (by simp[-aC,-aw,ag,aN,Pv.look]) ?_;rintro r aq ⟨rfl,rfl⟩;refine⟨c6 _ _,?_⟩;unfold aN;simp[-aC,-aw,aX]);(with_reducible repeat' first|((first|apply cN|apply cP|apply cO)<;>intro h<;>try simp[-aC,-aw]at h)|refine av ?_|simp[-aC,-aw]);refine bU.next (n-(i+1)) Ω ⟨i+1,Ω,rfl,rfl⟩ ⟨by simp[-aC,-aw,fresh,aj,ak,bj,ag,Pv.look,cV,sJ],cg (by simp[-aC,-aw,fresh,aj,ak,bj,ag,Pv.look,cV,sJ]),ch (by simp[-aC,-aw,fresh,aj,ak,cc,ag,Pv.look,cV,sJ]),by simp[-aC,-aw]⟩
 ·obtain rfl:i=n:=Ω
  refine bL.new (aN (sJ i (wG d))) (.inl rfl) (cn _) (by simp[-aC,-aw,gE]) (by unfold aN;exact ai) (by unfold aN;exact ai) ?_;simp[-aC,-aw,bV,Ub,bg,bh,bf,aN,ag,Pv.look]
/-What is drawn. -/
theorem WK(k:Int)(bK:0<=k)(I:k<7):(xl k).ok=true/\(∀v,(xl k).occ v=false)/\(xl k).size=1:=by obtain⟨n,rfl⟩:∃n:Nat,k=n:=⟨k.toNat,Ω⟩;rcases(by omega:n=0\/n=1\/n=2\/n=3\/n=4\/n=5\/n=6)with rfl|rfl|rfl|rfl|rfl|rfl|rfl<;>refine⟨?_,fun v=>?_,?_⟩<;>first|rfl|decide
theorem Pg(vars:Int)(aK:vars<=100001)(n:Nat):∀c:bS,(eD n vars c).1.ok=true/\(∀v,(eD n vars c).1.occ v=true->0<=v/\v<vars)/\(eD n vars c).1.size<=2*n-1+(if n=0 then 1 else 0):=by
 induction n using Nat.strongRecOn with
 |ind n bp=>
  intro c;have dW:=c.next.below_le 7 Ω;rw[eD];split
  ·rename_i h;obtain⟨b4,a2,a3⟩:=bp (n/2) Ω c.next;obtain⟨ck,cr,fo⟩:=bp (n/2) Ω (eD (n/2) vars c.next).2;refine⟨by simp[T.ok,b4,ck],fun v aK=>?_,?_⟩
   ·simp only[T.occ,Bool.or_eq_true]at aK;rcases aK with aK|aK
    ·exact a2 v aK
    ·exact cr v aK
   ·simp only[T.size];split at a3<;>split at fo<;>split<;>omega
  ·split
   ·rename_i h;have:=c.next.below_le vars h.1;refine⟨by simp[T.ok];omega,fun v aK=>?_,by simp only[T.size];split<;>omega⟩;simp[T.occ]at aK;omega
   ·obtain⟨b4,a2,a3⟩:=WK _ dW.1 dW.2;refine⟨b4,fun v aK=>?_,?_⟩
    ·simp only[a2 v]at aK;cases aK
    ·simp only[a3];split<;>omega
theorem Wy{t u:T}(I:t.kind=u.kind)(J:t.int=u.int)(aA:t.name=u.name)(aS:t.args=u.args):t=u:=by cases t<;>cases u<;>simp_all
def adK(t u:T)(k:Nat)(st:a6):Prop:=∃i:Nat,i<=t.args.length/\k=t.args.length-i/\t.args.take i=u.args.take i/\st=⟨[(3,.ptr (.loc 1) 0),(36,.slice 4 .no (t.args.map T.e)),(37,.int .i64 t.args.length),(38,.int .i64 i)],[(.loc 1,[.int .i64 u.kind,.int .i64 u.int,.str u.name,.slice 4 .no (u.args.map T.e)])],[],2,[]⟩
theorem VY(t:T)(bp:∀x∈t.args,∀u:T,ct aQ 24 [x.e,u.e] (.bool (decide (x=u))))(u:T):ct aQ 24 [t.e,u.e] (.bool (decide (t=u))):=by
 have hle:t.args.length<=2:=by cases t<;>simp
 refine bW ahR ZQ afv fun aL=>?_;unfold N3;simp;(with_reducible repeat' first|((first|apply cN|apply cP|apply cO)<;>intro h<;>try simp at h)|refine av ?_|simp)
 ·simp[b8,Dh,bg,bh,bf];intro e;subst e;simp_all
 ·refine xB (adK t u) t.args.length _ cX ⟨0,Ω,Ω,Ψ,rfl⟩ ?_;rintro k st ⟨i,aE,aa,zR,rfl⟩ qZ bT;clear qZ bT;by_cases bY:i<t.args.length
  ·have Q4:i<u.args.length:=Ω
   simp[bY,Q4];(with_reducible repeat' first|((first|apply cN|apply cP|apply cO)<;>intro h<;>try simp at h)|refine av ?_|refine ba (bp _ (List.getElem_mem bY) _) ?_|refine bb (bp _ (List.getElem_mem bY) _) ?_|simp)
   ·simp[b8,Dh,bg,bh,bf];intro e;subst e;simp_all
   ·refine bU.next (t.args.length-(i+1)) Ω ⟨i+1,Ω,rfl,?_,rfl⟩ cX;rw[List.take_succ,List.take_succ,zR,cS bY,cS Q4,h]
  ·simp[bY];(with_reducible repeat' first|refine av ?_|simp);simp[b8,Dh,bg,bh,bf];have:t.args=u.args:=by rw[rH Ω,rH Ω]at zR;exact zR
   simp_all;exact Wy (by assumption) (by assumption) (by assumption) (by assumption)
 all_goals simp[b8,Dh,bg,bh,bf]
 all_goals(intro e;subst e;simp_all)
theorem aip(t:T):∀u:T,ct aQ 24 [t.e,u.e] (.bool (decide (t=u))):=by
 induction t with
 |pair a b qe qf=>
  refine VY _ fun x ad=>?_;simp at ad;rcases ad with rfl|rfl
  ·exact qe
  ·exact qf
 |_=>exact VY _ fun x ad=>by simp at ad
def HN:C:=(af [bZ 2 false] (.seq (af [ab 13 0,cJ 14 13,bk 15 .gtr 14 1048576] (bt 15 (af [bZ 2 true] .ret) .skip)) (af [ab 16 0,eM 17 31 [.t 16,(b6 0),(b6 2)],cd (.alloc 3 none (.agg [.slice 7 .nil []])),bD 1 3 17] (af [ab 18 0,bO 19 1 3,eM 20 32 [.t 18,(b6 60),.t 19,(b6 2)],cd (.alloc 4 none (.agg [.int .i64 0,.str [],.slice 4 .nil [],.slice 4 .nil []])),bD 4 4 20] (af [bO 22 1 3,cC 23 42 22,ab 21 23,dI 24 0 21,dI 25 1 21,cd (.alloc 5 none (.agg [.slice 7 .nil []])),bD 1 5 24,ab 6 25] (af [bO 27 1 5,cC 28 43 27,a8 29 (.bin .add false (.t 28) (.c (.str [59,32,101,110,100]))),cC 30 38 29,ab 26 30,dI 31 0 26,dI 32 1 26,cd (.alloc 7 none (.agg [.slice 7 .nil []])),bD 1 7 31,ab 8 32] (af [bO 34 4 4,cC 35 45 34,a8 36 (.bin .add false (.c (.str [32])) (.t 35)),cC 37 44 36,ab 33 37,dI 38 0 33,dI 39 1 33,cd (.alloc 9 none (.agg [.int .i64 0,.str [],.slice 4 .nil [],.slice 4 .nil []])),bD 4 9 38,ab 10 39] (.seq (af [ab 40 6,dq 41 40,ab 42 41,b0 42 false 43 8,aF 42 false (dq 44 43),cH 45 42 44,ab 46 45,b0 46 false 47 10,aF 46 false (dq 48 47),cH 49 46 48,ab 50 49,aF 50 false (bO 51 1 5),aF 50 false (bO 52 1 7),aF 50 false (eN 53 46 51 52),aF 50 false (dq 54 53),cH 55 50 54,ab 56 55,aF 56 false (bO 57 4 4),aF 56 false (bO 58 4 9),aF 56 false (eN 59 47 57 58),aF 56 false (dq 60 59),cH 61 56 60,ab 62 61,aF 62 false (bm 63 0 1 5),aF 62 false (a7 64 1 63),aF 62 false (cJ 65 64),aF 62 false (bm 66 0 1 3),aF 62 false (a7 67 1 66),aF 62 false (cJ 68 67),aF 62 false (cA 69 .neq 65 68),cH 70 62 69] (bt 70 (af [bZ 2 false] .ret) .skip)) (.seq (af [bm 71 0 1 5,a7 72 1 71,cJ 73 72,cG 74 0] (jx 75 74 73 (.seq (.block 1 (af [ab 76 74,dm 77 7 72 74,bO 78 7 77,cd (.alloc 12 none (.agg [.str [],.int .i64 0,.int .i64 0,.int .i64 0,.str [],.slice 4 .nil [],.slice 4 .nil []])),ab 11 76,bD 7 12 78] (.seq (.drawn true 131 (bm 79 0 1 12::a7 80 1 79::bm 81 0 1 3::a7 82 1 81::ab 83 11::dm 84 7 82 83::bm 85 0 1 84::a7 86 1 85::cA 87 .neq 80 86::ab 88 87::aF 88 false (bm 89 1 1 12)::aF 88 false (a7 90 1 89)::aF 88 false (bm 91 0 1 3)::aF 88 false (a7 92 1 91)::b0 88 false 93 11::aF 88 false (dm 94 7 92 93)::aF 88 false (bm 95 1 1 94)::aF 88 false (a7 96 1 95)::aF 88 false (cA 97 .neq 90 96)::cH 98 88 97::ab 99 98::aF 99 false (bm 100 2 1 12)::aF 99 false (a7 101 1 100)::aF 99 false (bm 102 0 1 3)::aF 99 false (a7 103 1 102)::b0 99 false 104 11::aF 99 false (dm 105 7 103 104)::aF 99 false (bm 106 2 1 105)::aF 99 false (a7 107 1 106)::aF 99 false (cA 108 .gtr 101 107)::cH 109 99 108::ab 110 109::aF 110 false (qo 111 3 4 12)::aF 110 false (bO 112 4 111)::aF 110 false (cC 113 48 112)::aF 110 false (bm 114 0 1 3)::aF 110 false (a7 115 1 114)::b0 110 false 116 11::aF 110 false (dm 117 7 115 116)::aF 110 false (qo 118 3 4 117)::aF 110 false (bO 119 4 118)::aF 110 false (cC 120 48 119)::aF 110 false (cA 121 .neq 113 120)::cH 122 110 121::[])) (bt 122 (af [bZ 2 false] .ret) .skip)))) (.region [bk 123 .add 74 1,ab 74 123])))) (af [bO 124 1 3,bO 125 4 4,eM 126 49 [.t 124,.t 125,(b6 3)],ab 127 126,aF 127 true (bO 128 1 5),aF 127 true (cC 129 50 128),ep 130 127 129,ab 2 130] .ret))))))))))
@[simp] def TW:List cu:=[.tmp 2]
def N2:C:=(af [fl 2 0,fl 3 1,bZ 4 false] (.seq (af [bm 8 0 1 2,a7 9 1 8,cJ 10 9,bm 11 0 1 3,a7 12 1 11,cJ 13 12,cA 14 .neq 10 13] (bt 14 (af [bZ 4 false] .ret) .skip)) (.seq (af [bm 15 0 1 2,a7 16 1 15,cJ 17 16,cG 18 0] (jx 19 18 17 (.seq (.block 1 (af [ab 20 18,dm 21 7 16 18,bO 22 7 21,cd (.alloc 6 none (.agg [.str [],.int .i64 0,.int .i64 0,.int .i64 0,.str [],.slice 4 .nil [],.slice 4 .nil []])),ab 5 20,bD 7 6 22] (af [bm 23 0 1 3,a7 24 1 23,ab 25 5,dm 26 7 24 25,bO 27 7 26,cd (.alloc 7 none (.agg [.str [],.int .i64 0,.int .i64 0,.int .i64 0,.str [],.slice 4 .nil [],.slice 4 .nil []])),bD 7 7 27] (af [bm 28 0 1 6,a7 29 1 28,bm 30 0 1 7,a7 31 1 30,cA 32 .neq 29 31,ab 33 32,aF 33 false (bm 34 1 1 6),aF 33 false (a7 35 1 34),aF 33 false (bm 36 1 1 7),aF 33 false (a7 37 1 36),aF 33 false (cA 38 .neq 35 37),cH 39 33 38,ab 40 39,aF 40 false (bm 41 2 1 6),aF 40 false (a7 42 1 41),aF 40 false (bm 43 2 1 7),aF 40 false (a7 44 1 43),aF 40 false (cA 45 .neq 42 44),cH 46 40 45,ab 47 46,aF 47 false (qo 48 3 4 6),aF 47 false (bO 49 4 48),aF 47 false (qo 50 3 4 7),aF 47 false (bO 51 4 50),aF 47 false (eN 52 47 49 51),aF 47 false (dq 53 52),cH 54 47 53] (bt 54 (af [bZ 4 false] .ret) .skip))))) (.region [bk 55 .add 18 1,ab 18 55])))) (af [bZ 4 true] .ret))))
@[simp] def TZ:List cu:=[.tmp 4]
def N0:C:=(af [fl 2 0,fl 3 1,bZ 4 false] (.seq (af [bm 7 0 1 2,a7 8 1 7,bm 9 0 1 3,a7 10 1 9,cA 11 .neq 8 10,ab 12 11,aF 12 false (bm 13 1 1 2),aF 12 false (a7 14 1 13),aF 12 false (bm 15 1 1 3),aF 12 false (a7 16 1 15),aF 12 false (cA 17 .neq 14 16),cH 18 12 17,ab 19 18,aF 19 false (bm 20 2 1 2),aF 19 false (a7 21 1 20),aF 19 false (bm 22 2 1 3),aF 19 false (a7 23 1 22),aF 19 false (eN 24 116 21 23),aF 19 false (dq 25 24),cH 26 19 25,ab 27 26,aF 27 false (bm 28 3 1 2),aF 27 false (a7 29 1 28),aF 27 false (cJ 30 29),aF 27 false (bm 31 3 1 3),aF 27 false (a7 32 1 31),aF 27 false (cJ 33 32),aF 27 false (cA 34 .neq 30 33),cH 35 27 34] (bt 35 (af [bZ 4 false] .ret) .skip)) (.seq (af [bm 36 3 1 2,a7 37 1 36,cJ 38 37,cG 39 0] (jx 40 39 38 (.seq (.block 1 (af [ab 41 39,dm 42 4 37 39,bO 43 4 42,cd (.alloc 6 none (.agg [.int .i64 0,.str [],.slice 4 .nil [],.slice 4 .nil []])),ab 5 41,bD 4 6 43] (.seq (.drawn true 53 [bO 44 4 6,bm 45 3 1 3,a7 46 1 45,ab 47 5,dm 48 4 46 47,bO 49 4 48,eN 50 47 44 49,dq 51 50]) (bt 51 (af [bZ 4 false] .ret) .skip)))) (.region [bk 52 .add 39 1,ab 39 52])))) (af [bZ 4 true] .ret))))
@[simp] def TX:List cu:=[.tmp 4]
def N1:C:=(af [bZ 4 false] (.seq (af [ab 7 0,cJ 8 7,ab 9 1,cJ 10 9,cA 11 .neq 8 10] (bt 11 (af [bZ 4 false] .ret) .skip)) (.seq (af [ab 12 0,cJ 13 12,cG 14 0] (jx 15 14 13 (.seq (.block 1 (af [ab 16 14,dm 17 4 12 14,bO 18 4 17,gI 6 dv,ab 5 16,bD 4 6 18] (.seq (.drawn true 27 [bO 19 4 6,ab 20 1,ab 21 5,dm 22 4 20 21,bO 23 4 22,eN 24 24 19 23,dq 25 24]) (bt 25 (af [bZ 4 false] .ret) .skip)))) (.region [bk 26 .add 14 1,ab 14 26])))) (af [bZ 4 true] .ret))))
@[simp] def TY:List cu:=[.tmp 4]
def DH:List (Nat×dt):=[
 (3,⟨1,8,.int .i64,.int .i64 0⟩),
 (9,⟨1,16,.str,.str []⟩),
 (35,⟨1,24,.slice 5,.slice 1 .nil []⟩),
 (38,⟨1,24,.slice 40,.slice 4 .nil []⟩),
 (40,⟨4,56,.struct [(0,3),(1,3),(2,9),(3,38)],.agg [.int .i64 0,.int .i64 0,.str [],.slice 4 .nil []]⟩),
 (59,⟨1,24,.slice 86,.slice 7 .nil []⟩),
 (61,⟨1,24,.struct [(0,59)],.agg [.slice 7 .nil []]⟩),
 (63,⟨1,24,.slice 65,.slice 4 .nil []⟩),
 (65,⟨4,72,.struct [(0,3),(1,9),(2,38),(3,63)],.agg [.int .i64 0,.str [],.slice 4 .nil [],.slice 4 .nil []]⟩),
 (86,⟨7,104,.struct [(0,9),(1,3),(2,3),(3,65)],.agg [.str [],.int .i64 0,.int .i64 0,.int .i64 0,.str [],.slice 4 .nil [],.slice 4 .nil []]⟩)]
theorem DI:e7 aQ DH=true:=by kernel_rfl
theorem Tg:cI DH HN TW 1 j2=true:=by kernel_rfl
theorem PD:aQ.funcs[(8:Nat)]? =some j2:=Tryz.func8
theorem afu:cI DH N2 TZ 2 Tryz.f46=true:=by kernel_rfl
theorem ZP:aQ.funcs[(46:Nat)]? =some Tryz.f46:=Tryz.func46
theorem afs:cI DH N0 TX 2 Tryz.f47=true:=by kernel_rfl
theorem ZN:aQ.funcs[(47:Nat)]? =some Tryz.f47:=Tryz.func47
theorem aft:cI DH N1 TY 2 Tryz.f116=true:=by kernel_rfl
theorem ZO:aQ.funcs[(116:Nat)]? =some Tryz.f116:=Tryz.func116
theorem aih(l:List aV)(aG:l.length<=1000000)(h:∀x∈l,x.fits=true):ct aQ 116 [.slice 4 .no (l.map enc),.slice 4 .no (l.map enc)] (.bool true):=by
 refine bW DI ZO aft fun aL=>?_;unfold N1;clear aL;simp;refine gP (fun i (_:Unit)=>⟨[(1,.slice 4 .no (l.map enc)),(12,.slice 4 .no (l.map enc)),(13,.int .i64 l.length),(14,.int .i64 i)],[],[],0,[]⟩) l.length (fun _ _=>True) () (by simp;exact cX) trivial (fun p aD _=>?_) (fun i p aE aD _=>?_)
 ·simp;simp[b8,TY,bg,bh,bf]
 ·obtain⟨x,aK⟩:∃b,l[i]? =some b:=⟨_,cS aE⟩;have q4:∀h,(l[i]'h)=x:=fun h=>by rw[cS aE]at aK;exact hd aK
  have cb:aZ ((i:Int)+1):=by unfold aZ;omega
  obtain⟨t,rfl,_⟩:=aV.fits_ex (h x (fq aK));have b7:=aip t t;rw[nD rfl,<-tq]at b7;clear h;simp[aE,q4];(with_reducible repeat' first|refine av ?_|refine ba b7 ?_|refine bb b7 ?_|simp[aE,q4,cb]);refine bU.rng () aE trivial cX
def A9(g:Gm)(i:Nat)(_:Unit):a6:=⟨[(3,.ptr (.loc 1) 0),(37,.slice 4 .no (g.gs.map Gm.e)),(38,.int .i64 g.gs.length),(39,.int .i64 i)],[(.loc 1,[.int .i64 g.kind,.str g.name,.slice 4 .no (g.ts.map enc),.slice 4 .no (g.gs.map Gm.e)])],[],2,[]⟩
theorem VN:∀(n:Nat) (g:Gm),g.sz<=n->g.shape=true->ct aQ 47 [g.e,g.e] (.bool true):=by
 intro n;induction n with
 |zero=>intro g aR;have:=g.sz_pos;omega
 |succ n bp=>
 intro g aR au;have k7:=Dv au;have l9:=aih g.ts Ω (ua au);refine bW DI ZN afs fun aL=>?_;unfold N0;clear aL;simp;(with_reducible repeat' first|refine av ?_|refine ba l9 ?_|refine bb l9 ?_|simp);refine gP (A9 g) g.gs.length (fun _ _=>True) () (by simp[A9];exact cX) trivial (fun p aD _=>?_) (fun i p aE aD _=>?_)
 ·simp[A9];simp[b8,TX,bg,bh,bf]
 ·obtain⟨x,ad,gr⟩:=gp aE;have qc:=fq ad;have fD:=bp x (by have:=g.gs_lt qc;omega) (sI au x qc);have cb:aZ ((i:Int)+1):=by unfold aZ;omega
  clear bp aD ad;simp[A9,aE,gr];(with_reducible repeat' first|refine av ?_|refine ba fD ?_|refine bb fD ?_|simp[aE,gr,cb]);refine bU.rng () aE trivial (by simp[A9];exact cX)
def Bc(P:List Rl)(i:Nat)(_:Unit):a6:=⟨[(3,.ptr (.loc 1) 0),(16,.slice 7 .no (P.map Rl.e)),(17,.int .i64 P.length),(18,.int .i64 i)],[(.loc 1,[.slice 7 .no (P.map Rl.e)])],[],2,[]⟩
theorem aij(P:List Rl)(aG:P.length<=1000000)(h:∀x∈P,x.body.shape=true):ct aQ 46 [ho P,ho P] (.bool true):=by
 refine bW DI ZP afu fun aL=>?_;unfold N2;clear aL;simp;(with_reducible repeat' first|refine av ?_|simp);refine gP (Bc P) P.length (fun _ _=>True) () (by simp[Bc];exact cX) trivial (fun p aD _=>?_) (fun i p aE aD _=>?_)
 ·simp[Bc];simp[b8,TZ,bg,bh,bf]
 ·obtain⟨x,ad,gr⟩:=gp aE;have fD:=VN x.body.sz x.body (c7 _) (h x (fq ad));have cb:aZ ((i:Int)+1):=by unfold aZ;omega
  clear aD ad h;simp[Bc,aE,gr];(with_reducible repeat' first|refine av ?_|refine ba fD ?_|refine bb fD ?_|simp[aE,gr,cb]);refine bU.rng () aE trivial (by simp[Bc];exact cX)
theorem VF{g:Gm}(h:g.fits 80=true):ct aQ 48 [g.e] (.int .i64 g.sz):=by
 have cE:=Mh g.sz g (c7 _) 80 Ω;have J:g.shape=true/\(g.sz:Int)<=80:=by unfold Gm.fits at h;simp only[bF,ea]at h;exact⟨h.1,Ω⟩
 rw[wF J.1 J.2]at cE;refine bW kU Zr ae6 fun aL=>?_;unfold ND;clear aL;have aJ:¬(g.sz:Int)<0:=Ω
 simp;((with_reducible repeat' first|refine av ?_|refine ba cE ?_|refine bb cE ?_|simp[aJ]|((first|apply cN|apply cP|apply cO)<;>intro h<;>try simp at h))<;>(try exact dr));simp[b8,TK,bg,bh,bf];all_goals omega
theorem ahY{P:List Rl}{g:Gm}(hW:gC P=true)(h:g.fits 80=true)(n:Int)(aK:o1 g n=true)(aH:g.cf P=true):ct aQ 49 [ho P,g.e,.int .i64 n] (.bool true):=by have cE:=DK P;have dj:=Mc g;have gD:=ah3 P g (by unfold Gm.fits at h;simp only[bF]at h;exact h.1) n;rw[hW]at cE;rw[h]at dj;rw[aK,aH]at gD;refine bW sS Zp ae4 fun aL=>?_;unfold NB;clear aL;exact cB
def N8:C:=(af [cd (.alloc 6 none (.agg [.slice 7 .nil []]))] (af [ab 10 0,ab 11 1,eN 12 70 10 11,ab 7 12] (af [ab 14 7,cC 15 95 14,cC 16 94 15,cC 17 37 16,ab 13 17,dI 18 0 13,dI 19 1 13,cd (.alloc 8 none (.agg [.slice 7 .nil []])),bD 1 8 18,ab 9 19] (.seq (af [ab 20 9,ab 21 20,b0 21 true 22 7,aF 21 true (eM 23 96 [.t 22,(b6 8)]),ep 24 21 23,ab 25 24,b0 25 true 26 2,aF 25 true (bk 27 .eql 26 2),b0 25 true 28 27,b0 28 false 29 2,aF 28 false (bk 30 .eql 29 1),b0 28 false 31 30,aF 31 true (bO 32 1 8),aF 31 true (cC 33 97 32),aF 28 false (ep 34 31 33),aF 25 true (cH 35 28 34),b0 25 true 36 35,aF 36 false (bO 37 1 8),aF 36 false (cC 38 98 37),aF 25 true (cH 39 36 38),ep 40 25 39] (bt 40 (af [bO 41 1 8,bD 1 6 41] .ret) .skip)) (af [ab 42 7,ab 43 2,eN 44 99 42 43,bD 1 6 44] .ret)))))
@[simp] def Gu:List cu:=[.cell 6 true 1]
def N7:C:=(af [fl 6 2,cd (.alloc 8 none (.agg [.int .i64 0,.str [],.slice 4 .nil [],.slice 4 .nil []]))] (.seq (.drawnW [401] 15 [ab 9 0,ab 10 1,eN 11 70 9 10,bO 12 1 6,ab 13 3,eM 14 100 [.t 11,.t 12,(b6 3),.t 13],bD 4 8 14]) .ret))
@[simp] def agF:List cu:=[.cell 8 true 4]
def Ow:C:=(af [cd (.alloc 4 none (.agg [.slice 7 .nil []]))] (af [a8 13 (.build [.slice 7 .nil []] []),cd (.alloc 5 none (.agg [.slice 7 .nil []])),bD 1 5 13] (.seq (af [cd (.bsl 14 1 9 [(.c (.str [112])),(.c (.str [113])),(.c (.str [114]))]),ab 15 0,eM 16 140 [.t 15,(b6 3)],a8 17 (.bin .add false (b6 1) (.t 16)),a8 18 (.lsl 1 (.t 14) none (some (.t 17))),cJ 19 18,cG 20 0] (jx 21 20 19 (.seq (.block 1 (af [dm 22 1 18 20,a7 23 1 22,ab 7 23] (.drawnW [402] 98 [bm 24 0 1 5,a7 25 1 24,ab 26 7,ab 27 0,eM 28 140 [.t 27,(b6 2)],a8 29 (.bin .add false (b6 1) (.t 28)),ab 30 0,eM 31 140 [.t 30,(b6 2)],a8 32 (.build [.str [],.int .i64 0,.int .i64 0,.int .i64 0,.str [],.slice 4 .no [],.slice 4 .no []] [(0,1,(.t 26)),(1,1,(.t 29)),(2,1,(.t 31))]),fm 33 7 86 [.t 32],cd (.appm 34 (some 402) 7 86 (.t 25) (.t 33)),bm 35 0 1 5,bD 1 35 34]))) (.region [bk 36 .add 20 1,ab 20 36])))) (.seq (af [bm 37 0 1 5,a7 38 1 37,cJ 39 38,cG 40 0] (.block 2 (.loop (af [cA 41 .lss 40 39] (.seq (bt 41 .skip (.exit 2)) (.seq (.block 3 (af [ab 42 40,dm 43 7 38 40,bO 44 7 43,cd (.alloc 9 none (.agg [.str [],.int .i64 0,.int .i64 0,.int .i64 0,.str [],.slice 4 .nil [],.slice 4 .nil []])),ab 8 42,bD 7 9 44] (af [bm 45 1 1 9,a7 46 1 45,bm 47 2 1 9,a7 48 1 47,cA 49 .add 46 48,ab 10 49] (af [ab 50 0,bm 51 0 1 5,a7 52 1 51,ab 53 10,ab 54 1,eM 55 165 [.t 50,.t 52,.t 53,(b6 0),.t 54],fm 56 4 65 [.t 55],a8 57 (.build [.int .i64 0,.str [],.slice 4 .nil [],.slice 4 .nil []] [(0,1,(b6 8)),(3,1,(.t 56))]),cd (.alloc 11 none (.agg [.int .i64 0,.str [],.slice 4 .nil [],.slice 4 .nil []])),bD 4 11 57] (.seq (af [ab 58 0,eM 59 140 [.t 58,(b6 3)],ab 12 59] (.block 4 (.loop (.seq (af [ab 60 12,bk 61 .gtr 60 0] (bt 61 .skip (.exit 4))) (.seq (.block 5 (.drawn false 98 [bm 64 3 1 11,a7 65 1 64,ab 66 0,bm 67 0 1 5,a7 68 1 67,ab 69 10,ab 70 0,eM 71 140 [.t 70,(b6 5)],bk 72 .quo 71 2,ab 73 1,eM 74 165 [.t 66,.t 68,.t 69,.t 72,.t 73],fm 75 4 65 [.t 74],j1 76 4 65 65 75,bm 77 3 1 11,bD 1 77 76])) (.region [ab 62 12,bk 63 .sub 62 1,ab 12 63])))))) (.seq (af [bm 78 3 1 11,a7 79 1 78,cJ 80 79,bk 81 .eql 80 1,ab 82 81,b0 82 true 83 0,aF 82 true (eM 84 96 [.t 83,(b6 2)]),ep 85 82 84] (bt 85 (.region [bm 86 3 1 11,a7 87 1 86,mO 88 4 87 0,bO 89 4 88,bD 4 11 89]) .skip)) (.fz true 11 (.fg false 11 (.region [bm 90 0 1 5,a7 91 1 90,ab 92 8,bO 93 4 11,dm 94 7 91 92,qo 95 3 4 94,bD 4 95 93]))))))))) (.region [bk 96 .add 40 1,ab 40 96]))))))) (.seq (.pubB 5 (.region [bO 97 1 5,bD 1 4 97])) .ret)))))
@[simp] def T9:List cu:=[.cell 4 true 1]
def HW:C:=(af [fl 5 1,cd (.alloc 8 none (.agg [.int .i64 0,.str [],.slice 4 .nil [],.slice 4 .nil []]))] (af [ab 10 0,bm 11 0 1 5,a7 12 1 11,ab 13 2,ab 14 3,eM 15 165 [.t 10,.t 12,.t 13,(b6 1),.t 14],cd (.alloc 9 none (.agg [.int .i64 0,.str [],.slice 4 .nil [],.slice 4 .nil []])),bD 4 9 15] (.seq (af [ab 16 0,eM 17 96 [.t 16,(b6 4)],dq 18 17] (bt 18 (af [bm 19 3 1 9,a7 20 1 19,bm 21 3 1 9,a7 22 1 21,cJ 23 22,bk 24 .sub 23 1,dm 25 4 20 24,bO 26 4 25,bD 4 8 26] .ret) .skip)) (af [bO 27 4 9,bD 4 8 27] .ret))))
@[simp] def K3:List cu:=[.cell 8 true 4]
def HV:C:=(af [cd (.alloc 10 none (.agg [.int .i64 0,.str [],.slice 4 .nil [],.slice 4 .nil []]))] (af [a8 16 (.build [.int .i64 0,.str [],.slice 4 .nil [],.slice 4 .nil []] [(0,1,(b6 7))]),cd (.alloc 11 none (.agg [.int .i64 0,.str [],.slice 4 .nil [],.slice 4 .nil []])),bD 4 11 16] (.seq (af [ab 17 0,eM 18 140 [.t 17,(b6 2)],a8 19 (.bin .add false (b6 1) (.t 18)),ab 12 19] (.block 0 (.loop (.seq (af [ab 20 12,bk 21 .gtr 20 0] (bt 21 .skip (.exit 0))) (.seq (.block 1 (.drawn false 87 [bm 24 3 1 11,a7 25 1 24,ab 26 0,ab 27 2,ab 28 4,bk 29 .eql 28 0,eM 30 215 [.t 26,.t 27,.t 29],fm 31 4 65 [.t 30],j1 32 4 65 25 31,bm 33 3 1 11,bD 1 33 32])) (.region [ab 22 12,bk 23 .sub 22 1,ab 12 23])))))) (.seq (.block 2 (.loop (.seq (af [ab 34 3,bk 35 .gtr 34 0] (bt 35 .skip (.exit 2))) (.seq (.block 3 (af [ab 38 1,ab 39 0,ab 40 1,cJ 41 40,eN 42 140 39 41,dm 43 7 38 42,bO 44 7 43,cd (.alloc 13 none (.agg [.str [],.int .i64 0,.int .i64 0,.int .i64 0,.str [],.slice 4 .nil [],.slice 4 .nil []])),bD 7 13 44] (af [bm 45 0 1 13,a7 46 1 45,a8 47 (.build [.int .i64 0,.str [],.slice 4 .nil [],.slice 4 .nil []] [(0,1,(b6 9)),(1,1,(.t 46))]),cd (.alloc 14 none (.agg [.int .i64 0,.str [],.slice 4 .nil [],.slice 4 .nil []])),bD 4 14 47] (.seq (af [cG 15 0] (.block 4 (.loop (.seq (af [ab 48 15,bm 49 1 1 13,a7 50 1 49,cA 51 .lss 48 50,ab 52 51,b0 52 true 53 15,aF 52 true (bk 54 .lss 53 6),ep 55 52 54] (bt 55 .skip (.exit 4))) (.seq (.block 5 (.drawn false 87 [bm 58 2 1 14,a7 59 1 58,ab 60 0,ab 61 0,eM 62 140 [.t 61,(b6 4)],bk 63 .quo 62 3,bk 64 .mul 63 2,a8 65 (.bin .add false (b6 1) (.t 64)),ab 66 2,eM 67 72 [.t 60,.t 65,.t 66],fm 68 4 40 [.t 67],j1 69 4 40 59 68,bm 70 2 1 14,bD 1 70 69])) (.region [ab 56 15,bk 57 .add 56 1,ab 15 57])))))) (.seq (af [ab 71 4,bk 72 .eql 71 2,ab 73 72,b0 73 true 74 0,aF 73 true (eM 75 96 [.t 74,(b6 3)]),ep 76 73 75] (bt 76 (.region [bO 77 4 14,fm 78 4 65 [.t 77],eM 79 216 [(b6 10),(.c (.slice 4 .nil [])),.t 78],bD 4 14 79]) .skip)) (.fz true 14 (.fg false 14 (.region [bm 80 3 1 11,a7 81 1 80,a8 82 (.loadZ true 4 (.t 14)),fm 83 4 65 [.t 82],j1 84 4 65 81 83,bm 85 3 1 11,bD 1 85 84])))))))) (.region [ab 36 3,bk 37 .sub 36 1,ab 3 37]))))) (af [bO 86 4 11,bD 4 10 86] .ret)))))
@[simp] def K1:List cu:=[.cell 10 true 4]
def xt:C:=(af [cd (.alloc 6 none (.agg [.int .i64 0,.str [],.slice 4 .nil [],.slice 4 .nil []]))] (af [ab 10 0,ab 11 1,eM 12 72 [.t 10,(b6 1),.t 11],gI 7 dv,bD 4 7 12] (af [ab 13 0,ab 14 1,eM 15 72 [.t 13,(b6 4),.t 14],gI 8 dv,bD 4 8 15] (af [ab 16 0,eM 17 140 [.t 16,(b6 16)],ab 9 17] (.seq (af [ab 18 2,ab 19 18,b0 19 false 20 9,aF 19 false (bk 21 .lss 20 9),cH 22 19 21] (bt 22 (af [bO 23 4 7,bO 24 4 8,fm 25 4 40 [.t 23,.t 24],eM 26 216 [(b6 2),.t 25,(.c (.slice 4 .nil []))],bD 4 6 26] .ret) .skip)) (.seq (af [ab 27 9] (.block 0 (af [bk 29 .eql 27 9,ab 28 29] (bt 28 (af [bO 30 4 7,fm 31 4 40 [.t 30],eM 32 216 [(b6 4),.t 31,(.c (.slice 4 .nil []))],bD 4 6 32] .ret) (af [bk 34 .eql 27 10,ab 33 34] (bt 33 (af [bO 35 4 7,fm 36 4 40 [.t 35],eM 37 216 [(b6 5),.t 36,(.c (.slice 4 .nil []))],bD 4 6 37] .ret) (af [bk 39 .eql 27 11,ab 38 39] (bt 38 (.seq (.drawn true 54 [⟨none,.call (some 40) (.c (.func 195 [])) [(.c (.str [97]))]⟩,bO 41 4 8,fm 42 4 40 [.t 40,.t 41],eM 43 216 [(b6 6),.t 42,(.c (.slice 4 .nil []))],bD 4 6 43]) .ret) (af [bk 45 .eql 27 12,ab 44 45] (bt 44 (af [ab 46 0,eM 47 140 [.t 46,(b6 8)],bk 48 .quo 47 7,eM 49 216 [.t 48,(.c (.slice 4 .nil [])),(.c (.slice 4 .nil []))],bD 4 6 49] .ret) .skip)))))))))) (af [bO 50 4 7,bO 51 4 8,fm 52 4 40 [.t 50,.t 51],eM 53 216 [(b6 3),.t 52,(.c (.slice 4 .nil []))],bD 4 6 53] .ret)))))))
@[simp] def yw:List cu:=[.cell 6 true 4]
def HU:C:=(af [cd (.alloc 6 none (.agg [.int .i64 0,.str [],.slice 4 .nil [],.slice 4 .nil []]))] (af [ab 7 0,ab 8 1,ab 9 2,a8 10 (.build [.int .i64 0,.str [],.slice 4 .nil [],.slice 4 .nil []] [(0,1,(.t 7)),(2,1,(.t 8)),(3,1,(.t 9))]),bD 4 6 10] .ret))
@[simp] def agN:List cu:=[.cell 6 true 4]
def w4:List (Nat×dt):=[
 (3,⟨1,8,.int .i64,.int .i64 0⟩),
 (9,⟨1,16,.str,.str []⟩),
 (38,⟨1,24,.slice 40,.slice 4 .nil []⟩),
 (40,⟨4,56,.struct [(0,3),(1,3),(2,9),(3,38)],.agg [.int .i64 0,.int .i64 0,.str [],.slice 4 .nil []]⟩),
 (59,⟨1,24,.slice 86,.slice 7 .nil []⟩),
 (61,⟨1,24,.struct [(0,59)],.agg [.slice 7 .nil []]⟩),
 (63,⟨1,24,.slice 65,.slice 4 .nil []⟩),
 (65,⟨4,72,.struct [(0,3),(1,9),(2,38),(3,63)],.agg [.int .i64 0,.str [],.slice 4 .nil [],.slice 4 .nil []]⟩),
 (70,⟨1,24,.slice 9,.slice 1 .nil []⟩),
 (86,⟨7,104,.struct [(0,9),(1,3),(2,3),(3,65)],.agg [.str [],.int .i64 0,.int .i64 0,.int .i64 0,.str [],.slice 4 .nil [],.slice 4 .nil []]⟩)]
theorem o0:e7 aQ w4=true:=by kernel_rfl
theorem afz:cI w4 N8 Gu 3 Tryz.f31=true:=by kernel_rfl
theorem ZU:aQ.funcs[(31:Nat)]? =some Tryz.f31:=Tryz.func31
theorem afy:cI w4 N7 agF 4 Tryz.f32=true:=by kernel_rfl
theorem ZT:aQ.funcs[(32:Nat)]? =some Tryz.f32:=Tryz.func32
theorem afS:cI w4 Ow T9 2 Tryz.f99=true:=by kernel_rfl
theorem aad:aQ.funcs[(99:Nat)]? =some Tryz.f99:=Tryz.func99
theorem Tq:cI w4 HW K3 4 Tryz.f100=true:=by kernel_rfl
theorem PM:aQ.funcs[(100:Nat)]? =some Tryz.f100:=Tryz.func100
theorem Tp:cI w4 HV K1 5 Tryz.f165=true:=by kernel_rfl
theorem PL:aQ.funcs[(165:Nat)]? =some Tryz.f165:=Tryz.func165
theorem Am:cI w4 xt yw 3 Tryz.f215=true:=by kernel_rfl
theorem zp:aQ.funcs[(215:Nat)]? =some Tryz.f215:=Tryz.func215
theorem To:cI w4 HU agN 3 Tryz.f216=true:=by kernel_rfl
theorem PK:aQ.funcs[(216:Nat)]? =some Tryz.f216:=Tryz.func216
def yI(cM:Int)(a b:T):List T:=if cM=0 then []else if cM=1 then []else if cM=2 then [a,b]else if cM=3 then [a,b]else if cM=4 then [a]else if cM=5 then [a]else [.sym [97],b]
def qt(k j:Int):Int:=if k<9 then 2 else if k=9 then 4 else if k=10 then 5 else if k=11 then 6 else if k=12 then j.tdiv 7 else 3
def sH(cM:Int)(a b:T):Gm:= .mk cM [] ((yI cM a b).map T.tm) []
def AL(n:Int)(c:bS):Gm:=sH (qt ((eD 4 n (eD 1 n c).2).2.below 16) (((eD 4 n (eD 1 n c).2).2.belowC 16).below 8)) (eD 1 n c).1 (eD 4 n (eD 1 n c).2).1
def Dw(n:Int)(c:bS):bS:=if(eD 4 n (eD 1 n c).2).2.below 16=12 then((eD 4 n (eD 1 n c).2).2.belowC 16).belowC 8 else(eD 4 n (eD 1 n c).2).2.belowC 16
theorem Vi{j:Int}(bK:0<=j)(I:j<8):j.tdiv 7=0\/j.tdiv 7=1:=by obtain⟨n,rfl⟩:∃n:Nat,j=n:=⟨j.toNat,Ω⟩;rcases(by omega:n=0\/n=1\/n=2\/n=3\/n=4\/n=5\/n=6\/n=7)with rfl|rfl|rfl|rfl|rfl|rfl|rfl|rfl<;>first|exact .inl rfl|exact .inr rfl
theorem ahh{k j:Int}(bK:0<=j)(I:j<8):0<=qt k j/\qt k j<=6:=by
 have:=Vi bK I;unfold qt;repeat' split
 all_goals omega
theorem AJ(cM:Int)(a b:T):(sH cM a b).e= .agg [.int .i64 cM,.str [],.slice 4 .no ((yI cM a b).map T.e),.slice 4 .no []]:=gQ cM [] _ []
theorem AS(cM:Int)(l:List T):ct aQ 216 [.int .i64 cM,.slice 4 .no (l.map T.e),.slice 4 .no []] (.agg [.int .i64 cM,.str [],.slice 4 .no (l.map T.e),.slice 4 .no []]):=by refine bW o0 PK To fun aL=>?_;unfold HU;exact cB
theorem ahr{n:Int}{c:bS}(aH:c.ok):(Dw n c).ok:=by
 have h:=zg 4 n _ (zg 1 n _ aH);unfold Dw;split
 ·exact(h.below _).below _
 ·exact h.below _
theorem Qc(n:Int)(aJ:n<=1000000)(c:bS)(aH:c.ok):bJ aQ 215 [.ptr (.obj 401) 0,.int .i64 n,.bool false] (aN c) fun r aq=>r=(AL n c).e/\aq=aN (Dw n c):=by
 have au:=cn c;have eF:=EI n aJ 1 Ω c aH;have jo:=zg 1 n c aH;have fB:=EI n aJ 4 Ω _ jo;have hj:=zg 4 n _ jo;have u1:=mz _ hj 16;have ao:=((eD 4 n (eD 1 n c).2).2).below_le 16 Ω;have kN:=hj.below 16;have q9:=mz _ kN 8;have aD:=((eD 4 n (eD 1 n c).2).2.belowC 16).below_le 8 Ω;unfold AL Dw;generalize eD 1 n c=eU at*;obtain⟨a,c8⟩:=eU;simp only at*;generalize eD 4 n c8=e3 at*;obtain⟨b,c2⟩:=e3;simp only at*;generalize c2.below 16=k at*;generalize c2.belowC 16=c3 at*;generalize c3.below 8=j at*;generalize c3.belowC 8=c4 at*;have jF:=G7 [97];have m2:=AS 2 [a,b];have m3:=AS 3 [a,b];have m4:=AS 4 [a];have m5:=AS 5 [a];have m6:=AS 6 [.sym [97],b];have m0:=AS (j.tdiv 7) [];simp only[ek,mQ]at m0 m2 m3 m4 m5 m6;have xS:=Vi aD.1 aD.2;have mY:k=12->(sH (qt k j) a b).e= .agg [.int .i64 (j.tdiv 7),.str [],.slice 4 .no [],.slice 4 .no []]:=fun h=>by subst h;rw[AJ,show qt 12 j=j.tdiv 7 from rfl];rcases xS with h|h<;>rw[h]<;>rfl
 have W9:k<9\/k=9\/k=10\/k=11\/k=12\/12<k:=Ω
 rcases W9 with aa|rfl|rfl|rfl|rfl|aa
 ·rw[show(sH (qt k j) a b).e= .agg [.int .i64 2,.str [],.slice 4 .no [a.e,b.e],.slice 4 .no []] by rw[AJ];unfold qt;rw[bP aa];rfl,bo (show¬k=12 by omega)];clear jo hj kN aD xS mY m0 m3 m4 m5 m6 q9;refine bJ.mk mixed o0 zp Am (by simp[-aC,-aw]) au.obj fun aL bT=>?_;unfold xt;unfold aN;simp[-aC,-aw];(refine bc.ob (eF) (cn _) (by unfold aN;exact ai) (by unfold aN;exact ai) (by simp[-aC,-aw,ag,aN,Pv.look]) ?_;rintro r aq ⟨rfl,rfl⟩;refine⟨c6 _ _,?_⟩;unfold aN;simp[-aC,-aw,aX]);(with_reducible repeat' first|refine av ?_|simp[-aC,-aw]);(refine bc.ob (fB) (cn _) (by unfold aN;exact ai) (by unfold aN;exact ai) (by simp[-aC,-aw,ag,aN,Pv.look]) ?_;rintro r aq ⟨rfl,rfl⟩;refine⟨c6 _ _,?_⟩;unfold aN;simp[-aC,-aw,aX]);(with_reducible repeat' first|refine av ?_|simp[-aC,-aw]);(refine bc.ob (u1) (cn _) (by unfold aN;exact ai) (by unfold aN;exact ai) (by simp[-aC,-aw,ag,aN,Pv.look]) ?_;rintro r aq ⟨rfl,rfl⟩;refine⟨c6 _ _,?_⟩;unfold aN;simp[-aC,-aw,aX]);(with_reducible repeat' first|refine av ?_|refine ba m2 ?_|refine bb m2 ?_|simp[-aC,-aw,aa]);(refine bL.at (aN (c3)) (.inl rfl) (cn _) (c6 _ _) (by unfold aN;exact ai) (by unfold aN;exact ai) ?_;simp[-aC,-aw,bV,yw,bg,bh,bf,aN])
 ·rw[show(sH (qt 9 j) a b).e= .agg [.int .i64 4,.str [],.slice 4 .no [a.e],.slice 4 .no []] by rw[AJ];rfl,bo (show¬(9:Int)=12 by omega)];clear jo hj kN aD xS mY m0 m3 m2 m5 m6 q9;refine bJ.mk mixed o0 zp Am (by simp[-aC,-aw]) au.obj fun aL bT=>?_;unfold xt;unfold aN;simp[-aC,-aw];(refine bc.ob (eF) (cn _) (by unfold aN;exact ai) (by unfold aN;exact ai) (by simp[-aC,-aw,ag,aN,Pv.look]) ?_;rintro r aq ⟨rfl,rfl⟩;refine⟨c6 _ _,?_⟩;unfold aN;simp[-aC,-aw,aX]);(with_reducible repeat' first|refine av ?_|simp[-aC,-aw]);(refine bc.ob (fB) (cn _) (by unfold aN;exact ai) (by unfold aN;exact ai) (by simp[-aC,-aw,ag,aN,Pv.look]) ?_;rintro r aq ⟨rfl,rfl⟩;refine⟨c6 _ _,?_⟩;unfold aN;simp[-aC,-aw,aX]);(with_reducible repeat' first|refine av ?_|simp[-aC,-aw]);(refine bc.ob (u1) (cn _) (by unfold aN;exact ai) (by unfold aN;exact ai) (by simp[-aC,-aw,ag,aN,Pv.look]) ?_;rintro r aq ⟨rfl,rfl⟩;refine⟨c6 _ _,?_⟩;unfold aN;simp[-aC,-aw,aX]);(with_reducible repeat' first|refine av ?_|refine ba m4 ?_|refine bb m4 ?_|simp[-aC,-aw]);(refine bL.at (aN (c3)) (.inl rfl) (cn _) (c6 _ _) (by unfold aN;exact ai) (by unfold aN;exact ai) ?_;simp[-aC,-aw,bV,yw,bg,bh,bf,aN])
 ·rw[show(sH (qt 10 j) a b).e= .agg [.int .i64 5,.str [],.slice 4 .no [a.e],.slice 4 .no []] by rw[AJ];rfl,bo (show¬(10:Int)=12 by omega)];clear jo hj kN aD xS mY m0 m3 m2 m4 m6 q9;refine bJ.mk mixed o0 zp Am (by simp[-aC,-aw]) au.obj fun aL bT=>?_;unfold xt;unfold aN;simp[-aC,-aw];(refine bc.ob (eF) (cn _) (by unfold aN;exact ai) (by unfold aN;exact ai) (by simp[-aC,-aw,ag,aN,Pv.look]) ?_;rintro r aq ⟨rfl,rfl⟩;refine⟨c6 _ _,?_⟩;unfold aN;simp[-aC,-aw,aX]);(with_reducible repeat' first|refine av ?_|simp[-aC,-aw]);(refine bc.ob (fB) (cn _) (by unfold aN;exact ai) (by unfold aN;exact ai) (by simp[-aC,-aw,ag,aN,Pv.look]) ?_;rintro r aq ⟨rfl,rfl⟩;refine⟨c6 _ _,?_⟩;unfold aN;simp[-aC,-aw,aX]);(with_reducible repeat' first|refine av ?_|simp[-aC,-aw]);(refine bc.ob (u1) (cn _) (by unfold aN;exact ai) (by unfold aN;exact ai) (by simp[-aC,-aw,ag,aN,Pv.look]) ?_;rintro r aq ⟨rfl,rfl⟩;refine⟨c6 _ _,?_⟩;unfold aN;simp[-aC,-aw,aX]);(with_reducible repeat' first|refine av ?_|refine ba m5 ?_|refine bb m5 ?_|simp[-aC,-aw]);(refine bL.at (aN (c3)) (.inl rfl) (cn _) (c6 _ _) (by unfold aN;exact ai) (by unfold aN;exact ai) ?_;simp[-aC,-aw,bV,yw,bg,bh,bf,aN])
 ·rw[show(sH (qt 11 j) a b).e= .agg [.int .i64 6,.str [],.slice 4 .no [(T.sym [97]).e,b.e],.slice 4 .no []] by rw[AJ];rfl,bo (show¬(11:Int)=12 by omega)];clear jo hj kN aD xS mY m0 m3 m2 m4 m5 q9;refine bJ.mk mixed o0 zp Am (by simp[-aC,-aw]) au.obj fun aL bT=>?_;unfold xt;unfold aN;simp[-aC,-aw];(refine bc.ob (eF) (cn _) (by unfold aN;exact ai) (by unfold aN;exact ai) (by simp[-aC,-aw,ag,aN,Pv.look]) ?_;rintro r aq ⟨rfl,rfl⟩;refine⟨c6 _ _,?_⟩;unfold aN;simp[-aC,-aw,aX]);(with_reducible repeat' first|refine av ?_|simp[-aC,-aw]);(refine bc.ob (fB) (cn _) (by unfold aN;exact ai) (by unfold aN;exact ai) (by simp[-aC,-aw,ag,aN,Pv.look]) ?_;rintro r aq ⟨rfl,rfl⟩;refine⟨c6 _ _,?_⟩;unfold aN;simp[-aC,-aw,aX]);(with_reducible repeat' first|refine av ?_|simp[-aC,-aw]);(refine bc.ob (u1) (cn _) (by unfold aN;exact ai) (by unfold aN;exact ai) (by simp[-aC,-aw,ag,aN,Pv.look]) ?_;rintro r aq ⟨rfl,rfl⟩;refine⟨c6 _ _,?_⟩;unfold aN;simp[-aC,-aw,aX]);(with_reducible repeat' first|refine av ?_|refine ba jF ?_|refine bb jF ?_|refine ba m6 ?_|refine bb m6 ?_|simp[-aC,-aw]);(refine bL.at (aN (c3)) (.inl rfl) (cn _) (c6 _ _) (by unfold aN;exact ai) (by unfold aN;exact ai) ?_;simp[-aC,-aw,bV,yw,bg,bh,bf,aN])
 ·rw[mY rfl,bP rfl];have hw:iw.wrap (j.tdiv 7)=j.tdiv 7:=by rcases xS with h|h<;>rw[h]<;>rfl
  clear jo hj kN mY m2 m3 m4 m5 m6;refine bJ.mk mixed o0 zp Am (by simp[-aC,-aw]) au.obj fun aL bT=>?_;unfold xt;unfold aN;simp[-aC,-aw];(refine bc.ob (eF) (cn _) (by unfold aN;exact ai) (by unfold aN;exact ai) (by simp[-aC,-aw,ag,aN,Pv.look]) ?_;rintro r aq ⟨rfl,rfl⟩;refine⟨c6 _ _,?_⟩;unfold aN;simp[-aC,-aw,aX]);(with_reducible repeat' first|refine av ?_|simp[-aC,-aw]);(refine bc.ob (fB) (cn _) (by unfold aN;exact ai) (by unfold aN;exact ai) (by simp[-aC,-aw,ag,aN,Pv.look]) ?_;rintro r aq ⟨rfl,rfl⟩;refine⟨c6 _ _,?_⟩;unfold aN;simp[-aC,-aw,aX]);(with_reducible repeat' first|refine av ?_|simp[-aC,-aw]);(refine bc.ob (u1) (cn _) (by unfold aN;exact ai) (by unfold aN;exact ai) (by simp[-aC,-aw,ag,aN,Pv.look]) ?_;rintro r aq ⟨rfl,rfl⟩;refine⟨c6 _ _,?_⟩;unfold aN;simp[-aC,-aw,aX]);(with_reducible repeat' first|refine av ?_|simp[-aC,-aw]);(refine bc.ob (q9) (cn _) (by unfold aN;exact ai) (by unfold aN;exact ai) (by simp[-aC,-aw,ag,aN,Pv.look]) ?_;rintro r aq ⟨rfl,rfl⟩;refine⟨c6 _ _,?_⟩;unfold aN;simp[-aC,-aw,aX]);(with_reducible repeat' first|refine av ?_|refine ba m0 ?_|refine bb m0 ?_|simp[-aC,-aw,hw]);(refine bL.at (aN (c4)) (.inl rfl) (cn _) (c6 _ _) (by unfold aN;exact ai) (by unfold aN;exact ai) ?_;simp[-aC,-aw,bV,yw,bg,bh,bf,aN])
 ·rw[show(sH (qt k j) a b).e= .agg [.int .i64 3,.str [],.slice 4 .no [a.e,b.e],.slice 4 .no []] by rw[AJ];unfold qt;rw[bo Ω,bo Ω,bo Ω,bo Ω,bo Ω];rfl,bo (show¬k=12 by omega)];have agi:¬k<9:=Ω
  have cz:(k==9)=false:=by simp[-aC,-aw];omega
  have db:(k==10)=false:=by simp[-aC,-aw];omega
  have eo:(k==11)=false:=by simp[-aC,-aw];omega
  have dC:(k==12)=false:=by simp[-aC,-aw];omega
  clear jo hj kN aD xS mY m0 m2 m4 m5 m6 q9;refine bJ.mk mixed o0 zp Am (by simp[-aC,-aw]) au.obj fun aL bT=>?_;unfold xt;unfold aN;simp[-aC,-aw];(refine bc.ob (eF) (cn _) (by unfold aN;exact ai) (by unfold aN;exact ai) (by simp[-aC,-aw,ag,aN,Pv.look]) ?_;rintro r aq ⟨rfl,rfl⟩;refine⟨c6 _ _,?_⟩;unfold aN;simp[-aC,-aw,aX]);(with_reducible repeat' first|refine av ?_|simp[-aC,-aw]);(refine bc.ob (fB) (cn _) (by unfold aN;exact ai) (by unfold aN;exact ai) (by simp[-aC,-aw,ag,aN,Pv.look]) ?_;rintro r aq ⟨rfl,rfl⟩;refine⟨c6 _ _,?_⟩;unfold aN;simp[-aC,-aw,aX]);(with_reducible repeat' first|refine av ?_|simp[-aC,-aw]);(refine bc.ob (u1) (cn _) (by unfold aN;exact ai) (by unfold aN;exact ai) (by simp[-aC,-aw,ag,aN,Pv.look]) ?_;rintro r aq ⟨rfl,rfl⟩;refine⟨c6 _ _,?_⟩;unfold aN;simp[-aC,-aw,aX]);(with_reducible repeat' first|refine av ?_|refine ba m3 ?_|refine bb m3 ?_|simp[-aC,-aw,agi,cz,db,eo,dC]);(refine bL.at (aN (c3)) (.inl rfl) (cn _) (c6 _ _) (by unfold aN;exact ai) (by unfold aN;exact ai) ?_;simp[-aC,-aw,bV,yw,bg,bh,bf,aN])
def jg(n:Int):Nat->bS->List Gm×bS
 |0,c=>([],c)
 |k+1,c=>((jg n k c).1++[AL n (jg n k c).2],Dw n (jg n k c).2)
theorem GS{n:Int}{c:bS}(aH:c.ok):∀k,(jg n k c).2.ok
 |0=>aH
 |k+1=>ahr (GS aH k)
theorem wX(n:Int)(c:bS):∀k,(jg n k c).1.length=k
 |0=>rfl
 |k+1=>by simp[-aC,-aw,jg,wX n c k]
def tf(c:bS):Int:=1+(c.below 4).tdiv 3*2
theorem M8(c:bS):tf c=1\/tf c=3:=by have h:=c.below_le 4 Ω;unfold tf;generalize c.below 4=j at*;obtain⟨n,rfl⟩:∃n:Nat,j=n:=⟨j.toNat,Ω⟩;rcases(by omega:n=0\/n=1\/n=2\/n=3)with rfl|rfl|rfl|rfl<;>first|exact .inl rfl|exact .inr rfl
def hs(n:Int):Nat->bS->List T×bS
 |0,c=>([],c)
 |k+1,c=>((hs n k c).1++[(eD (tf (hs n k c).2).toNat n ((hs n k c).2.belowC 4)).1],(eD (tf (hs n k c).2).toNat n ((hs n k c).2.belowC 4)).2)
theorem DY{n:Int}{c:bS}(aH:c.ok):∀k,(hs n k c).2.ok
 |0=>aH
 |k+1=>zg _ n _ ((DY aH k).below 4)
theorem DX(n:Int)(c:bS):∀k,(hs n k c).1.length=k
 |0=>rfl
 |k+1=>by simp[-aC,-aw,hs,DX n c k]
def oT:Rl:=⟨[],0,0,my⟩
def mW(P:List Rl)(c:bS):Rl:=P[(c.below P.length).toNat]?.getD oT
def ti(P:List Rl)(n:Int)(c:bS):Gm:= .mk 9 (mW P c).name ((hs n (mW P c).ar.toNat (c.belowC P.length)).1.map T.tm) []
def xu(P:List Rl)(n:Int)(c:bS):bS:=(hs n (mW P c).ar.toNat (c.belowC P.length)).2
theorem WX{P:List Rl}{n:Int}{c:bS}(aH:c.ok):(xu P n c).ok:=DY (aH.below _) _
def oj(P:List Rl)(n:Int)(c:bS):Gm:=if(xu P n c).below 3=0 then .mk 10 [] [] [ti P n c]else ti P n c
def zc(P:List Rl)(n:Int)(c:bS):bS:=(xu P n c).belowC 3
theorem WY{P:List Rl}{n:Int}{c:bS}(aH:c.ok):(zc P n c).ok:=(WX aH).below 3
def gO(P:List Rl)(n:Int):Nat->List Gm×bS->List Gm×bS
 |0,x=>x
 |m+1,x=>((gO P n m x).1++[oj P n (gO P n m x).2],zc P n (gO P n m x).2)
theorem Eb{P:List Rl}{n:Int}{x:List Gm×bS}(aH:x.2.ok):∀m,(gO P n m x).2.ok
 |0=>aH
 |m+1=>WY (Eb aH m)
theorem HZ{P:List Rl}{n:Int}{x:Gm}{xs:List Gm}{c:bS}:∀j,∃ys,(gO P n j (x::xs,c)).1=x::ys/\ys.length=xs.length+j
 |0=>⟨xs,rfl,rfl⟩
 |j+1=>by obtain⟨ys,h,aG⟩:=HZ (P:=P) (n:=n) (x:=x) (xs:=xs) (c:=c) j;exact⟨ys++[oj P n (gO P n j (x::xs,c)).2],by simp[-aC,-aw,gO,h],by simp[-aC,-aw];omega⟩
def fQ(P:List Rl)(n:Int)(m:Nat)(c:bS):List Gm×bS:=gO P n m (jg n (1+(c.below 2).toNat) (c.belowC 2))
def jO(P:List Rl)(n:Int)(m:Nat)(c:bS):Gm:= .mk 7 [] [] (fQ P n m c).1
theorem Ec{P:List Rl}{n:Int}{m:Nat}{c:bS}(aH:c.ok):(fQ P n m c).2.ok:=Eb (GS (aH.below _) _) m
theorem v8(k:Int)(l:List Gm):(Gm.mk k [] [] l).e= .agg [.int .i64 k,.str [],.slice 4 .no [],.slice 4 .no (l.map Gm.e)]:=Gm.e_eq _
def sw(i:Nat):List ah:=if i=0 then [112]else if i=1 then [113]else [114]
def iR:Nat->bS->List Rl×bS
 |0,c=>([],c)
 |k+1,c=>((iR k c).1++[⟨sw k,1+(iR k c).2.below 2,((iR k c).2.belowC 2).below 2,my⟩],((iR k c).2.belowC 2).belowC 2)
theorem Un{c:bS}(aH:c.ok):∀k,(iR k c).2.ok
 |0=>aH
 |k+1=>((Un aH k).below 2).below 2
theorem tY(c:bS):∀k,(iR k c).1.length=k
 |0=>rfl
 |k+1=>by simp[-aC,-aw,iR,tY c k]
def oO(c:bS):Nat:=((c.below 5).tdiv 2).toNat
theorem Kq(c:bS):(c.below 5).tdiv 2=oO c/\oO c<=2:=by have h:=c.below_le 5 Ω;unfold oO;generalize c.below 5=j at*;obtain⟨n,rfl⟩:∃n:Nat,j=n:=⟨j.toNat,Ω⟩;rcases(by omega:n=0\/n=1\/n=2\/n=3\/n=4)with rfl|rfl|rfl|rfl|rfl<;>decide
def gN(P:List Rl)(n:Int):Nat->List Gm×bS->List Gm×bS
 |0,x=>x
 |k+1,x=>((gN P n k x).1++[jO P n (oO (gN P n k x).2) ((gN P n k x).2.belowC 5)],(fQ P n (oO (gN P n k x).2) ((gN P n k x).2.belowC 5)).2)
theorem HB{P:List Rl}{n:Int}{x:List Gm×bS}(aH:x.2.ok):∀m,(gN P n m x).2.ok
 |0=>aH
 |m+1=>Ec ((HB aH m).below 5)
theorem Nl{P:List Rl}{n:Int}{x:Gm}{xs:List Gm}{c:bS}:∀j,∃ys,(gN P n j (x::xs,c)).1=x::ys/\ys.length=xs.length+j
 |0=>⟨xs,rfl,rfl⟩
 |j+1=>by obtain⟨ys,h,aG⟩:=Nl (P:=P) (n:=n) (x:=x) (xs:=xs) (c:=c) j;exact⟨ys++[jO P n (oO (gN P n j (x::xs,c)).2) ((gN P n j (x::xs,c)).2.belowC 5)],by simp[-aC,-aw,gN,h],by simp[-aC,-aw];omega⟩
def rN(P:List Rl)(n:Int)(c:bS):List Gm×bS:=gN P n ((fQ P n 0 c).2.below 3).toNat ([jO P n 0 c],(fQ P n 0 c).2.belowC 3)
theorem Nh{P:List Rl}{n:Int}{c:bS}(aH:c.ok):(rN P n c).2.ok:=HB (x:=([jO P n 0 c],(fQ P n 0 c).2.belowC 3)) ((Ec aH).below 3) _
def o9(P:List Rl)(n:Int)(c:bS):Gm:=if(rN P n c).1.length=1/\(rN P n c).2.below 2=0 then jO P n 0 c else .mk 8 [] [] (rN P n c).1
def rM(P:List Rl)(n:Int)(c:bS):bS:=if(rN P n c).1.length=1 then(rN P n c).2.belowC 2 else(rN P n c).2
theorem WR{P:List Rl}{n:Int}{c:bS}(aH:c.ok):(rM P n c).ok:=by
 unfold rM;split
 ·exact(Nh aH).below _
 ·exact Nh aH
def fY:Nat->List Rl×bS->List Rl×bS
 |0,x=>x
 |k+1,x=>((fY k x).1.set k {(fY k x).1[k]?.getD oT with body:=o9 (fY k x).1 (((fY k x).1[k]?.getD oT).ar+((fY k x).1[k]?.getD oT).loc) (fY k x).2},rM (fY k x).1 (((fY k x).1[k]?.getD oT).ar+((fY k x).1[k]?.getD oT).loc) (fY k x).2)
theorem PQ{x:List Rl×bS}(aH:x.2.ok):∀k,(fY k x).2.ok
 |0=>aH
 |k+1=>WR (PQ aH k)
theorem uF(x:List Rl×bS):∀k,(fY k x).1.length=x.1.length
 |0=>rfl
 |k+1=>by simp[-aC,-aw,fY,uF x k]
def vW(c:bS):List Rl×bS:=fY (1+(c.below 3).toNat) (iR (1+(c.below 3).toNat) (c.belowC 3))
def tA(P:List Rl)(c:bS):Gm×bS:=if(fQ P 3 1 c).2.below 4=0 then(jO P 3 1 c,(fQ P 3 1 c).2.belowC 4)else((fQ P 3 1 c).1.getLastD my,(fQ P 3 1 c).2.belowC 4)
theorem VS(cM:Int)(l:List Gm):ct aQ 216 [.int .i64 cM,.slice 4 .no [],.slice 4 .no (l.map Gm.e)] (.agg [.int .i64 cM,.str [],.slice 4 .no [],.slice 4 .no (l.map Gm.e)]):=by refine bW o0 PK To fun aL=>?_;unfold HU;exact cB
def xg(P:List Rl)(n:Int)(m:Nat)(k:Int)(c:bS):List Gm->a6
 |[]=>⟨[(0,.ptr (.obj 401) 0),(1,.slice 7 .no (P.map Rl.e)),(2,.int .i64 n),(3,.int .i64 m),(4,.int .i64 2),(10,.ptr (.loc 0) 0),(11,.ptr (.loc 1) 0),(12,.int .i64 k)],[(.obj 401,c.e),(.loc 0,[.int .i64 0,.str [],.slice 4 .nil [],.slice 4 .nil []]),(.loc 1,[.int .i64 7,.str [],.slice 4 .nil [],.slice 4 .nil []])],[],2,[.obj 401]⟩
 |x::xs=>⟨[(0,.ptr (.obj 401) 0),(1,.slice 7 .no (P.map Rl.e)),(2,.int .i64 n),(3,.int .i64 m),(4,.int .i64 2),(10,.ptr (.loc 0) 0),(11,.ptr (.loc 1) 0),(12,.int .i64 k)],[(.obj 401,c.e),(.loc 0,[.int .i64 0,.str [],.slice 4 .nil [],.slice 4 .nil []]),(.loc 1,[.int .i64 7,.str [],.slice 4 .nil [],.slice 4 (.own (.loc 34)) (x.e::xs.map Gm.e)])],[(.loc 34,⟨xs.length+1,65,4,none⟩)],89,[.obj 401]⟩
def tc(P:List Rl)(n:Int)(q:Int)(x:Gm)(xs:List Gm)(r:Rl)(i:Int)(c:bS):List T->a6
 |[]=>⟨[(0,.ptr (.obj 401) 0),(1,.slice 7 .no (P.map Rl.e)),(2,.int .i64 n),(3,.int .i64 q),(4,.int .i64 2),(10,.ptr (.loc 0) 0),(11,.ptr (.loc 1) 0),(13,.ptr (.loc 89) 0),(14,.ptr (.loc 90) 0),(15,.int .i64 i)],[(.obj 401,c.e),(.loc 0,[.int .i64 0,.str [],.slice 4 .nil [],.slice 4 .nil []]),(.loc 1,[.int .i64 7,.str [],.slice 4 .nil [],.slice 4 (.own (.loc 34)) (x.e::xs.map Gm.e)]),(.loc 89,Pv.cells r.e),(.loc 90,[.int .i64 9,.str r.name,.slice 4 .nil [],.slice 4 .nil []])],[(.loc 34,⟨xs.length+1,65,4,none⟩)],91,[.obj 401]⟩
 |t::ts=>⟨[(0,.ptr (.obj 401) 0),(1,.slice 7 .no (P.map Rl.e)),(2,.int .i64 n),(3,.int .i64 q),(4,.int .i64 2),(10,.ptr (.loc 0) 0),(11,.ptr (.loc 1) 0),(13,.ptr (.loc 89) 0),(14,.ptr (.loc 90) 0),(15,.int .i64 i)],[(.obj 401,c.e),(.loc 0,[.int .i64 0,.str [],.slice 4 .nil [],.slice 4 .nil []]),(.loc 1,[.int .i64 7,.str [],.slice 4 .nil [],.slice 4 (.own (.loc 34)) (x.e::xs.map Gm.e)]),(.loc 89,Pv.cells r.e),(.loc 90,[.int .i64 9,.str r.name,.slice 4 (.own (.loc 160)) (t.e::ts.map T.e),.slice 4 .nil []])],[(.loc 34,⟨xs.length+1,65,4,none⟩),(.loc 160,⟨ts.length+1,40,4,none⟩)],178,[.obj 401]⟩
def vM(P:List Rl)(n:Int)(q:Int)(c:bS)(x:Gm)(xs:List Gm):a6:=⟨[(0,.ptr (.obj 401) 0),(1,.slice 7 .no (P.map Rl.e)),(2,.int .i64 n),(3,.int .i64 q),(4,.int .i64 2),(10,.ptr (.loc 0) 0),(11,.ptr (.loc 1) 0)],[(.obj 401,c.e),(.loc 0,[.int .i64 0,.str [],.slice 4 .nil [],.slice 4 .nil []]),(.loc 1,[.int .i64 7,.str [],.slice 4 .nil [],.slice 4 (.own (.loc 34)) (x.e::xs.map Gm.e)])],[(.loc 34,⟨xs.length+1,65,4,none⟩)],89,[.obj 401]⟩
theorem aaU(P:List Rl)(hW:0<P.length)(uM:∀r∈P,0<=r.ar/\r.ar<=4)(n:Int)(aJ:n<=1000000)(m:Nat)(hm:m<=1000)(c:bS)(aH:c.ok):bJ aQ 165 [.ptr (.obj 401) 0,.slice 7 .no (P.map Rl.e),.int .i64 n,.int .i64 m,.int .i64 2] (aN c) fun r aq=>r=(jO P n m c).e/\aq=aN (fQ P n m c).2:=by
 have au:=cn c;have fB:=mz c aH 2;have ao:=c.below_le 2 Ω;refine bJ.mk mixed o0 PL Tp (by simp[-aC,-aw]) au.obj fun aL bT=>?_;unfold HV;clear aL bT;unfold aN;simp[-aC,-aw];(with_reducible repeat' first|refine av ?_|simp[-aC,-aw]);(refine bc.ob (fB) (cn _) (by unfold aN;exact ai) (by unfold aN;exact ai) (by simp[-aC,-aw,ag,aN,Pv.look]) ?_;rintro r aq ⟨rfl,rfl⟩;refine⟨c6 _ _,?_⟩;unfold aN;simp[-aC,-aw,aX]);(with_reducible repeat' first|refine av ?_|simp[-aC,-aw]);generalize uN:c.below 2=b at*;have hj:=aH.below 2;generalize pf:c.belowC 2=c2 at*;obtain⟨eu,rfl⟩:∃eu:Nat,b=eu:=⟨b.toNat,Ω⟩;have qY:eu<2:=Ω
 refine gf (fun k:Nat=>xg P n m (1+eu-k) (jg n k c2).2 (jg n k c2).1) (fun k=>1+eu-k) (fun k=>k<=1+eu) 0 (by simp[-aC,-aw,xg,jg];exact⟨by simp[-aC,-aw,fresh,aj,ak,bj,ag,Pv.look,cV,bC],cg (by simp[-aC,-aw,fresh,aj,ak,bj,ag,Pv.look,cV,bC]),ch (by simp[-aC,-aw,fresh,aj,ak,cc,ag,Pv.look,cV,bC]),by simp[-aC,-aw]⟩) Ω ?_;intro k aa _;have ad:=GS (n:=n) hj k;have jF:=Qc n aJ _ ad;rcases hsk:jg n k c2 with⟨l,c3⟩;rw[hsk]at jF ad;simp only at jF ad⊢;by_cases h4:k<1+eu
 ·have aR:(0:Int)<1+eu-k:=Ω
  have lz:(k:Int)<1+eu:=Ω
  have vo:aZ (1+(eu:Int)-k-1):=by unfold aZ;omega
  have Ch:l.length+1<=bs:=by have:=wX n c2 k;rw[hsk]at this;simp only at this;unfold bs;omega
  cases l with
  |nil=>simp[-aC,-aw,xg,aR];(with_reducible repeat' first|refine av ?_|simp[-aC,-aw,aR,lz,vo]);refine hf.ob jF (cn c3) (cn _) (c6 c3 _) (by unfold aN;exact ai) (by unfold aN;exact ai) (by simp[-aC,-aw,ag,aN,Pv.look]) ?_;unfold aN;simp[-aC,-aw,aX];(with_reducible repeat' first|refine av ?_|simp[-aC,-aw,aR,lz,vo,Ch]);refine bU.whl (k+1) Ω Ω ?_;simp only[jg,hsk];simp[-aC,-aw,xg,show(1:Int)+eu-((k:Int)+1)=1+eu-k-1 by omega];exact⟨by simp[-aC,-aw,fresh,aj,ak,bj,ag,Pv.look,cV,bC],cg (by simp[-aC,-aw,fresh,aj,ak,bj,ag,Pv.look,cV,bC]),ch (by simp[-aC,-aw,fresh,aj,ak,cc,ag,Pv.look,cV,bC]),by simp[-aC,-aw]⟩
  |cons a eX=>simp[-aC,-aw,xg,aR];(with_reducible repeat' first|refine av ?_|simp[-aC,-aw,aR,lz,vo]);refine hf.ob jF (cn c3) (cn _) (c6 c3 _) (by unfold aN;exact ai) (by unfold aN;exact ai) (by simp[-aC,-aw,ag,aN,Pv.look]) ?_;unfold aN;simp[-aC,-aw,aX];(with_reducible repeat' first|refine av ?_|simp[-aC,-aw,aR,lz,vo,Ch]);refine bU.whl (k+1) Ω Ω ?_;simp only[jg,hsk];simp[-aC,-aw,xg,show(1:Int)+eu-((k:Int)+1)=1+eu-k-1 by omega];exact⟨by simp[-aC,-aw,fresh,aj,ak,bj,ag,Pv.look,cV,bC],cg (by simp[-aC,-aw,fresh,aj,ak,bj,ag,Pv.look,cV,bC]),ch (by simp[-aC,-aw,fresh,aj,ak,cc,ag,Pv.look,cV,bC]),by simp[-aC,-aw]⟩
 obtain rfl:k=1+eu:=Ω
 have aG:=wX n c2 (1+eu);rw[hsk]at aG;simp only at aG;have nb:fQ P n m c=gO P n m (l,c3):=by unfold fQ;rw[uN,pf];simp[-aC,-aw,hsk]
 cases l with
 |nil=>simp[-aC,-aw]at aG;omega
 |cons x xs=>
 have bA:¬(0:Int)<1+eu-((1+eu:Nat):Int):=Ω
 simp[-aC,-aw,xg];(with_reducible repeat' first|refine av ?_|simp[-aC,-aw,bA]);rw[show jO P n m c= .mk 7 [] [] (gO P n m (x::xs,c3)).1 by unfold jO;rw[nb],nb];clear bA jF hsk aa fB ao h4 nb uN pf hj;simp only[ga]at aG;obtain⟨eR,QK⟩:xs.length=eu/\eu<2:=⟨Ω,by have:=qY;omega⟩;clear aG;refine gf (fun j:Nat=>vM P n (m-j) (gO P n j (x::xs,c3)).2 x ((gO P n j (x::xs,c3)).1.drop 1)) (fun j=>m-j) (fun j=>j<=m) 0 (by simp[-aC,-aw,vM,gO];exact⟨by simp[-aC,-aw,fresh,aj,ak,bj,ag,Pv.look,cV,bC],cg (by simp[-aC,-aw,fresh,aj,ak,bj,ag,Pv.look,cV,bC]),ch (by simp[-aC,-aw,fresh,aj,ak,cc,ag,Pv.look,cV,bC]),by simp[-aC,-aw]⟩) Ω ?_;intro j aD _;have oJ:=Eb (P:=P) (n:=n) (x:=(x::xs,c3)) ad j;obtain⟨ys,bB,pk⟩:=HZ (P:=P) (n:=n) (x:=x) (xs:=xs) (c:=c3) j;rcases hcj:gO P n j (x::xs,c3)with⟨du,c4⟩;rw[hcj]at oJ bB;simp only at oJ bB⊢;subst bB;have kQ:aZ ((m:Int)-j-1):=by unfold aZ;omega
 by_cases Cc:j<m;rotate_left
 ·obtain rfl:j=m:=Ω
  simp[-aC,-aw,vM];(with_reducible repeat' first|refine av ?_|simp[-aC,-aw]);(refine bL.at (aN (c4)) (.inl rfl) (cn _) (c6 _ _) (by unfold aN;exact ai) (by unfold aN;exact ai) ?_;simp[-aC,-aw,bV,K1,bg,bh,bf,aN]);rw[v8];simp[-aC,-aw,hcj]
 have Ji:(j:Int)<m:=Ω
 have Jj:(0:Int)<(m:Int)-j:=Ω
 have fB:=mz c4 oJ P.length;have eE:=c4.below_le P.length Ω;obtain⟨d,aP⟩:∃d:Nat,c4.below P.length=d:=⟨(c4.below P.length).toNat,Ω⟩;rw[aP]at fB eE;have ka:d<P.length:=Ω
 obtain⟨r,hr,hk⟩:=gp ka;have zD:=uM r (fq hr);have IW:mW P c4=r:=by unfold mW;rw[aP];simp[-aC,-aw,hr]
 have zT:=oJ.below P.length;simp[-aC,-aw,vM];(with_reducible repeat' first|refine av ?_|simp[-aC,-aw,Cc,Ji,Jj,kQ]);(refine bc.ob (fB) (cn _) (by unfold aN;exact ai) (by unfold aN;exact ai) (by simp[-aC,-aw,ag,aN,Pv.look]) ?_;rintro r aq ⟨rfl,rfl⟩;refine⟨c6 _ _,?_⟩;unfold aN;simp[-aC,-aw,aX]);(with_reducible repeat' first|refine av ?_|simp[-aC,-aw,ka,hk,hr]);refine gf (fun i:Nat=>tc P n (m-j) x ys r i (hs n i (c4.belowC P.length)).2 (hs n i (c4.belowC P.length)).1) (fun i=>r.ar.toNat-i) (fun i=>i<=r.ar.toNat) 0 (by simp[-aC,-aw,tc,hs];exact⟨by simp[-aC,-aw,fresh,aj,ak,bj,ag,Pv.look,cV,bC],cg (by simp[-aC,-aw,fresh,aj,ak,bj,ag,Pv.look,cV,bC]),ch (by simp[-aC,-aw,fresh,aj,ak,cc,ag,Pv.look,cV,bC]),by simp[-aC,-aw]⟩) Ω ?_;intro i aE _;have qb:=DY (n:=n) zT i;have hZ:=DX n (c4.belowC P.length) i;rcases eK:hs n i (c4.belowC P.length)with⟨ts,c5⟩;rw[eK]at qb hZ;simp only at qb hZ⊢;have fB:=mz c5 qb 4;by_cases acr:i<r.ar.toNat
 rotate_left
 ·have ng:¬(i:Int)<r.ar:=Ω
  have iZ:ti P n c4= .mk 9 r.name (ts.map T.tm) []/\xu P n c4=c5:=by unfold ti xu;rw[IW,show r.ar.toNat=i by omega,eK];exact⟨rfl,rfl⟩
  have l8:ys.length+1+1<=bs:=by unfold bs;omega
  have fC:=BQ c5 qb 3;have uQ:zc P n c4=c5.belowC 3:=by unfold zc;rw[iZ.2]
  by_cases uW:c5.below 3=0
  ·have sf:(c5.below 3==0)=true:=by simpa using uW
   rw[sf]at fC;have r6:oj P n c4= .mk 10 [] [] [.mk 9 r.name (ts.map T.tm) []]:=by unfold oj;rw[iZ.2,bP uW,iZ.1]
   have qg:=VS 10 [.mk 9 r.name (ts.map T.tm) []];cases ts with
   |nil=>
    have sb:(Gm.mk 9 r.name [] []).e= .agg [.int .i64 9,.str r.name,.slice 4 .no [],.slice 4 .no []]:=gQ 9 r.name [] [];have he:(Gm.mk 10 [] [] [.mk 9 r.name [] []]).e= .agg [.int .i64 10,.str [],.slice 4 .no [],.slice 4 .no [.agg [.int .i64 9,.str r.name,.slice 4 .no [],.slice 4 .no []]]]:=by rw[v8];simp only[ek,mQ,sb]
    simp only[ek,mQ,sb]at qg;simp[-aC,-aw,tc];((with_reducible repeat' first|refine av ?_|simp[-aC,-aw,ng,kQ,l8]|((first|apply cN|apply cP|apply cO)<;>intro h<;>try simp[-aC,-aw]at h))<;>(try exact dr));(refine bc.ob (fC) (cn _) (by unfold aN;exact ai) (by unfold aN;exact ai) (by simp[-aC,-aw,ag,aN,Pv.look]) ?_;rintro r aq ⟨rfl,rfl⟩;refine⟨c6 _ _,?_⟩;unfold aN;simp[-aC,-aw,aX]);((with_reducible repeat' first|refine av ?_|refine ba qg ?_|refine bb qg ?_|simp[-aC,-aw,ng,kQ,l8]|((first|apply cN|apply cP|apply cO)<;>intro h<;>try simp[-aC,-aw]at h))<;>(try exact dr));refine bU.whl (j+1) Ω Ω ?_;simp only[gO,hcj];rw[r6,uQ];simp[-aC,-aw,vM,he,show(m:Int)-((j:Int)+1)=m-j-1 by omega];exact⟨by simp[-aC,-aw,fresh,aj,ak,bj,ag,Pv.look,cV,bC,fi,he],cg (by simp[-aC,-aw,fresh,aj,ak,bj,ag,Pv.look,cV,bC,fi,he]),ch (by simp[-aC,-aw,fresh,aj,ak,cc,ag,Pv.look,cV,bC,fi,he]),by simp[-aC,-aw]⟩
   |cons t ts=>
    have sb:(Gm.mk 9 r.name (t.tm::ts.map T.tm) []).e= .agg [.int .i64 9,.str r.name,.slice 4 .no (t.e::ts.map T.e),.slice 4 .no []]:=gQ 9 r.name (t::ts) [];have he:(Gm.mk 10 [] [] [.mk 9 r.name (t.tm::ts.map T.tm) []]).e= .agg [.int .i64 10,.str [],.slice 4 .no [],.slice 4 .no [.agg [.int .i64 9,.str r.name,.slice 4 .no (t.e::ts.map T.e),.slice 4 .no []]]]:=by rw[v8];simp only[ek,mQ,sb]
    simp only[ek,mQ,sb]at qg;simp[-aC,-aw,tc];((with_reducible repeat' first|refine av ?_|simp[-aC,-aw,ng,kQ,l8]|((first|apply cN|apply cP|apply cO)<;>intro h<;>try simp[-aC,-aw]at h))<;>(try exact dr));(refine bc.ob (fC) (cn _) (by unfold aN;exact ai) (by unfold aN;exact ai) (by simp[-aC,-aw,ag,aN,Pv.look]) ?_;rintro r aq ⟨rfl,rfl⟩;refine⟨c6 _ _,?_⟩;unfold aN;simp[-aC,-aw,aX]);((with_reducible repeat' first|refine av ?_|refine ba qg ?_|refine bb qg ?_|simp[-aC,-aw,ng,kQ,l8]|((first|apply cN|apply cP|apply cO)<;>intro h<;>try simp[-aC,-aw]at h))<;>(try exact dr));refine bU.whl (j+1) Ω Ω ?_;simp only[gO,hcj];rw[r6,uQ];simp[-aC,-aw,vM,he,show(m:Int)-((j:Int)+1)=m-j-1 by omega];exact⟨by simp[-aC,-aw,fresh,aj,ak,bj,ag,Pv.look,cV,bC,fi,he],cg (by simp[-aC,-aw,fresh,aj,ak,bj,ag,Pv.look,cV,bC,fi,he]),ch (by simp[-aC,-aw,fresh,aj,ak,cc,ag,Pv.look,cV,bC,fi,he]),by simp[-aC,-aw]⟩
  ·have sf:(c5.below 3==0)=false:=by simpa using uW
   rw[sf]at fC;have r6:oj P n c4= .mk 9 r.name (ts.map T.tm) []:=by unfold oj;rw[iZ.2,bo uW,iZ.1]
   cases ts with
   |nil=>have he:(Gm.mk 9 r.name [] []).e= .agg [.int .i64 9,.str r.name,.slice 4 .no [],.slice 4 .no []]:=gQ 9 r.name [] [];simp[-aC,-aw,tc];((with_reducible repeat' first|refine av ?_|simp[-aC,-aw,ng,kQ,l8]|((first|apply cN|apply cP|apply cO)<;>intro h<;>try simp[-aC,-aw]at h))<;>(try exact dr));(refine bc.ob (fC) (cn _) (by unfold aN;exact ai) (by unfold aN;exact ai) (by simp[-aC,-aw,ag,aN,Pv.look]) ?_;rintro r aq ⟨rfl,rfl⟩;refine⟨c6 _ _,?_⟩;unfold aN;simp[-aC,-aw,aX]);((with_reducible repeat' first|refine av ?_|simp[-aC,-aw,ng,kQ,l8]|((first|apply cN|apply cP|apply cO)<;>intro h<;>try simp[-aC,-aw]at h))<;>(try exact dr));refine bU.whl (j+1) Ω Ω ?_;simp only[gO,hcj];rw[r6,uQ];simp[-aC,-aw,vM,he,show(m:Int)-((j:Int)+1)=m-j-1 by omega];exact⟨by simp[-aC,-aw,fresh,aj,ak,bj,ag,Pv.look,cV,bC,fi,he],cg (by simp[-aC,-aw,fresh,aj,ak,bj,ag,Pv.look,cV,bC,fi,he]),ch (by simp[-aC,-aw,fresh,aj,ak,cc,ag,Pv.look,cV,bC,fi,he]),by simp[-aC,-aw]⟩
   |cons t ts=>have he:(Gm.mk 9 r.name (t.tm::ts.map T.tm) []).e= .agg [.int .i64 9,.str r.name,.slice 4 .no (t.e::ts.map T.e),.slice 4 .no []]:=gQ 9 r.name (t::ts) [];simp[-aC,-aw,tc];((with_reducible repeat' first|refine av ?_|simp[-aC,-aw,ng,kQ,l8]|((first|apply cN|apply cP|apply cO)<;>intro h<;>try simp[-aC,-aw]at h))<;>(try exact dr));(refine bc.ob (fC) (cn _) (by unfold aN;exact ai) (by unfold aN;exact ai) (by simp[-aC,-aw,ag,aN,Pv.look]) ?_;rintro r aq ⟨rfl,rfl⟩;refine⟨c6 _ _,?_⟩;unfold aN;simp[-aC,-aw,aX]);((with_reducible repeat' first|refine av ?_|simp[-aC,-aw,ng,kQ,l8]|((first|apply cN|apply cP|apply cO)<;>intro h<;>try simp[-aC,-aw]at h))<;>(try exact dr));refine bU.whl (j+1) Ω Ω ?_;simp only[gO,hcj];rw[r6,uQ];simp[-aC,-aw,vM,he,show(m:Int)-((j:Int)+1)=m-j-1 by omega];exact⟨by simp[-aC,-aw,fresh,aj,ak,bj,ag,Pv.look,cV,bC,fi,he],cg (by simp[-aC,-aw,fresh,aj,ak,bj,ag,Pv.look,cV,bC,fi,he]),ch (by simp[-aC,-aw,fresh,aj,ak,cc,ag,Pv.look,cV,bC,fi,he]),by simp[-aC,-aw]⟩
 have B8:(i:Int)<r.ar:=Ω
 have B9:(i:Int)<6:=Ω
 have i64:aZ ((i:Int)+1):=by unfold aZ;omega
 obtain⟨w,hw,JS,cp⟩:∃w:Nat,(c5.below 4).tdiv 3=(w:Int)/\w<=1/\(tf c5).toNat=1+w*2:=by have h:=c5.below_le 4 Ω;unfold tf;generalize c5.below 4=q at*;obtain⟨k,rfl⟩:∃k:Nat,q=k:=⟨q.toNat,Ω⟩;rcases(by omega:k=0\/k=1\/k=2\/k=3)with rfl|rfl|rfl|rfl<;>first|exact⟨0,by decide,by decide,by decide⟩|exact⟨1,by decide,by decide,by decide⟩
 have h8:=EI n aJ (1+w*2) Ω (c5.belowC 4) (qb.below 4);rw[show((1+w*2:Nat):Int)=1+(w:Int)*2 by push_cast;rfl]at h8;have qB:iw.wrap (w:Int)=w:=by rcases(by omega:w=0\/w=1)with rfl|rfl<;>rfl
 have sU:aZ ((w:Int)*2):=by unfold aZ;omega
 have rB:aZ (1+(w:Int)*2):=by unfold aZ;omega
 have ef:ts.length+1<=bs:=by unfold bs;omega
 cases ts with
 |nil=>simp[-aC,-aw,tc];(with_reducible repeat' first|refine av ?_|simp[-aC,-aw,B8,B9,i64]);refine hf.ob fB (cn c5) (cn _) (c6 c5 _) (by unfold aN;exact ai) (by unfold aN;exact ai) (by simp[-aC,-aw,ag,aN,Pv.look]) ?_;unfold aN;simp[-aC,-aw,aX];(with_reducible repeat' first|refine av ?_|simp[-aC,-aw,hw,qB,sU,rB]);refine hf.ob h8 (cn _) (cn _) (c6 _ _) (by unfold aN;exact ai) (by unfold aN;exact ai) (by simp[-aC,-aw,ag,aN,Pv.look]) ?_;unfold aN;simp[-aC,-aw,aX];(with_reducible repeat' first|refine av ?_|simp[-aC,-aw,hw,qB,sU,rB,i64,ef]);refine bU.whl (i+1) Ω Ω ?_;simp only[hs,eK,cp];simp[-aC,-aw,tc];exact⟨by simp[-aC,-aw,fresh,aj,ak,bj,ag,Pv.look,cV,bC,fi],cg (by simp[-aC,-aw,fresh,aj,ak,bj,ag,Pv.look,cV,bC,fi]),ch (by simp[-aC,-aw,fresh,aj,ak,cc,ag,Pv.look,cV,bC,fi]),by simp[-aC,-aw]⟩
 |cons t ts=>simp[-aC,-aw,tc];(with_reducible repeat' first|refine av ?_|simp[-aC,-aw,B8,B9,i64]);refine hf.ob fB (cn c5) (cn _) (c6 c5 _) (by unfold aN;exact ai) (by unfold aN;exact ai) (by simp[-aC,-aw,ag,aN,Pv.look]) ?_;unfold aN;simp[-aC,-aw,aX];(with_reducible repeat' first|refine av ?_|simp[-aC,-aw,hw,qB,sU,rB]);refine hf.ob h8 (cn _) (cn _) (c6 _ _) (by unfold aN;exact ai) (by unfold aN;exact ai) (by simp[-aC,-aw,ag,aN,Pv.look]) ?_;unfold aN;simp[-aC,-aw,aX];(with_reducible repeat' first|refine av ?_|simp[-aC,-aw,hw,qB,sU,rB,i64,ef]);refine bU.whl (i+1) Ω Ω ?_;simp only[hs,eK,cp];simp[-aC,-aw,tc];exact⟨by simp[-aC,-aw,fresh,aj,ak,bj,ag,Pv.look,cV,bC,fi],cg (by simp[-aC,-aw,fresh,aj,ak,bj,ag,Pv.look,cV,bC,fi]),ch (by simp[-aC,-aw,fresh,aj,ak,cc,ag,Pv.look,cV,bC,fi]),by simp[-aC,-aw]⟩
end
end Go.Proofs.YtlnndmgfngfeiaaGreatDoor
