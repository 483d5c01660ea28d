/- made by mk2.py: the code of the functions, and the checks against the program's own form. -/
import Derived.Sort.AssemblyPlain
import Derived.Sort.LotD5
import Derived.Test.YtohaalphocaebaaGreatDoorProg
import Derived.Lib.OwnBridge
import Derived.Shelf.GgSortMore.Stable
import Derived.Shelf.GgSortFunc.SmallK
import Derived.Shelf.GgSortFunc.Slice
import Derived.Ground.GgsProg
import Derived.Test.YtohaalphocaebaaGreatDoorY3
set_option linter.all false
set_option maxHeartbeats 4000000
set_option maxRecDepth 4000
open Array renaming getElem?_toList->um
open BitVec renaming ofInt->l3
open Bool renaming and_eq_true->cE,eq_iff_iff->p1,false_eq_true->gO,or_eq_true->l4
open Go renaming Program->cL,TypeId->gP
open Go.Extern.ReflectliteSwapper renaming swap->EM,swapper->arZ
open Go.Extern.ReflectliteValue renaming len->ar0,method->ar1,unpack->anF,valueError->anG
open Go.Extern.Rtype renaming kind->YN
open Go.IntKind renaming bits->nW,i64->nk,signed->rD,u64->hv,wrap->sY
open Go.IntWalk renaming i64_in->mB
open Go.Proofs.Tryz renaming prog->az
open List renaming all_eq_true->fM,cons_append->bO,drop_eq_getElem_cons->kX,getElem?_eq_getElem->cf,getElem?_eq_some_iff->fb,getElem_of_mem->nX,length_cons->l5,map_cons->hk,map_nil->qG,mem_cons->fD,mem_cons_of_mem->oE,mem_of_getElem?->ed,mem_singleton->oF,nil_append->bS,pairwise_iff_getElem->pg,take_length->l6,take_of_length_le->hx
open List.cons renaming injEq->xE
open Nat renaming add_mul->p2,le_refl->eX,le_trans->kn,strongRecOn->rF
open Ne renaming symm->ld
open Option renaming isSome_none->lD,map_eq_some_iff->gk,map_some->oH
open Option.some renaming inj->eJ,injEq->dC
open Prod.mk renaming injEq->jM
open _root_ renaming beq_iff_eq->dL,congrArg->eK,decide_eq_false->ij,decide_eq_false_iff_not->gC,decide_eq_true->gD,decide_eq_true_eq->e6
namespace Go.Proofs.YtohaalphocaebaaGreatDoor
section
open Go Go.Pv
structure e7 {α:Type} (S:List α->cS) (n:Nat) (g b9:Nat) (lc b2:List ai) (lt:α->α->Bool):Prop where
 ok:∀l,dR (S l)
 same:∀l a1,l.length=n->a1.length=n->Same (S l) (S a1)
 klc:∀l,l.length=n->aP (inObs (S l)) lc
 ksc:∀l,l.length=n->aP (inObs (S l)) b2
 slc:dv lc=lc
 ssc:dv b2=b2
 le:n<=68719476736
 less:∀l,l.length=n->∀(i j:Nat) x y,l[i]? =some x->l[j]? =some y->bH az g (.int .i64 i:: .int .i64 j::lc) (S l) fun r ah=>r= .bool (lt x y)/\ah=S l
 swap:∀l,l.length=n->2<=n->∀i j:Nat,i<n->j<n->bH az b9 (.int .i64 i:: .int .i64 j::b2) (S l) fun r ah=>r= .tuple []/\ah=S (ho l i j)
variable {α:Type} {S:List α->cS} {n g b9:Nat} {lc b2:List ai} {lt:α->α->Bool}
def eY(g b9:Nat)(lc b2:List ai):ai:= .agg [.func g lc,.func b9 b2]
theorem Ki(H:e7 S n g b9 lc b2 lt)(l:List α)(av:l.length=n)(a b c:Nat)(ao8:a+c<=b)(SX:b+c<=n):
  bH az 216 [eY g b9 lc b2,.int .i64 a,.int .i64 b,.int .i64 c] (S l) fun r ah=>r= .tuple []/\∃a1,ah=S a1/\gu a (b+c) l a1/\∀k,a1[k]? =l[sQ a b c k]?:=by
 have ag:=H.ok l;have ay:∀l m,Pv.look (.loc m) (S l).b=none:=fun l=>(H.ok l).obj.1;have hu:∀l m cs,cA (.loc m) cs (S l).b=(S l).b++[(.loc m,cs)]:=fun l m cs=>kk (ay l m);have ax:∀m,aL.loc m∉c2 (S l):=kf ag.obj;have hle:=H.le;refine bH.mk mixed BG ack ai0 Ψ ag.obj fun aT cI=>?_;unfold Qt;simp[eY,hu,ax,cV,ay,H.slc,H.ssc];refine hQ (fun i (lk:List α)=>⟨[(1,.int .i64 a),(2,.int .i64 b),(3,.int .i64 c),(4,.ptr (.loc 0) 0),(8,.int .i64 i)],[(.loc 0,[.func g lc,.func b9 b2])]++(S lk).b,(S lk).e,1,c2 (S l)⟩) c (fun i lk=>lk.length=n/\gu a (b+c) l lk/\∀k,lk[k]? =l[sQ a b i k]?) l
  (iO.obL ag (Same.refl _) d6 (by simp[cV,ay,aG,aP,A4 (H.klc l av),A4 (H.ksc l av)]) aK aK) ⟨av,.refl _,fun k=>by simp[sQ];split<;>(try split)<;>(try rfl)<;>(exfalso;omega)⟩ ?_ ?_
 ·rintro lk ⟨J,U,ar⟩ _;simp;refine cO.at (S lk) (.inr rfl) (H.ok lk) (H.same _ _ av J) aK aK ?_;simp[cT,WH,aW,aY,aV];exact⟨lk,rfl,U,ar⟩
 ·rintro i lk hi ⟨J,U,ar⟩ _;have ao:((a:Int)+i)=(a+i:Nat):=Ω
  have aF:((b:Int)+i)=(b+i:Nat):=Ω
  simp[hi,cV,ay,H.ssc];(with_reducible repeat' first|refine aj ?_|simp);rw[ao,aF];refine cW.ob (H.swap lk J Ω (a+i) (b+i) Ω Ω) (H.ok lk) aK aK (by simp[H.ksc lk J]) ?_;rintro r ah ⟨rfl,rfl⟩;refine⟨H.same _ _ J (by simp[J]),?_⟩;simp[hh,iH,cb,ay];(with_reducible repeat' first|refine aj ?_|simp);refine bQ.rng (ho lk (a+i) (b+i)) hi ⟨by simp[J],.step U Ω Ω Ω Ω Ω Ω,fun k=>?_⟩ (iO.obL (L:=[(.loc 0,[.func g lc,.func b9 b2])]) (H.ok _) (H.same _ _ av (by simp[J])) d6 (by simp[cV,ay,aG,aP,A4 (H.klc (ho lk (a+i) (b+i)) (by simp[J])),A4 (H.ksc (ho lk (a+i) (b+i)) (by simp[J]))]) aK aK);rw[AT _ _ _ _ Ω Ω,ar,ar,ar];have:sQ a b (i+1) k=if k=a+i then sQ a b i (b+i)else if k=b+i then sQ a b i (a+i)else sQ a b i k:=by
   simp only[sQ];repeat' split
   all_goals omega
  rw[this];split
  ·rfl
  ·split<;>rfl
section
variable (H:e7 S n g b9 lc b2 lt)
include H
theorem e7.loc{l:List α}(m:Nat):Pv.look (.loc m) (S l).b=none:=(H.ok l).obj.1 m
theorem e7.weak{l lk:List α}(av:l.length=n)(ad:lk.length=n){st:bm}{dE:List (Nat×ai)}(aM:∀x∈dE,Pv.get x.1 st.t=x.2/\aG (mr (S lk) 1) x.2)(bE:Pv.look (.loc 0) st.b=some [.func g lc,.func b9 b2])
  (ab:∀k cs,Pv.look k (S lk).b=some cs->Pv.look k st.b=some cs) (he:∀k o,Pv.look k (S lk).e=some o->Pv.look k st.e=some o):
  iO (c2 (S l)) st ⟨dE,(.loc 0,[.func g lc,.func b9 b2])::(S lk).b,(S lk).e,1,c2 (S l)⟩:=
 iO.obL (L:=[(.loc 0,[.func g lc,.func b9 b2])]) (H.ok _) (H.same _ _ av ad) aM (by simp[bE,aG,aP,A4 (H.klc lk ad),A4 (H.ksc lk ad)]) ab he
theorem e7.weakC{l lk:List α}(av:l.length=n)(ad:lk.length=n){t dE:List (Nat×ai)}{q:Nat}{o:List aL}(aM:∀x∈dE,Pv.get x.1 t=x.2/\aG (mr (S lk) 1) x.2):
  iO (c2 (S l)) ⟨t,(.loc 0,[.func g lc,.func b9 b2])::(S lk).b,(S lk).e,q,o⟩ ⟨dE,(.loc 0,[.func g lc,.func b9 b2])::(S lk).b,(S lk).e,1,c2 (S l)⟩:=
 H.weak av ad aM (by simp[Pv.look]) (fun k cs ae=>by
  cases k with
  |loc m=>rw[H.loc m]at ae;cases ae
  |obj m=>simpa[Pv.look]using ae) (fun _ _ ae=>ae)
theorem e7.call{lk:List α}(J:lk.length=n){f:Nat}{args:List ai}{R:ai->List α->Prop}(aR:bH az f args (S lk) fun r ah=> ∃a1,ah=S a1/\R r a1)(bG:∀r a1,R r a1->a1.length=n)(ad:aP (inObs (S lk)) args){t:List (Nat×ai)}{D:List ai}{o:List aL}{d:Option Nat}{K:bm->Prop}
  (h:∀r a1,R r a1->K ⟨eR d r t,(.loc 0,D)::(S a1).b,(S a1).e,1,o++c2 (S a1)⟩):cW az f args ⟨t,(.loc 0,D)::(S lk).b,(S lk).e,1,o⟩ d K:=by
 refine cW.ob aR (H.ok lk) (fun k cs ae=>?_) (fun _ _ ae=>ae) ad ?_
 ·cases k with
  |loc m=>rw[H.loc m]at ae;cases ae
  |obj m=>simpa[Pv.look]using ae
 ·rintro r ah ⟨a1,rfl,aJ⟩;refine⟨H.same _ _ J (bG _ _ aJ),?_⟩;have ao:cb (S lk).b ((.loc 0,D)::(S lk).b)=[(.loc 0,D)]:=by have:=iH (S lk).b [(aL.loc 0,D)] (S lk).b;rw[hh]at this;simpa[cb,H.loc]using this
  have aF:cb (S lk).e (S lk).e=[]:=hh _;have:=h _ _ aJ;simp only[ao,aF];exact this
theorem e7.doSwap{lk:List α}(J:lk.length=n)(i j:Nat)(hi:i<n)(af:j<n)(U:2<=n){t:List (Nat×ai)}{D:List ai}{o:List aL}{d:Option Nat}{K:bm->Prop}
  (h:K ⟨eR d (.tuple []) t,(.loc 0,D)::(S (ho lk i j)).b,(S (ho lk i j)).e,1,o++c2 (S (ho lk i j))⟩):cW az b9 (.int .i64 i:: .int .i64 j::b2) ⟨t,(.loc 0,D)::(S lk).b,(S lk).e,1,o⟩ d K:=
 H.call J (R:=fun r a1=>r= .tuple []/\a1=ho lk i j) ((H.swap lk J U i j hi af).mono fun r ah ⟨ao,aF⟩=>⟨_,aF,ao,rfl⟩) (fun r a1 ⟨_,e⟩=>by rw[e];simp[J]) (by simp[aG,aP,H.ksc lk J]) (by rintro r a1 ⟨rfl,rfl⟩;exact h)
theorem e7.doLess{lk:List α}(J:lk.length=n)(i j:Nat){x y:α}(hi:lk[i]? =some x)(af:lk[j]? =some y){t:List (Nat×ai)}{D:List ai}{o:List aL}{d:Option Nat}{K:bm->Prop}
  (h:K ⟨eR d (.bool (lt x y)) t,(.loc 0,D)::(S lk).b,(S lk).e,1,o++c2 (S lk)⟩):cW az g (.int .i64 i:: .int .i64 j::lc) ⟨t,(.loc 0,D)::(S lk).b,(S lk).e,1,o⟩ d K:=
 H.call J (R:=fun r a1=>r= .bool (lt x y)/\a1=lk) ((H.less lk J i j x y hi af).mono fun r ah ⟨ao,aF⟩=>⟨_,aF,ao,rfl⟩) (fun r a1 ⟨_,e⟩=>by rw[e];exact J) (by simp[aG,aP,H.klc lk J]) (by rintro r a1 ⟨rfl,rfl⟩;exact h)
theorem e7.doFn{lk:List α}(J:lk.length=n){f:Nat}{args:List ai}{R:List α->Prop}(aR:bH az f args (S lk) fun r ah=>r= .tuple []/\∃a1,ah=S a1/\R a1)(bG:∀a1,R a1->a1.length=n)(ad:aP (inObs (S lk)) args){t:List (Nat×ai)}{D:List ai}{o:List aL}{d:Option Nat}{K:bm->Prop}
  (h:∀a1,R a1->K ⟨eR d (.tuple []) t,(.loc 0,D)::(S a1).b,(S a1).e,1,o++c2 (S a1)⟩):cW az f args ⟨t,(.loc 0,D)::(S lk).b,(S lk).e,1,o⟩ d K:=
 H.call J (R:=fun r a1=>r= .tuple []/\R a1) (aR.mono fun r ah ⟨ao,a1,aF,bA⟩=>⟨a1,aF,ao,bA⟩) (fun r a1 h=>bG a1 h.2) ad (by rintro r a1 ⟨rfl,aJ⟩;exact h a1 aJ)
theorem e7.kdata{lk:List α}(J:lk.length=n):aG (inObs (S lk)) (eY g b9 lc b2):=by simp[eY,aG,aP,H.klc lk J,H.ksc lk J]
theorem e7.ret{l lk:List α}(av:l.length=n)(J:lk.length=n){Q:ai->cS->Prop}{e:Exit}(he:e= .ret\/e= .normal){t:List (Nat×ai)}{D:List ai}{q:Nat}{o:List aL}(bF:Q (.tuple []) (S lk)):cO [] (S l) Q e ⟨t,(.loc 0,D)::(S lk).b,(S lk).e,q,o⟩:=by
 refine cO.at (S lk) he (H.ok lk) (H.same _ _ av J) (fun k cs ae=>?_) (fun _ _ ae=>ae) ?_
 ·cases k with
  |loc m=>rw[H.loc m]at ae;cases ae
  |obj m=>simpa[Pv.look]using ae
 ·simp[cT,aW,aV,aG,aP,bF]
end
theorem ix(H:e7 S n g b9 lc b2 lt):ey (eY g b9 lc b2)=eY g b9 lc b2:=by simp[eY,ey,dv,H.slc,H.ssc]
theorem iq:ai.agg [.func g lc,.func b9 b2]=eY g b9 lc b2:=rfl
theorem adX(H:e7 S n g b9 lc b2 lt)(l:List α)(av:l.length=n)(a m b:Nat)(CH:a<m)(og:m<b)(ab:b<=n):
  bH az 207 [eY g b9 lc b2,.int .i64 a,.int .i64 m,.int .i64 b] (S l) fun r ah=>r= .tuple []/\∃a1,ah=S a1/\gu a b l a1/\∀k,a1[k]? =l[h6 a m b k]?:=by
 have ag:=H.ok l;have ay:∀l m,Pv.look (.loc m) (S l).b=none:=fun l=>(H.ok l).obj.1;have hu:∀l m cs,cA (.loc m) cs (S l).b=(S l).b++[(.loc m,cs)]:=fun l m cs=>kk (ay l m);have ax:∀m,aL.loc m∉c2 (S l):=kf ag.obj;have hle:=H.le;refine bH.mk mixed BG ach aiX Ψ ag.obj fun aT cI=>?_;unfold Qq;simp[eY,hu,ax,cV,ay];(with_reducible repeat' first|refine aj ?_|simp[hu,ax,cV,ay]);refine nu (fun(x:(Nat×Nat)×List α)=>⟨[(2,.int .i64 m),(4,.ptr (.loc 0) 0),(8,.int .i64 x.1.1),(9,.int .i64 x.1.2)],(.loc 0,[.func g lc,.func b9 b2])::(S x.2).b,(S x.2).e,1,c2 (S l)⟩) (fun x=>x.1.1+x.1.2)
  (fun x=>x.2.length=n/\0<x.1.1/\0<x.1.2/\a+x.1.1<=m/\m+x.1.2<=b/\gu a b l x.2/\∀k,l[h6 a m b k]? =x.2[h6 (m-x.1.1) m (m+x.1.2) k]?) ((m-a,b-m),l)
  (H.weak av av (by simp[aG];omega) (by simp[cV,ay]) aK aK) ⟨av,by simp;omega,by simp;omega,by simp;omega,by simp;omega,.refl _,fun k=>by simp[show m-(m-a)=a by omega,show m+(b-m)=b by omega]⟩ ?_
 rintro⟨⟨i,j⟩,lk⟩ ⟨J,hi,af,gn,F8,U,ar⟩ _;simp only at J hi af gn F8 U ar;simp[Pv.look];((with_reducible repeat' first|refine aj ?_|simp[Pv.look]|((first|apply bJ|apply bM|apply bL)<;>intro h<;>try simp at h))<;>(try exact cc))
 ·have ao:((m:Int)-i)=(m-i:Nat):=Ω
  simp only[ix H,H.slc,H.ssc,ao,iq];refine H.doFn J (Ki H lk J (m-i) m j Ω Ω) (fun a1 h=>by rw[h.1.length];exact J) (by simp[aP,aG,H.kdata J]) ?_;rintro a1 ⟨a6,bD⟩;have bY:a1.length=n:=by rw[a6.length];exact J
  simp;((with_reducible repeat' first|refine aj ?_|simp|((first|apply bJ|apply bM|apply bL)<;>intro h<;>try simp at h))<;>(try exact cc));refine bQ.whl ((i-j,j),a1) d7 ⟨bY,by simp;omega,af,by simp;omega,F8,U.trans (a6.mono Ω Ω),fun k=>?_⟩ (H.weakC av bY (by simp[aG];omega));rw[ar,bD];congr 1;simp only[h6,sQ];repeat' split
  all_goals omega
 ·have ao:((m:Int)-i)=(m-i:Nat):=Ω
  have aF:((m:Int)+j-i)=(m+j-i:Nat):=Ω
  simp only[ix H,H.slc,H.ssc,ao,aF,iq];refine H.doFn J (Ki H lk J (m-i) (m+j-i) i Ω Ω) (fun a1 h=>by rw[h.1.length];exact J) (by simp[aP,aG,H.kdata J]) ?_;rintro a1 ⟨a6,bD⟩;have bY:a1.length=n:=by rw[a6.length];exact J
  simp;(with_reducible repeat' first|refine aj ?_|simp);refine bQ.whl ((i,j-i),a1) d7 ⟨bY,hi,by simp;omega,gn,by simp;omega,U.trans (a6.mono Ω Ω),fun k=>?_⟩ (H.weakC av bY (by simp[aG];omega));rw[ar,bD];congr 1;simp only[h6,sQ];repeat' split
  all_goals omega
 ·have ao:((m:Int)-i)=(m-i:Nat):=Ω
  simp only[ix H,H.slc,H.ssc,ao,iq];refine H.doFn J (Ki H lk J (m-i) m i Ω Ω) (fun a1 h=>by rw[h.1.length];exact J) (by simp[aP,aG,H.kdata J]) ?_;rintro a1 ⟨a6,bD⟩;have bY:a1.length=n:=by rw[a6.length];exact J
  simp;refine H.ret av bY (.inr rfl) ⟨rfl,a1,rfl,U.trans (a6.mono Ω Ω),fun k=>?_⟩;rw[ar,bD];congr 1;simp only[h6,sQ];repeat' split
  all_goals omega
end
section
open Go Go.Pv
variable {α:Type} {S:List α->cS} {n g b9:Nat} {lc b2:List ai} {lt:α->α->Bool}
def uy(lt:α->α->Bool)(a b j:Nat)(l:List α):Prop:= ∀p q x y,a<=p->p<q->q<b->q≠j->l[p]? =some x->l[q]? =some y->lt y x=false
theorem uy.swap(bs:qJ lt){a b j:Nat}{l:List α}(h:uy lt a b (j+1) l)(SV:a<=j)(F8:j+1<b)(af:j+1<l.length){x y:α}(ae:l[j+1]? =some x)(aH:l[j]? =some y)(h2:lt x y=true):uy lt a b j (ho l (j+1) j):=by
 intro p q u v bK kJ bF apt hu aC;rw[AT _ _ _ _ af Ω]at hu aC;rw[if_neg (by omega:¬(q=j))]at aC;split at aC
 ·rename_i e;subst e;rw[aH]at aC;cases aC;split at hu
  ·omega
  ·split at hu
   ·rw[ae]at hu;cases hu;exact bs.asym _ _ h2
   ·exact h p j u y bK Ω Ω Ω hu aH
 ·split at hu
  ·rename_i e;subst e;rw[aH]at hu;cases hu;exact h j q y v SV Ω bF Ω aH aC
  ·split at hu
   ·rename_i e;subst e;rw[ae]at hu;cases hu;exact h (p+1) q x v Ω Ω bF Ω ae aC
   ·exact h p q u v bK kJ bF Ω hu aC
theorem uy.done(bs:qJ lt){a b j:Nat}{l:List α}(h:uy lt a b (j+1) l)(SV:a<=j)(F8:j+1<b){x y:α}(ae:l[j+1]? =some x)(aH:l[j]? =some y)(h2:lt x y=false):fe lt a b l:=by
 intro p q u v bK kJ bF hu aC;by_cases e:q=j+1
 ·subst e;rw[ae]at aC;cases aC;by_cases aF:p=j
  ·subst aF;rw[aH]at hu;cases hu;exact h2
  ·exact bs.ntr _ _ _ (h p j u y bK Ω Ω Ω hu aH) h2
 ·exact h p q u v bK kJ bF e hu aC
theorem uy.first{a b:Nat}{l:List α}(h:uy lt a b a l):fe lt a b l:=fun p q u v bK kJ bF hu aC=>h p q u v bK kJ bF Ω hu aC
theorem fe.but{a b:Nat}{l:List α}(h:fe lt a b l):uy lt a (b+1) b l:=fun p q u v bK kJ bF KX hu aC=>h p q u v bK kJ Ω hu aC
theorem Sr(H:e7 S n g b9 lc b2 lt)(bs:qJ lt)(l:List α)(av:l.length=n)(a b:Nat)(nA:a<=b)(ab:b<=n):
  bH az 187 [eY g b9 lc b2,.int .i64 a,.int .i64 b] (S l) fun r ah=>r= .tuple []/\∃a1,ah=S a1/\gu a b l a1/\fe lt a b a1:=by
 have ag:=H.ok l;have ay:∀l m,Pv.look (.loc m) (S l).b=none:=fun l=>(H.ok l).obj.1;have hu:∀l m cs,cA (.loc m) cs (S l).b=(S l).b++[(.loc m,cs)]:=fun l m cs=>kk (ay l m);have ax:∀m,aL.loc m∉c2 (S l):=kf ag.obj;have hle:=H.le;refine bH.mk mixed BG RY VK Ψ ag.obj fun aT cI=>?_;unfold Jh;simp[eY,hu,ax,cV,ay];(with_reducible repeat' first|refine aj ?_|simp[hu,ax,cV,ay]);refine nu (fun(x:Nat×List α)=>⟨[(1,.int .i64 a),(2,.int .i64 b),(3,.ptr (.loc 0) 0),(6,.int .i64 x.1)],(.loc 0,[.func g lc,.func b9 b2])::(S x.2).b,(S x.2).e,1,c2 (S l)⟩) (fun x=>b+1-x.1)
  (fun x=>x.2.length=n/\a<x.1/\x.1<=b+1/\(x.1<=b\/x.1=a+1)/\gu a b l x.2/\fe lt a x.1 x.2) (a+1,l)
  (H.weak av av d6 (by simp[cV,ay]) aK aK) ⟨av,Ψ,by simp;omega,.inr rfl,.refl _,fun i j x y J U ar=>by simp at ar;omega⟩ ?_
 rintro⟨i,lk⟩ ⟨J,nB,Ai,tF,U,ar⟩ _;simp only at J nB Ai tF U ar;simp;((with_reducible repeat' first|refine aj ?_|simp|((first|apply bJ|apply bM|apply bL)<;>intro h<;>try simp at h))<;>(try exact cc))
 ·refine nu (fun(x:Nat×List α)=>⟨[(1,.int .i64 a),(2,.int .i64 b),(3,.ptr (.loc 0) 0),(6,.int .i64 i),(7,.int .i64 x.1)],(.loc 0,[.func g lc,.func b9 b2])::(S x.2).b,(S x.2).e,1,c2 (S l)⟩) (fun x=>x.1)
   (fun x=>x.2.length=n/\a<=x.1/\x.1<=i/\gu a b l x.2/\uy lt a (i+1) x.1 x.2) (i,lk)
   (H.weakC av J d6) ⟨J,by simp;omega,Ψ,U,fe.but ar⟩ ?_
  rintro⟨j,Dy⟩ ⟨aU,agK,agY,bp,b1⟩ _;simp only at aU agK agY bp b1;simp[Pv.look];((with_reducible repeat' first|refine aj ?_|simp[Pv.look]|((first|apply bJ|apply bM|apply bL)<;>intro h<;>try simp at h))<;>(try exact cc))
  ·obtain⟨dD,rfl⟩:∃dD,j=dD+1:=⟨j-1,Ω⟩;obtain⟨x,ae⟩:∃x,Dy[dD+1]? =some x:=⟨_,cf Ω⟩;obtain⟨y,aH⟩:∃y,Dy[dD]? =some y:=⟨_,cf Ω⟩;have ao:(((dD+1:Nat):Int)-1)=(dD:Nat):=Ω
   rw[H.slc,ao];refine H.doLess aU (dD+1) dD ae aH ?_;simp;cases h2:lt x y with
   |true=>
    simp[Pv.look];(with_reducible repeat' first|refine aj ?_|simp[Pv.look]);have bA:((dD:Int)+1)=(dD+1:Nat):=Ω
    rw[H.ssc,bA];refine H.doSwap aU (dD+1) dD Ω Ω Ω ?_;simp;(with_reducible repeat' first|refine aj ?_|simp);refine bQ.whl (dD,ho Dy (dD+1) dD) Ψ ⟨by simp[aU],by simp;omega,by simp;omega,.step bp Ω Ω Ω Ω Ω Ω,b1.swap bs Ω Ω Ω ae aH h2⟩ (H.weakC av (by simp[aU]) d6)
   |false=>simp;((with_reducible repeat' first|refine aj ?_|simp|((first|apply bJ|apply bM|apply bL)<;>intro h<;>try simp at h))<;>(try exact cc));refine bQ.whl (i+1,Dy) d7 ⟨aU,by simp;omega,by simp;omega,by simp;omega,bp,b1.done bs Ω Ω ae aH h2⟩ (H.weakC av aU d6)
  ·obtain rfl:j=a:=Ω
   refine bQ.whl (i+1,Dy) d7 ⟨aU,by simp;omega,by simp;omega,by simp;omega,bp,b1.first⟩ (H.weakC av aU d6)
 ·refine H.ret av J (.inr rfl) ⟨rfl,lk,rfl,U,fun p q x y bK kJ bF=>ar p q x y bK kJ Ω⟩
end
section
open Go Go.Pv
variable {α:Type} [Inhabited α] {S:List α->cS} {n g b9:Nat} {lc b2:List ai} {lt:α->α->Bool}
theorem zy{d:Array α}{i:Nat}(h:i<d.size):d.toList[i]? =some d[i]!:=by simp[getElem!_pos,h]
theorem GV(d:Array α){i j:Nat}(hi:i<d.size)(af:j<d.size):ho d.toList i j=(Sort.swp d i j).toList:=by simp[ho,Sort.swp,zy hi,zy af]
section
variable (H:e7 S n g b9 lc b2 lt)
include H
theorem e7.swapA{d:Array α}(J:d.size=n)(U:2<=n)(i j:Nat)(hi:i<n)(af:j<n){t:List (Nat×ai)}{D:List ai}{o:List aL}{cl:Option Nat}{K:bm->Prop}
  (h:∀o,K ⟨eR cl (.tuple []) t,(.loc 0,D)::(S (Sort.swp d i j).toList).b,(S (Sort.swp d i j).toList).e,1,o⟩):cW az b9 (.int .i64 i:: .int .i64 j::b2) ⟨t,(.loc 0,D)::(S d.toList).b,(S d.toList).e,1,o⟩ cl K:=by
 refine H.doSwap (by simpa using J) i j hi af U ?_;rw[GV d Ω Ω];exact h _
theorem e7.lessA{d:Array α}(J:d.size=n)(i j:Nat)(hi:i<n)(af:j<n){t:List (Nat×ai)}{D:List ai}{o:List aL}{cl:Option Nat}{K:bm->Prop}
  (h:∀o,K ⟨eR cl (.bool (lt d[i]! d[j]!)) t,(.loc 0,D)::(S d.toList).b,(S d.toList).e,1,o⟩):cW az g (.int .i64 i:: .int .i64 j::lc) ⟨t,(.loc 0,D)::(S d.toList).b,(S d.toList).e,1,o⟩ cl K:=
 H.doLess (by simpa using J) i j (zy Ω) (zy Ω) (h _)
theorem e7.fnA{d d2:Array α}(J:d.size=n)(U:d2.size=n){f:Nat}{args:List ai}{r:ai}(aR:bH az f args (S d.toList) fun eM ah=>eM=r/\ah=S d2.toList)(ad:aP (inObs (S d.toList)) args){t:List (Nat×ai)}{D:List ai}{o:List aL}{cl:Option Nat}{K:bm->Prop}
  (h:∀o,K ⟨eR cl r t,(.loc 0,D)::(S d2.toList).b,(S d2.toList).e,1,o⟩):cW az f args ⟨t,(.loc 0,D)::(S d.toList).b,(S d.toList).e,1,o⟩ cl K:=
 H.call (by simpa using J) (R:=fun eM a1=>eM=r/\a1=d2.toList) (aR.mono fun r ah ⟨ao,aF⟩=>⟨_,aF,ao,rfl⟩) (fun r a1 ⟨_,e⟩=>by rw[e];simpa using U) ad (by rintro eM a1 ⟨rfl,rfl⟩;exact h _)
end
section
variable (H:e7 S n g b9 lc b2 lt)
include H
theorem e7.loopA{β:Type}{yF:List α}(av:yF.length=n){t:List (Nat×ai)}{b:List (aL×List ai)}{e:List (aL×fN)}{q:Nat}{o:List aL}(cg:List Nat)(cs:β->List (Nat×ai))(A:β->Array α)(nj:β->Nat)(gX:β->Prop)(a0:β)(bg:(A a0).size=n)(bE:gX a0)
  (r5:Pv.look (.loc 0) b=some [.func g lc,.func b9 b2]) (ab:∀k cs,Pv.look k (S (A a0).toList).b=some cs->Pv.look k b=some cs) (he:∀k o,Pv.look k (S (A a0).toList).e=some o->Pv.look k e=some o)
  (aM:∀x∈ve t cg++cs a0,Pv.get x.1 t=x.2/\aG (mr (S (A a0).toList) 1) x.2) {c:C} {Q:Exit->bm->Prop}
  (ag:∀a,gX a->c3 az (c2 (S yF)) c (bQ (c2 (S yF)) (BT (fun a=>⟨ve t cg++cs a,(.loc 0,[.func g lc,.func b9 b2])::(S (A a).toList).b,(S (A a).toList).e,1,c2 (S yF)⟩) nj gX) (nj a) Q) ⟨ve t cg++cs a,(.loc 0,[.func g lc,.func b9 b2])::(S (A a).toList).b,(S (A a).toList).e,1,c2 (S yF)⟩):
  c3 az (c2 (S yF)) (.loop c) Q ⟨t,b,e,q,o⟩:=
 nu (fun a=>⟨ve t cg++cs a,(.loc 0,[.func g lc,.func b9 b2])::(S (A a).toList).b,(S (A a).toList).e,1,c2 (S yF)⟩) nj gX a0 (H.weak av (by simpa using bg) aM r5 ab he) bE fun a af _=>ag a af
theorem e7.callA0{lk:List α}(J:lk.length=n){f:Nat}{args:List ai}{R:ai->List α->Prop}(aR:bH az f args (S lk) fun r ah=> ∃a1,ah=S a1/\R r a1)(bG:∀r a1,R r a1->a1.length=n)(ad:aP (inObs (S lk)) args){t:List (Nat×ai)}{D:List ai}{o:List aL}{d:Option Nat}{K:bm->Prop}
  (h:∀r a1,R r a1->∀o,K ⟨eR d r t,(.loc 0,D)::(S a1).b,(S a1).e,1,o⟩):cW az f args ⟨t,(S lk).b++[(.loc 0,D)],(S lk).e,1,o⟩ d K:=by
 refine cW.ob aR (H.ok lk) (fun k cs ae=>by rw[cV,ae]) (fun _ _ ae=>ae) ad ?_;rintro r ah ⟨a1,rfl,aJ⟩;refine⟨H.same _ _ J (bG _ _ aJ),?_⟩;have ao:cb (S lk).b ((S lk).b++[(.loc 0,D)])=[(.loc 0,D)]:=by rw[iH,hh];simp[cb,H.loc]
 have aF:cb (S lk).e (S lk).e=[]:=hh _;have:=h _ _ aJ (o++c2 (S a1));simp only[ao,aF];exact this
theorem e7.swapA0{d:Array α}(J:d.size=n)(U:2<=n)(i j:Nat)(hi:i<n)(af:j<n){t:List (Nat×ai)}{D:List ai}{o:List aL}{cl:Option Nat}{K:bm->Prop}
  (h:∀o,K ⟨eR cl (.tuple []) t,(.loc 0,D)::(S (Sort.swp d i j).toList).b,(S (Sort.swp d i j).toList).e,1,o⟩):cW az b9 (.int .i64 i:: .int .i64 j::b2) ⟨t,(S d.toList).b++[(.loc 0,D)],(S d.toList).e,1,o⟩ cl K:=by
 refine H.callA0 (by simpa using J) (R:=fun r a1=>r= .tuple []/\a1=(Sort.swp d i j).toList) ((H.swap d.toList (by simpa using J) U i j hi af).mono fun r ah ⟨ao,aF⟩=>⟨_,aF,ao,GV d Ω Ω⟩) (fun r a1 ⟨_,e⟩=>by rw[e];simp[Sort.swp,J]) (by simp[aG,aP,H.ksc d.toList (by simpa using J)]) ?_;rintro r a1 ⟨rfl,rfl⟩ o;exact h o
theorem e7.retA{l:List α}{d:Array α}(av:l.length=n)(J:d.size=n){Q:ai->cS->Prop}{e:Exit}(he:e= .ret\/e= .normal){t:List (Nat×ai)}{D:List ai}{q:Nat}{o:List aL}(bF:Q (.tuple []) (S d.toList)):cO [] (S l) Q e ⟨t,(.loc 0,D)::(S d.toList).b,(S d.toList).e,q,o⟩:=H.ret av (by simpa using J) he bF
theorem e7.retR{fl:List bX}{l:List α}{d:Array α}(av:l.length=n)(J:d.size=n){Q:ai->cS->Prop}{e:Exit}(he:e= .ret\/e= .normal){t:List (Nat×ai)}{D:List ai}{q:Nat}{o:List aL}(h:cT ⟨t,(.loc 0,D)::(S d.toList).b,(S d.toList).e,q,o⟩ fl fun r=>aG (inObs (S d.toList)) r/\Q r (S d.toList)):cO fl (S l) Q e ⟨t,(.loc 0,D)::(S d.toList).b,(S d.toList).e,q,o⟩:=by
 refine cO.at (S d.toList) he (H.ok _) (H.same _ _ av (by simpa using J)) (fun k cs ae=>?_) (fun _ _ ae=>ae) h;cases k with
 |loc m=>rw[H.loc m]at ae;cases ae
 |obj m=>simpa[Pv.look]using ae
end
theorem gV(d:Array α)(i j:Nat):(Sort.swp d i j).size=d.size:=by simp[Sort.swp]
end
section
open Go Go.Pv
def Qb:C:=(aa [cd 2 0] (.seq (.cond (.c (.bool false)) (aa [I 3 0,bR 4 (.conv .u32 (.t 3)),cR 5 194 4,I 2 5] .ret) .skip) (aa [I 6 0,cR 7 195 6,I 2 7] .ret)))
@[simp] def akv:List bX:=[.tmp 2]
def Ji:C:=(aa [a7 91 2 4,I 92 1,I 93 2,I 94 11,dj 95 202 [.t 91,.t 92,.t 93,.t 94],I 90 95,cC 96 0 90,cC 97 1 90,I 14 96,I 15 97] (aa [I 98 15,I 9 98] (aa [I 99 14,I 100 1,br 101 .sub 99 100,I 102 2,I 103 14,br 104 .sub 102 103,I 16 101,I 17 104] (aa [I 105 10,aS 106 .quo 105 8,I 18 106] (aa [I 107 16,I 108 17,br 109 .lss 107 108] (aZ 109 (aa [I 110 16,I 111 18,br 112 .geq 110 111,I 8 112] (aa [a7 113 2 4,I 114 1,I 115 14,I 116 3,dj 117 170 [.t 113,.t 114,.t 115,.t 116]] (.region [I 118 14,aS 119 .add 118 1,I 1 119]))) (aa [I 120 17,I 121 18,br 122 .geq 120 121,I 8 122] (aa [a7 123 2 4,I 124 14,aS 125 .add 124 1,I 126 2,I 127 3,dj 128 170 [.t 123,.t 125,.t 126,.t 127]] (.region [I 129 14,I 2 129])))))))))
def Cb:C:=(.seq (aa [I 73 1,aS 74 .gtr 73 0,I 75 74,au 75 true (aI 76 0 1 4),au 75 true (aw 77 1 76),bW 75 true 78 1,au 75 true (aS 79 .sub 78 1),bW 75 true 80 11,au 75 true (gj 81 77 [.t 79,.t 80]),au 75 true (cJ 82 81),dq 83 75 82] (aZ 83 (aa [a7 84 2 4,I 85 1,I 86 2,I 87 11,dj 88 201 [.t 84,.t 85,.t 86,.t 87],I 13 88] (aa [I 89 13,I 1 89] (.exit 1))) .skip)) Ji)
def Jj:C:=(.seq (aa [I 61 8,I 62 61,bW 62 true 63 9,dq 64 62 63,I 65 64,bW 65 true 66 12,au 65 true (aS 67 .eql 66 1),dq 68 65 67] (aZ 68 (aa [a7 69 2 4,I 70 1,I 71 2,dj 72 200 [.t 69,.t 70,.t 71]] (aZ 72 .ret .skip)) .skip)) Cb)
def Jk:C:=(aa [a7 43 2 4,I 44 1,I 45 2,dj 46 198 [.t 43,.t 44,.t 45],I 42 46,cC 47 0 42,cC 48 1 42,I 11 47,I 12 48] (.seq (aa [I 49 12,aS 50 .eql 49 2] (aZ 50 (aa [a7 51 2 4,I 52 1,I 53 2,dj 54 199 [.t 51,.t 52,.t 53]] (aa [I 55 2,aS 56 .sub 55 1,I 57 11,I 58 1,br 59 .sub 57 58,br 60 .sub 56 59,I 11 60] (.region [cd 12 1]))) .skip)) Jj))
def Qo:C:=(aa [c8 4 0] (aa [bq 8 true] (aa [bq 9 true] (.block 0 (.loop (.block 1 (aa [I 19 2,I 20 1,br 21 .sub 19 20,I 10 21] (.seq (aa [I 22 10,aS 23 .leq 22 12] (aZ 23 (aa [a7 24 2 4,I 25 1,I 26 2,dj 27 187 [.t 24,.t 25,.t 26]] .ret) .skip)) (.seq (aa [I 28 3,aS 29 .eql 28 0] (aZ 29 (aa [a7 30 2 4,I 31 1,I 32 2,dj 33 196 [.t 30,.t 31,.t 32]] .ret) .skip)) (.seq (aa [I 34 8,cJ 35 34] (aZ 35 (aa [a7 36 2 4,I 37 1,I 38 2,dj 39 197 [.t 36,.t 37,.t 38]] (.region [I 40 3,aS 41 .sub 40 1,I 3 41])) .skip)) Jk))))))))))
@[simp] def WG:List bX:=[]
def Qc:C:=(aa [cd 2 0] (.seq (aa [I 3 0,bR 4 (.bin .geq false (.t 3) (.c (.int .u64 4294967296)))] (aZ 4 (aa [I 5 0,bR 6 (.bin .shr false (.t 5) (.c (.int .u64 32))),I 0 6] (.region [cd 2 32])) .skip)) (.seq (aa [I 7 0,bR 8 (.bin .geq false (.t 7) (.c (.int .u64 65536)))] (aZ 8 (aa [I 9 0,bR 10 (.bin .shr false (.t 9) (.c (.int .u64 16))),I 0 10] (.region [I 11 2,aS 12 .add 11 16,I 2 12])) .skip)) (.seq (aa [I 13 0,bR 14 (.bin .geq false (.t 13) (.c (.int .u64 256)))] (aZ 14 (aa [I 15 0,bR 16 (.bin .shr false (.t 15) (.c (.int .u64 8))),I 0 16] (.region [I 17 2,aS 18 .add 17 8,I 2 18])) .skip)) (aa [I 19 2,I 20 0,bR 21 (.conv .u8 (.t 20)),bR 22 (.sidx (.c (.str [0,1,2,2,3,3,3,3,4,4,4,4,4,4,4,4,5,5,5,5,5,5,5,5,5,5,5,5,5,5,5,5,6,6,6,6,6,6,6,6,6,6,6,6,6,6,6,6,6,6,6,6,6,6,6,6,6,6,6,6,6,6,6,6,7,7,7,7,7,7,7,7,7,7,7,7,7,7,7,7,7,7,7,7,7,7,7,7,7,7,7,7,7,7,7,7,7,7,7,7,7,7,7,7,7,7,7,7,7,7,7,7,7,7,7,7,7,7,7,7,7,7,7,7,7,7,7,7,8,8,8,8,8,8,8,8,8,8,8,8,8,8,8,8,8,8,8,8,8,8,8,8,8,8,8,8,8,8,8,8,8,8,8,8,8,8,8,8,8,8,8,8,8,8,8,8,8,8,8,8,8,8,8,8,8,8,8,8,8,8,8,8,8,8,8,8,8,8,8,8,8,8,8,8,8,8,8,8,8,8,8,8,8,8,8,8,8,8,8,8,8,8,8,8,8,8,8,8,8,8,8,8,8,8,8,8,8,8,8,8,8,8,8,8,8,8,8,8,8,8,8,8,8,8,8,8])) (.t 21)),bR 23 (.conv .i64 (.t 22)),br 24 .add 19 23,I 2 24] .ret)))))
@[simp] def Bm:List bX:=[.tmp 2]
def Qg:C:=(aa [c8 3 0] (aa [I 11 1,I 6 11] (aa [cd 7 0] (aa [I 12 2,I 13 1,br 14 .sub 12 13,I 8 14] (.seq (aa [I 15 8,aS 16 .sub 15 1,aS 17 .quo 16 2,I 9 17] (.block 0 (.loop (.seq (aa [I 18 9,aS 19 .geq 18 0] (aZ 19 .skip (.exit 0))) (.seq (.block 1 (.region [a7 22 2 3,I 23 9,I 24 8,I 25 6,dj 26 209 [.t 22,.t 23,.t 24,.t 25]])) (.region [I 20 9,aS 21 .sub 20 1,I 9 21])))))) (aa [I 27 8,aS 28 .sub 27 1,I 10 28] (.block 2 (.loop (.seq (aa [I 29 10,aS 30 .geq 29 0] (aZ 30 .skip (.exit 2))) (.seq (.block 3 (aa [aI 33 1 1 3,aw 34 1 33,I 35 6,I 36 6,I 37 10,br 38 .add 36 37,gj 39 34 [.t 35,.t 38]] (.region [a7 40 2 3,I 41 7,I 42 10,I 43 6,dj 44 209 [.t 40,.t 41,.t 42,.t 43]]))) (.region [I 31 10,aS 32 .sub 31 1,I 10 32])))))))))))
@[simp] def akw:List bX:=[]
def Qe:C:=(aa [c8 3 0] (aa [I 11 2,I 12 1,br 13 .sub 11 12,I 6 13] (aa [I 14 6,aS 15 .geq 14 8] (aZ 15 (aa [I 16 6,bR 17 (.conv .u64 (.t 16)),cN (.alloc 7 (some 902) (.int .u64 0)),bN 1 7 17] (aa [I 18 6,cR 19 210 18,I 8 19] (aa [I 20 1,I 21 6,aS 22 .quo 21 4,aS 23 .mul 22 2,br 24 .add 20 23,aS 25 .sub 24 1,I 9 25] (.block 0 (.loop (.seq (aa [I 26 9,I 27 1,I 28 6,aS 29 .quo 28 4,aS 30 .mul 29 2,br 31 .add 27 30,aS 32 .add 31 1,br 33 .leq 26 32] (aZ 33 .skip (.exit 0))) (.seq (.block 1 (aa [cR 36 211 7,I 37 8,bR 38 (.bin .sub true (.t 37) (.c (.int .u64 1))),br 39 .and 36 38,bR 40 (.conv .i64 (.t 39)),I 10 40] (.seq (aa [I 41 10,I 42 6,br 43 .geq 41 42] (aZ 43 (.region [I 44 10,I 45 6,br 46 .sub 44 45,I 10 46]) .skip)) (.region [aI 47 1 1 3,aw 48 1 47,I 49 9,I 50 1,I 51 10,br 52 .add 50 51,gj 53 48 [.t 49,.t 52]])))) (.region [I 34 9,aS 35 .add 34 1,I 9 35])))))))) .skip))))
@[simp] def WB:List bX:=[]
def Qf:C:=(aa [c8 3 0,cd 6 0,cd 7 0] (aa [I 13 2,I 14 1,br 15 .sub 13 14,I 8 15] (aa [cN (.alloc 9 (some 901) (.int .i64 0))] (aa [I 16 1,I 17 8,aS 18 .quo 17 4,aS 19 .mul 18 1,br 20 .add 16 19,I 10 20] (aa [I 21 1,I 22 8,aS 23 .quo 22 4,aS 24 .mul 23 2,br 25 .add 21 24,I 11 25] (aa [I 26 1,I 27 8,aS 28 .quo 27 4,aS 29 .mul 28 3,br 30 .add 26 29,I 12 30] (.seq (aa [I 31 8,aS 32 .geq 31 8] (aZ 32 (.seq (aa [I 33 8,aS 34 .geq 33 50] (aZ 34 (aa [a7 35 2 3,I 36 10,dj 37 212 [.t 35,.t 36,.t 9],I 10 37] (aa [a7 38 2 3,I 39 11,dj 40 212 [.t 38,.t 39,.t 9],I 11 40] (.region [a7 41 2 3,I 42 12,dj 43 212 [.t 41,.t 42,.t 9],I 12 43]))) .skip)) (.region [a7 44 2 3,I 45 10,I 46 11,I 47 12,dj 48 213 [.t 44,.t 45,.t 46,.t 47,.t 9],I 11 48])) .skip)) (aa [aw 49 1 9] (.block 0 (aa [aS 52 .eql 49 0,I 51 52] (aZ 51 (aa [I 53 11,I 6 53,cd 7 1] .ret) (aa [aS 55 .eql 49 12,I 54 55] (aZ 54 (aa [I 56 11,I 6 56,cd 7 2] .ret) (aa [I 50 11,I 6 50,cd 7 0] .ret))))))))))))))
@[simp] def MK:List bX:=[.tmp 6,.tmp 7]
def Qp:C:=(aa [c8 3 0] (aa [I 8 1,I 6 8] (aa [I 9 2,aS 10 .sub 9 1,I 7 10] (.block 0 (.loop (.seq (aa [I 11 6,I 12 7,br 13 .lss 11 12] (aZ 13 .skip (.exit 0))) (.block 1 (aa [aI 14 1 1 3,aw 15 1 14,I 16 6,I 17 7,gj 18 15 [.t 16,.t 17]] (aa [I 19 6,aS 20 .add 19 1,I 6 20] (.region [I 21 7,aS 22 .sub 21 1,I 7 22]))))))))))
@[simp] def aky:List bX:=[]
def Ql:C:=(aa [c8 3 0,bq 6 false] (aa [I 11 1,aS 12 .add 11 1,I 7 12] (.seq (aa [cd 8 0] (.block 0 (.loop (.seq (aa [I 13 8,aS 14 .lss 13 5] (aZ 14 .skip (.exit 0))) (.seq (.block 1 (.seq (.block 2 (.loop (.seq (aa [I 17 7,I 18 2,br 19 .lss 17 18,I 20 19,au 20 true (aI 21 0 1 3),au 20 true (aw 22 1 21),bW 20 true 23 7,bW 20 true 24 7,au 20 true (aS 25 .sub 24 1),au 20 true (gj 26 22 [.t 23,.t 25]),au 20 true (cJ 27 26),dq 28 20 27] (aZ 28 .skip (.exit 2))) (.block 3 (.region [I 29 7,aS 30 .add 29 1,I 7 30]))))) (.seq (aa [I 31 7,I 32 2,br 33 .eql 31 32] (aZ 33 (aa [bq 6 true] .ret) .skip)) (.seq (aa [I 34 2,I 35 1,br 36 .sub 34 35,aS 37 .lss 36 50] (aZ 37 (aa [bq 6 false] .ret) .skip)) (aa [aI 38 1 1 3,aw 39 1 38,I 40 7,I 41 7,aS 42 .sub 41 1,gj 43 39 [.t 40,.t 42]] (.seq (aa [I 44 7,I 45 1,br 46 .sub 44 45,aS 47 .geq 46 2] (aZ 47 (aa [I 48 7,aS 49 .sub 48 1,I 9 49] (.block 4 (.loop (.seq (aa [I 50 9,aS 51 .geq 50 1] (aZ 51 .skip (.exit 4))) (.seq (.block 5 (.seq (aa [aI 54 0 1 3,aw 55 1 54,I 56 9,I 57 9,aS 58 .sub 57 1,gj 59 55 [.t 56,.t 58],cJ 60 59] (aZ 60 (.exit 4) .skip)) (.region [aI 61 1 1 3,aw 62 1 61,I 63 9,I 64 9,aS 65 .sub 64 1,gj 66 62 [.t 63,.t 65]]))) (.region [I 52 9,aS 53 .sub 52 1,I 9 53])))))) .skip)) (aa [I 67 2,I 68 7,br 69 .sub 67 68,aS 70 .geq 69 2] (aZ 70 (aa [I 71 7,aS 72 .add 71 1,I 10 72] (.block 6 (.loop (.seq (aa [I 73 10,I 74 2,br 75 .lss 73 74] (aZ 75 .skip (.exit 6))) (.seq (.block 7 (.seq (aa [aI 78 0 1 3,aw 79 1 78,I 80 10,I 81 10,aS 82 .sub 81 1,gj 83 79 [.t 80,.t 82],cJ 84 83] (aZ 84 (.exit 6) .skip)) (.region [aI 85 1 1 3,aw 86 1 85,I 87 10,I 88 10,aS 89 .sub 88 1,gj 90 86 [.t 87,.t 89]]))) (.region [I 76 10,aS 77 .add 76 1,I 10 77])))))) .skip)))))))) (.region [I 15 8,aS 16 .add 15 1,I 8 16])))))) (aa [bq 6 false] .ret))))
@[simp] def Hy:List bX:=[.tmp 6]
def Qm:C:=(aa [c8 4 0,cd 8 0] (aa [aI 11 1 1 4,aw 12 1 11,I 13 1,I 14 3,gj 15 12 [.t 13,.t 14]] (aa [I 16 1,aS 17 .add 16 1,I 18 2,aS 19 .sub 18 1,I 9 17,I 10 19] (.seq (.block 0 (.loop (.block 1 (.seq (.block 2 (.loop (.seq (aa [I 20 9,I 21 10,br 22 .leq 20 21,I 23 22,au 23 true (aI 24 0 1 4),au 23 true (aw 25 1 24),bW 23 true 26 1,bW 23 true 27 9,au 23 true (gj 28 25 [.t 26,.t 27]),au 23 true (cJ 29 28),dq 30 23 29] (aZ 30 .skip (.exit 2))) (.block 3 (.region [I 31 9,aS 32 .add 31 1,I 9 32]))))) (.seq (.block 4 (.loop (.seq (aa [I 33 9,I 34 10,br 35 .leq 33 34,I 36 35,au 36 true (aI 37 0 1 4),au 36 true (aw 38 1 37),bW 36 true 39 1,bW 36 true 40 10,au 36 true (gj 41 38 [.t 39,.t 40]),dq 42 36 41] (aZ 42 .skip (.exit 4))) (.block 5 (.region [I 43 10,aS 44 .sub 43 1,I 10 44]))))) (.seq (aa [I 45 9,I 46 10,br 47 .gtr 45 46] (aZ 47 (.exit 0) .skip)) (aa [aI 48 1 1 4,aw 49 1 48,I 50 9,I 51 10,gj 52 49 [.t 50,.t 51]] (aa [I 53 9,aS 54 .add 53 1,I 9 54] (.region [I 55 10,aS 56 .sub 55 1,I 10 56]))))))))) (aa [I 57 9,I 8 57] .ret)))))
@[simp] def MM:List bX:=[.tmp 8]
def Qn:C:=(aa [c8 4 0,cd 8 0,bq 9 false] (aa [aI 12 1 1 4,aw 13 1 12,I 14 1,I 15 3,gj 16 13 [.t 14,.t 15]] (aa [I 17 1,aS 18 .add 17 1,I 19 2,aS 20 .sub 19 1,I 10 18,I 11 20] (.seq (.block 0 (.loop (.seq (aa [I 21 10,I 22 11,br 23 .leq 21 22,I 24 23,au 24 true (aI 25 0 1 4),au 24 true (aw 26 1 25),bW 24 true 27 10,bW 24 true 28 1,au 24 true (gj 29 26 [.t 27,.t 28]),dq 30 24 29] (aZ 30 .skip (.exit 0))) (.block 1 (.region [I 31 10,aS 32 .add 31 1,I 10 32]))))) (.seq (.block 2 (.loop (.seq (aa [I 33 10,I 34 11,br 35 .leq 33 34,I 36 35,au 36 true (aI 37 0 1 4),au 36 true (aw 38 1 37),bW 36 true 39 11,bW 36 true 40 1,au 36 true (gj 41 38 [.t 39,.t 40]),au 36 true (cJ 42 41),dq 43 36 42] (aZ 43 .skip (.exit 2))) (.block 3 (.region [I 44 11,aS 45 .sub 44 1,I 11 45]))))) (.seq (aa [I 46 10,I 47 11,br 48 .gtr 46 47] (aZ 48 (aa [aI 49 1 1 4,aw 50 1 49,I 51 11,I 52 1,gj 53 50 [.t 51,.t 52]] (aa [I 54 11,I 8 54,bq 9 true] .ret)) .skip)) (aa [aI 55 1 1 4,aw 56 1 55,I 57 10,I 58 11,gj 59 56 [.t 57,.t 58]] (aa [I 60 10,aS 61 .add 60 1,I 10 61] (aa [I 62 11,aS 63 .sub 62 1,I 11 63] (.seq (.block 4 (.loop (.block 5 (.seq (.block 6 (.loop (.seq (aa [I 64 10,I 65 11,br 66 .leq 64 65,I 67 66,au 67 true (aI 68 0 1 4),au 67 true (aw 69 1 68),bW 67 true 70 10,bW 67 true 71 1,au 67 true (gj 72 69 [.t 70,.t 71]),dq 73 67 72] (aZ 73 .skip (.exit 6))) (.block 7 (.region [I 74 10,aS 75 .add 74 1,I 10 75]))))) (.seq (.block 8 (.loop (.seq (aa [I 76 10,I 77 11,br 78 .leq 76 77,I 79 78,au 79 true (aI 80 0 1 4),au 79 true (aw 81 1 80),bW 79 true 82 11,bW 79 true 83 1,au 79 true (gj 84 81 [.t 82,.t 83]),au 79 true (cJ 85 84),dq 86 79 85] (aZ 86 .skip (.exit 8))) (.block 9 (.region [I 87 11,aS 88 .sub 87 1,I 11 88]))))) (.seq (aa [I 89 10,I 90 11,br 91 .gtr 89 90] (aZ 91 (.exit 4) .skip)) (aa [aI 92 1 1 4,aw 93 1 92,I 94 10,I 95 11,gj 96 93 [.t 94,.t 95]] (aa [I 97 10,aS 98 .add 97 1,I 10 98] (.region [I 99 11,aS 100 .sub 99 1,I 11 100]))))))))) (aa [aI 101 1 1 4,aw 102 1 101,I 103 11,I 104 1,gj 105 102 [.t 103,.t 104]] (aa [I 106 11,I 8 106,bq 9 false] .ret))))))))))))
@[simp] def D2:List bX:=[.tmp 8,.tmp 9]
def Qr:C:=(aa [c8 4 0] (aa [I 10 1,I 8 10] (.block 0 (.loop (.block 1 (aa [I 11 8,bR 12 (.bin .mul false (eF 2) (.t 11)),aS 13 .add 12 1,I 9 13] (.seq (aa [I 14 9,I 15 2,br 16 .geq 14 15] (aZ 16 (.exit 0) .skip)) (.seq (aa [I 17 9,aS 18 .add 17 1,I 19 2,br 20 .lss 18 19,I 21 20,au 21 true (aI 22 0 1 4),au 21 true (aw 23 1 22),bW 21 true 24 3,bW 21 true 25 9,au 21 true (br 26 .add 24 25),bW 21 true 27 3,bW 21 true 28 9,au 21 true (br 29 .add 27 28),au 21 true (aS 30 .add 29 1),au 21 true (gj 31 23 [.t 26,.t 30]),dq 32 21 31] (aZ 32 (.region [I 33 9,aS 34 .add 33 1,I 9 34]) .skip)) (.seq (aa [aI 35 0 1 4,aw 36 1 35,I 37 3,I 38 8,br 39 .add 37 38,I 40 3,I 41 9,br 42 .add 40 41,gj 43 36 [.t 39,.t 42],cJ 44 43] (aZ 44 .ret .skip)) (aa [aI 45 1 1 4,aw 46 1 45,I 47 3,I 48 8,br 49 .add 47 48,I 50 3,I 51 9,br 52 .add 50 51,gj 53 46 [.t 49,.t 52]] (.region [I 54 9,I 8 54])))))))))))
@[simp] def akA:List bX:=[]
def Qj:C:=(aa [bR 2 (.mov (.c (.int .u64 0)))] (aa [I 4 0,bR 5 (.conv .u64 (.t 4)),cR 6 169 5,bR 7 (.conv .u64 (.t 6)),I 3 7] (aa [I 8 3,bR 9 (.bin .shl false (.c (.int .u64 1)) (.t 8)),I 2 9] .ret)))
@[simp] def WE:List bX:=[.tmp 2]
def Qv:C:=(aa [bR 2 (.mov (.c (.int .u64 0)))] (.seq (.drawn true 33 [I 3 0,eI 4 3,aw 5 1 4,I 6 0,eI 7 6,aw 8 1 7,bR 9 (.bin .shl false (.t 8) (.c (.int .u64 13))),br 10 .xor 5 9,eI 11 3,bN 1 11 10]) (.seq (.drawn true 33 [I 12 0,eI 13 12,aw 14 1 13,I 15 0,eI 16 15,aw 17 1 16,bR 18 (.bin .shr false (.t 17) (.c (.int .u64 7))),br 19 .xor 14 18,eI 20 12,bN 1 20 19]) (.seq (.drawn true 33 [I 21 0,eI 22 21,aw 23 1 22,I 24 0,eI 25 24,aw 26 1 25,bR 27 (.bin .shl false (.t 26) (.c (.int .u64 17))),br 28 .xor 23 27,eI 29 21,bN 1 29 28]) (aa [I 30 0,eI 31 30,aw 32 1 31,I 2 32] .ret)))))
@[simp] def WI:List bX:=[.tmp 2]
def Qh:C:=(aa [c8 3 0,cd 6 0] (aa [a7 7 2 3,I 8 1,aS 9 .sub 8 1,I 10 1,I 11 1,aS 12 .add 11 1,I 13 2,dj 14 213 [.t 7,.t 9,.t 10,.t 12,.t 13],I 6 14] .ret))
@[simp] def WC:List bX:=[.tmp 6]
def Qi:C:=(aa [c8 5 0,cd 10 0] (aa [a7 12 2 5,I 13 1,I 14 2,I 15 4,dj 16 218 [.t 12,.t 13,.t 14,.t 15],I 11 16,cC 17 0 11,cC 18 1 11,I 1 17,I 2 18] (aa [a7 20 2 5,I 21 2,I 22 3,I 23 4,dj 24 218 [.t 20,.t 21,.t 22,.t 23],I 19 24,cC 25 0 19,cC 26 1 19,I 2 25,I 3 26] (aa [a7 28 2 5,I 29 1,I 30 2,I 31 4,dj 32 218 [.t 28,.t 29,.t 30,.t 31],I 27 32,cC 33 0 27,cC 34 1 27,I 1 33,I 2 34] (aa [I 35 2,I 10 35] .ret)))))
@[simp] def WD:List bX:=[.tmp 10]
def Qk:C:=(aa [c8 4 0,cd 8 0,cd 9 0] (.seq (aa [aI 10 0 1 4,aw 11 1 10,I 12 2,I 13 1,gj 14 11 [.t 12,.t 13]] (aZ 14 (aa [I 15 3,eI 16 15,aw 17 1 16,aS 18 .add 17 1,eI 19 15,bN 1 19 18] (aa [I 20 2,I 21 1,I 8 20,I 9 21] .ret)) .skip)) (aa [I 22 1,I 23 2,I 8 22,I 9 23] .ret)))
@[simp] def ML:List bX:=[.tmp 8,.tmp 9]
def nT:List (Nat×dz):=[
 (3,⟨1,8,.int .i64,.int .i64 0⟩),
 (5,⟨1,1,.int .u8,.int .u8 0⟩),
 (9,⟨1,16,.str,.str []⟩),
 (117,⟨1,8,.int .u64,.int .u64 0⟩),
 (138,⟨1,8,.other,.junk⟩),
 (152,⟨1,8,.other,.junk⟩),
 (156,⟨2,16,.struct [(0,138),(1,152)],.agg [.junk,.junk]⟩),
 (170,⟨1,8,.int .u64,.int .u64 0⟩),
 (181,⟨1,4,.int .u32,.int .u32 0⟩),
 (190,⟨1,8,.int .u64,.int .u64 0⟩)]
theorem oy:fI az nT=true:=by kernel_rfl
theorem aiI:b7 nT Qb akv 1 Tryz.f169=true:=by kernel_rfl
theorem ab1:az.funcs[(169:Nat)]? =some Tryz.f169:=Tryz.func169
theorem aiV:b7 nT Qo WG 4 Tryz.f170=true:=by kernel_rfl
theorem acf:az.funcs[(170:Nat)]? =some Tryz.f170:=Tryz.func170
theorem aiJ:b7 nT Qc Bm 1 Tryz.f195=true:=by kernel_rfl
theorem ab2:az.funcs[(195:Nat)]? =some Tryz.f195:=Tryz.func195
theorem aiN:b7 nT Qg akw 3 Tryz.f196=true:=by kernel_rfl
theorem ab6:az.funcs[(196:Nat)]? =some Tryz.f196:=Tryz.func196
theorem aiL:b7 nT Qe WB 3 Tryz.f197=true:=by kernel_rfl
theorem ab4:az.funcs[(197:Nat)]? =some Tryz.f197:=Tryz.func197
theorem aiM:b7 nT Qf MK 3 Tryz.f198=true:=by kernel_rfl
theorem ab5:az.funcs[(198:Nat)]? =some Tryz.f198:=Tryz.func198
theorem aiW:b7 nT Qp aky 3 Tryz.f199=true:=by kernel_rfl
theorem acg:az.funcs[(199:Nat)]? =some Tryz.f199:=Tryz.func199
theorem aiS:b7 nT Ql Hy 3 Tryz.f200=true:=by kernel_rfl
theorem acb:az.funcs[(200:Nat)]? =some Tryz.f200:=Tryz.func200
theorem aiT:b7 nT Qm MM 4 Tryz.f201=true:=by kernel_rfl
theorem acd:az.funcs[(201:Nat)]? =some Tryz.f201:=Tryz.func201
theorem aiU:b7 nT Qn D2 4 Tryz.f202=true:=by kernel_rfl
theorem ace:az.funcs[(202:Nat)]? =some Tryz.f202:=Tryz.func202
theorem aiY:b7 nT Qr akA 4 Tryz.f209=true:=by kernel_rfl
theorem aci:az.funcs[(209:Nat)]? =some Tryz.f209:=Tryz.func209
theorem aiQ:b7 nT Qj WE 1 Tryz.f210=true:=by kernel_rfl
theorem ab9:az.funcs[(210:Nat)]? =some Tryz.f210:=Tryz.func210
theorem ai2:b7 nT Qv WI 1 Tryz.f211=true:=by kernel_rfl
theorem acn:az.funcs[(211:Nat)]? =some Tryz.f211:=Tryz.func211
theorem aiO:b7 nT Qh WC 3 Tryz.f212=true:=by kernel_rfl
theorem ab7:az.funcs[(212:Nat)]? =some Tryz.f212:=Tryz.func212
theorem aiP:b7 nT Qi WD 5 Tryz.f213=true:=by kernel_rfl
theorem ab8:az.funcs[(213:Nat)]? =some Tryz.f213:=Tryz.func213
theorem aiR:b7 nT Qk ML 4 Tryz.f218=true:=by kernel_rfl
theorem aca:az.funcs[(218:Nat)]? =some Tryz.f218:=Tryz.func218
end
section
open Go Go.Pv
variable {α:Type} [Inhabited α] {S:List α->cS} {n g b9:Nat} {lc b2:List ai} {lt:α->α->Bool}
theorem Sw(H:e7 S n g b9 lc b2 lt)(d:Array α)(aN:d.size=n)(lo hi first:Nat)(J:first+hi<=n)(U:2<=n)(ar:lo<=n):
  bH az 209 [eY g b9 lc b2,.int .i64 lo,.int .i64 hi,.int .i64 first] (S d.toList) fun r ah=>r= .tuple []/\∃cl,ah=S cl.toList/\cl=Sort.siftDown lt hi first lo d/\cl.size=n:=by
 have ag:=H.ok d.toList;have av:d.toList.length=n:=by simpa using aN
 have ay:∀l m,Pv.look (.loc m) (S l).b=none:=fun l=>(H.ok l).obj.1;have hu:∀l m cs,cA (.loc m) cs (S l).b=(S l).b++[(.loc m,cs)]:=fun l m cs=>kk (ay l m);have ax:∀m,aL.loc m∉c2 (S d.toList):=kf ag.obj;have hle:=H.le;refine bH.mk mixed oy aci aiY Ψ ag.obj fun aT cI=>?_;unfold Qr;simp[eY,hu,ax,cV,ay];refine H.loopA av [2,3,4] (fun(x:Nat×Array α)=>[(8,.int .i64 x.1)]) (·.2) (fun x=>hi-x.1) (fun x=>x.2.size=n/\x.1<=n/\Sort.siftDown lt hi first x.1 x.2=Sort.siftDown lt hi first lo d) (lo,d) aN ⟨aN,ar,rfl⟩ (by simp[cV,ay]) aK aK d6 ?_;rintro⟨root,cq⟩ ⟨aU,bp,b1⟩;simp only at aU bp b1;have ao:((first:Int)+(2*root+1))=(first+(2*root+1):Nat):=Ω
 have aF:(((first+(2*root+1):Nat):Int)+1)=(first+(2*root+1)+1:Nat):=Ω
 have bA:((first:Int)+root)=(first+root:Nat):=Ω
 have dr:((first:Int)+(2*root+1+1))=(first+(2*root+2):Nat):=Ω
 simp[Pv.look,H.slc,H.ssc];(with_reducible repeat' first|((first|apply bJ|apply bM|apply bL)<;>intro h<;>try simp at h)|refine aj ?_|simp[Pv.look,H.slc,H.ssc])
 ·rw[Sort.siftDown,dif_pos Ω]at b1;exact H.retA av aU (.inr rfl) ⟨rfl,cq,rfl,b1,aU⟩
 ·rw[Sort.siftDown,dif_neg Ω]at b1;rw[ao,aF];refine H.lessA aU _ _ Ω Ω fun o=>?_;have aq:decide (2*root+1+1<hi)=true:=by simp;omega
  cases ae:lt cq[first+(2*root+1)]! cq[first+(2*root+1)+1]! with
  |true=>
   rw[if_pos (by rw[aq,ae];rfl)]at b1;simp;(with_reducible repeat' first|refine aj ?_|simp[Pv.look,H.slc,H.ssc]);rw[bA,dr];refine H.lessA aU _ _ Ω Ω fun o=>?_;cases aH:lt cq[first+root]! cq[first+(2*root+2)]! with
   |true=>rw[if_neg (by simp[aH]),dif_pos Ω]at b1;simp;(with_reducible repeat' first|refine aj ?_|simp[Pv.look,H.slc,H.ssc]);rw[bA,dr];refine H.swapA aU U _ _ Ω Ω fun o=>?_;simp;(with_reducible repeat' first|refine aj ?_|simp);refine bQ.whl (2*root+2,Sort.swp cq (first+root) (first+(2*root+2))) d7 ⟨by rw[gV,aU],by simp;omega,b1⟩ (H.weakC av (by simp[gV,aU]) (by simp[aG];omega))
   |false=>rw[if_pos (by simp[aH])]at b1;simp;(with_reducible repeat' first|refine aj ?_|simp);all_goals exact H.retA av aU (.inl rfl) ⟨rfl,cq,rfl,b1,aU⟩
  |false=>
   rw[if_neg (by simp[ae])]at b1;simp;(with_reducible repeat' first|refine aj ?_|simp[Pv.look,H.slc,H.ssc]);rw[bA,ao];refine H.lessA aU _ _ Ω Ω fun o=>?_;cases aH:lt cq[first+root]! cq[first+(2*root+1)]! with
   |true=>rw[if_neg (by simp[aH])]at b1;simp;(with_reducible repeat' first|refine aj ?_|simp[Pv.look,H.slc,H.ssc]);rw[bA,ao];refine H.swapA aU U _ _ Ω Ω fun o=>?_;simp;(with_reducible repeat' first|refine aj ?_|simp);refine bQ.whl (2*root+1,Sort.swp cq (first+root) (first+(2*root+1))) d7 ⟨by rw[gV,aU],by simp;omega,b1⟩ (H.weakC av (by simp[gV,aU]) d6)
   |false=>rw[if_pos (by simp[aH])]at b1;simp;(with_reducible repeat' first|refine aj ?_|simp);all_goals exact H.retA av aU (.inl rfl) ⟨rfl,cq,rfl,b1,aU⟩
 ·rw[Sort.siftDown,dif_neg Ω]at b1;have aq:decide (2*root+1+1<hi)=false:=by simp;omega
  rw[if_neg (by rw[aq];simp)]at b1;rw[bA,ao];refine H.lessA aU _ _ Ω Ω fun o=>?_;cases aH:lt cq[first+root]! cq[first+(2*root+1)]! with
  |true=>rw[if_neg (by simp[aH])]at b1;simp;(with_reducible repeat' first|refine aj ?_|simp[Pv.look,H.slc,H.ssc]);rw[bA,ao];refine H.swapA aU U _ _ Ω Ω fun o=>?_;simp;(with_reducible repeat' first|refine aj ?_|simp);refine bQ.whl (2*root+1,Sort.swp cq (first+root) (first+(2*root+1))) d7 ⟨by rw[gV,aU],by simp;omega,b1⟩ (H.weakC av (by simp[gV,aU]) d6)
  |false=>rw[if_pos (by simp[aH])]at b1;simp;(with_reducible repeat' first|refine aj ?_|simp);all_goals exact H.retA av aU (.inl rfl) ⟨rfl,cq,rfl,b1,aU⟩
theorem adW(H:e7 S n g b9 lc b2 lt)(d:Array α)(aN:d.size=n)(a b:Nat)(nA:a<b)(ab:b<=n)(U:2<=n):
  bH az 199 [eY g b9 lc b2,.int .i64 a,.int .i64 b] (S d.toList) fun r ah=>r= .tuple []/\∃cl,ah=S cl.toList/\cl=Sort.reverseRange d a b/\cl.size=n:=by
 have ag:=H.ok d.toList;have av:d.toList.length=n:=by simpa using aN
 have ay:∀l m,Pv.look (.loc m) (S l).b=none:=fun l=>(H.ok l).obj.1;have hu:∀l m cs,cA (.loc m) cs (S l).b=(S l).b++[(.loc m,cs)]:=fun l m cs=>kk (ay l m);have ax:∀m,aL.loc m∉c2 (S d.toList):=kf ag.obj;have hle:=H.le;refine bH.mk mixed oy acg aiW Ψ ag.obj fun aT cI=>?_;unfold Qp;simp[eY,hu,ax,cV,ay];have p8:((b:Int)-1)=(b-1:Nat):=Ω
 (with_reducible repeat' first|refine aj ?_|simp[hu,ax,cV,ay]);rw[p8];refine H.loopA av [3] (fun(x:(Nat×Nat)×Array α)=>[(6,.int .i64 x.1.1),(7,.int .i64 x.1.2)]) (·.2) (fun x=>x.1.2+1-x.1.1) (fun x=>x.2.size=n/\x.1.2<n/\Sort.reverseLoop x.1.1 x.1.2 x.2=Sort.reverseRange d a b) ((a,b-1),d) aN ⟨aN,by simp;omega,rfl⟩ (by simp[cV,ay]) aK aK d6 ?_;rintro⟨⟨i,j⟩,cq⟩ ⟨aU,bp,b1⟩;simp only at aU bp b1;rw[Sort.reverseLoop]at b1;simp[Pv.look,H.slc,H.ssc];(with_reducible repeat' first|((first|apply bJ|apply bM|apply bL)<;>intro h<;>try simp at h)|refine aj ?_|simp[Pv.look,H.slc,H.ssc])
 ·rw[if_pos Ω]at b1;refine H.swapA aU U _ _ Ω Ω fun o=>?_;have ao:((i:Int)+1)=(i+1:Nat):=Ω
  have aF:((j:Int)-1)=(j-1:Nat):=Ω
  simp;((with_reducible repeat' first|refine aj ?_|simp|((first|apply bJ|apply bM|apply bL)<;>intro h<;>try simp at h))<;>(try exact cc));rw[ao,aF];refine bQ.whl ((i+1,j-1),Sort.swp cq i j) d7 ⟨by rw[gV,aU],by simp;omega,b1⟩ (H.weakC av (by simp[gV,aU]) d6)
 ·rw[if_neg Ω]at b1;exact H.retA av aU (.inr rfl) ⟨rfl,cq,rfl,b1,aU⟩
theorem adD(H:e7 S n g b9 lc b2 lt)(d:Array α)(aN:d.size=n)(a b:Nat)(nA:a<=b)(ab:b<=n)(U:2<=n):
  bH az 196 [eY g b9 lc b2,.int .i64 a,.int .i64 b] (S d.toList) fun r ah=>r= .tuple []/\∃cl,ah=S cl.toList/\cl=Sort.heapSort lt d a b/\cl.size=n:=by
 have ag:=H.ok d.toList;have av:d.toList.length=n:=by simpa using aN
 have ay:∀l m,Pv.look (.loc m) (S l).b=none:=fun l=>(H.ok l).obj.1;have hu:∀l m cs,cA (.loc m) cs (S l).b=(S l).b++[(.loc m,cs)]:=fun l m cs=>kk (ay l m);have ax:∀m,aL.loc m∉c2 (S d.toList):=kf ag.obj;have hle:=H.le;refine bH.mk mixed oy ab6 aiN Ψ ag.obj fun aT cI=>?_;unfold Qg;simp[eY,hu,ax,cV,ay];(with_reducible repeat' first|refine aj ?_|simp[hu,ax,cV,ay]);have p8:nk.wrap (((b:Int)-a-1).tdiv 2)=(((b-a-1)/2+1:Nat):Int)-1:=by
  have e:((b:Int)-a-1).tdiv 2=(((b-a-1)/2+1:Nat):Int)-1:=by
   rcases Nat.eq_or_lt_of_le nA with h|h
   ·subst h;simp
   ·rw[show((b:Int)-a-1)=((b-a-1:Nat):Int) by omega,Int.tdiv_eq_ediv_of_nonneg Ω];omega
  rw[e,mB _ Ω]
 rw[p8];refine H.loopA av [3,6,7,8] (fun(x:Nat×Array α)=>[(9,.int .i64 ((x.1:Int)-1))]) (·.2) (fun x=>x.1) (fun x=>x.2.size=n/\x.1<=n/\Sort.heapBuild lt (b-a) a x.1 x.2=Sort.heapBuild lt (b-a) a ((b-a-1)/2+1) d) ((b-a-1)/2+1,d) aN ⟨aN,by simp;omega,rfl⟩ (by simp[cV,ay]) aK aK d6 ?_;rintro⟨k,cq⟩ ⟨aU,bp,b1⟩;simp only at aU bp b1;have Z6:((b:Int)-a)=(b-a:Nat):=Ω
 simp[Pv.look,H.slc,H.ssc];(with_reducible repeat' first|((first|apply bJ|apply bM|apply bL)<;>intro h<;>try simp at h)|refine aj ?_|simp[Pv.look,H.slc,H.ssc])
 ·obtain⟨k,rfl⟩:∃bI,k=bI+1:=⟨k-1,Ω⟩;have JJ:(((k+1:Nat):Int)-1)=(k:Nat):=Ω
  rw[Sort.heapBuild]at b1;simp only[ix H,H.slc,H.ssc,iq,JJ,Z6];refine H.doFn (lk:=cq.toList) (by simpa using aU) (R:=fun a1=> ∃cl,a1=cl.toList/\cl=Sort.siftDown lt (b-a) a k cq/\cl.size=n) ((Sw H cq aU k (b-a) a Ω U Ω).mono fun r ah ⟨a6,cl,bD,bY,c5⟩=>⟨a6,cl.toList,bD,cl,rfl,bY,c5⟩) (by rintro a1 ⟨cl,rfl,_,q⟩;simpa using q) (by simp[aP,aG,H.kdata (lk:=cq.toList) (by simpa using aU)]) ?_;rintro a1 ⟨cl,rfl,a6,bD⟩;simp;((with_reducible repeat' first|refine aj ?_|simp|((first|apply bJ|apply bM|apply bL)<;>intro h<;>try simp at h))<;>(try exact cc));refine bQ.whl (k,cl) Ψ ⟨bD,by simp;omega,by rw[<-b1,a6]⟩ (H.weakC av (by simpa using bD) d6)
 ·obtain rfl:k=0:=Ω
  rw[Sort.heapBuild]at b1;have apg:cq.size=n:=aU;refine H.loopA av [3,6,7] (fun(x:Nat×Array α)=>[(10,.int .i64 ((x.1:Int)-1))]) (·.2) (fun x=>x.1) (fun x=>x.2.size=n/\x.1<=b-a/\Sort.heapPop lt a x.1 x.2=Sort.heapPop lt a (b-a) cq) (b-a,cq) aU ⟨aU,Ψ,rfl⟩ (by simp[Pv.look]) aK aK (by simp[aG];omega) ?_;rintro⟨k,fO⟩ ⟨hC,wM,hn⟩;simp only at hC wM hn;simp[Pv.look,H.slc,H.ssc];(with_reducible repeat' first|((first|apply bJ|apply bM|apply bL)<;>intro h<;>try simp at h)|refine aj ?_|simp[Pv.look,H.slc,H.ssc])
  ·obtain⟨k,rfl⟩:∃bI,k=bI+1:=⟨k-1,Ω⟩;have JJ:(((k+1:Nat):Int)-1)=(k:Nat):=Ω
   have Z5:((a:Int)+k)=(a+k:Nat):=Ω
   rw[Sort.heapPop]at hn;simp only[JJ,Z5];refine H.swapA hC U _ _ Ω Ω fun o=>?_;have Lr:(Sort.swp fO a (a+k)).size=n:=by rw[gV,hC]
   simp;simp only[ix H,H.slc,H.ssc,iq];refine H.doFn (lk:=(Sort.swp fO a (a+k)).toList) (by simpa using Lr) (R:=fun a1=> ∃cl,a1=cl.toList/\cl=Sort.siftDown lt k a 0 (Sort.swp fO a (a+k))/\cl.size=n) ((Sw H (Sort.swp fO a (a+k)) Lr 0 k a Ω U Ω).mono fun r ah ⟨a6,cl,bD,bY,c5⟩=>⟨a6,cl.toList,bD,cl,rfl,bY,c5⟩) (by rintro a1 ⟨cl,rfl,_,q⟩;simpa using q) (by simp[aP,aG,H.kdata (lk:=(Sort.swp fO a (a+k)).toList) (by simpa using Lr)]) ?_;rintro a1 ⟨cl,rfl,a6,bD⟩;simp;((with_reducible repeat' first|refine aj ?_|simp|((first|apply bJ|apply bM|apply bL)<;>intro h<;>try simp at h))<;>(try exact cc));refine bQ.whl (k,cl) Ψ ⟨bD,by simp;omega,by rw[<-hn,a6]⟩ (H.weakC av (by simpa using bD) d6)
  ·obtain rfl:k=0:=Ω
   rw[Sort.heapPop]at hn;refine H.retA av hC (.inr rfl) ⟨rfl,fO,rfl,?_,hC⟩;rw[Sort.heapSort,<-b1,<-hn]
theorem adE(H:e7 S n g b9 lc b2 lt)(d:Array α)(aN:d.size=n)(a b:Nat)(nA:a<=b)(ab:b<=n):
  bH az 187 [eY g b9 lc b2,.int .i64 a,.int .i64 b] (S d.toList) fun r ah=>r= .tuple []/\∃cl,ah=S cl.toList/\cl=Sort.insertionSort lt d a b/\cl.size=n:=by
 have ag:=H.ok d.toList;have av:d.toList.length=n:=by simpa using aN
 have ay:∀l m,Pv.look (.loc m) (S l).b=none:=fun l=>(H.ok l).obj.1;have hu:∀l m cs,cA (.loc m) cs (S l).b=(S l).b++[(.loc m,cs)]:=fun l m cs=>kk (ay l m);have ax:∀m,aL.loc m∉c2 (S d.toList):=kf ag.obj;have hle:=H.le;refine bH.mk mixed BG RY VK Ψ ag.obj fun aT cI=>?_;unfold Jh;simp[eY,hu,ax,cV,ay];have p8:((a:Int)+1)=(a+1:Nat):=Ω
 (with_reducible repeat' first|refine aj ?_|simp[hu,ax,cV,ay]);rw[p8];refine H.loopA av [1,2,3] (fun(x:Nat×Array α)=>[(6,.int .i64 x.1)]) (·.2) (fun x=>b+1-x.1) (fun x=>x.2.size=n/\x.1<=b+1/\Sort.insOuter lt a b x.1 x.2=Sort.insertionSort lt d a b) (a+1,d) aN ⟨aN,by simp;omega,rfl⟩ (by simp[cV,ay]) aK aK d6 ?_;rintro⟨i,cq⟩ ⟨aU,bp,b1⟩;simp only at aU bp b1;rw[Sort.insOuter]at b1;simp;(with_reducible repeat' first|((first|apply bJ|apply bM|apply bL)<;>intro h<;>try simp at h)|refine aj ?_|simp)
 ·rw[if_pos Ω]at b1;refine H.loopA av [1,2,3,6] (fun(x:Nat×Array α)=>[(7,.int .i64 x.1)]) (·.2) (fun x=>x.1) (fun x=>x.2.size=n/\x.1<=i/\Sort.insInner lt a x.1 x.2=Sort.insInner lt a i cq) (i,cq) aU ⟨aU,Ψ,rfl⟩ (by simp[Pv.look]) aK aK d6 ?_;rintro⟨j,fO⟩ ⟨hC,wM,hn⟩;simp only at hC wM hn;simp[Pv.look,H.slc,H.ssc];(with_reducible repeat' first|((first|apply bJ|apply bM|apply bL)<;>intro h<;>try simp at h)|refine aj ?_|simp[Pv.look,H.slc,H.ssc])
  ·obtain⟨j,rfl⟩:∃dD,j=dD+1:=⟨j-1,Ω⟩;have oO:(((j+1:Nat):Int)-1)=(j:Nat):=Ω
   have pD:((i:Int)+1)=(i+1:Nat):=Ω
   have Z9:((j:Int)+1)=(j+1:Nat):=Ω
   rw[Sort.insInner]at hn;have aq:decide (j+1>a)=true:=by simp;omega
   rw[oO];refine H.lessA hC _ _ Ω Ω fun o=>?_;cases ae:lt fO[j+1]! fO[j]! with
   |true=>rw[if_pos (by rw[aq,ae];rfl)]at hn;simp;(with_reducible repeat' first|refine aj ?_|simp[Pv.look,H.slc,H.ssc]);rw[Z9];refine H.swapA hC Ω _ _ Ω Ω fun o=>?_;simp;(with_reducible repeat' first|refine aj ?_|simp);refine bQ.whl (j,Sort.swp fO (j+1) j) Ψ ⟨by rw[gV,hC],by simp;omega,hn⟩ (H.weakC av (by simp[gV,hC]) d6)
   |false=>rw[if_neg (by simp[ae])]at hn;simp;((with_reducible repeat' first|refine aj ?_|simp|((first|apply bJ|apply bM|apply bL)<;>intro h<;>try simp at h))<;>(try exact cc));rw[pD];refine bQ.whl (i+1,fO) d7 ⟨hC,by simp;omega,by rw[<-b1,<-hn]⟩ (H.weakC av (by simpa using hC) d6)
  ·have pD:((i:Int)+1)=(i+1:Nat):=Ω
   have yA:Sort.insInner lt a j fO=fO:=by
    cases j with
    |zero=>rfl
    |succ j=>rw[Sort.insInner,if_neg d7]
   rw[pD];refine bQ.whl (i+1,fO) d7 ⟨hC,by simp;omega,by rw[<-b1,<-hn,yA]⟩ (H.weakC av (by simpa using hC) d6)
 ·rw[if_neg Ω]at b1;exact H.retA av aU (.inr rfl) ⟨rfl,cq,rfl,b1,aU⟩
end
section
open Go Go.Pv
variable {α:Type} [Inhabited α] {S:List α->cS} {n g b9:Nat} {lc b2:List ai} {lt:α->α->Bool}
theorem vG{p:α->Bool}{d:Array α}{i j:Nat}(h:¬(i<=j/\p d[j]! =true)):Sort.scanDown p d i j=j:=by
 cases j with
 |zero=>rfl
 |succ j=>rw[Sort.scanDown,if_neg (by simpa using h)]
theorem Bx{p:α->Bool}{d:Array α}{i j:Nat}(h:¬(i<=j/\p d[i]! =true)):Sort.scanUp p d j i=i:=by rw[Sort.scanUp,if_neg (by simpa using h)]
theorem Nq{p:α->Bool}{d:Array α}{i j:Nat}(J:i<=j)(U:p d[i]! =true):Sort.scanUp p d j i=Sort.scanUp p d j (i+1):=by rw[Sort.scanUp,if_pos (by simp[J,U])]
theorem Np{p:α->Bool}{d:Array α}{i j:Nat}(J:i<=j+1)(U:p d[j+1]! =true):Sort.scanDown p d i (j+1)=Sort.scanDown p d i j:=by rw[Sort.scanDown,if_pos (by simp[J,U])]
theorem adQ(H:e7 S n g b9 lc b2 lt)(d:Array α)(aN:d.size=n)(a b pivot:Nat)(r4:a<=pivot)(afD:pivot<b)(nA:a+1<b)(ab:b<=n):
  bH az 202 [eY g b9 lc b2,.int .i64 a,.int .i64 b,.int .i64 pivot] (S d.toList) fun r ah=>r= .tuple [.int .i64 (Sort.partition lt d a b pivot).1,.bool (Sort.partition lt d a b pivot).2.1]/\∃cl,ah=S cl.toList/\cl=(Sort.partition lt d a b pivot).2.2/\cl.size=n:=by
 obtain⟨R,bG⟩:∃R,R=Sort.partition lt d a b pivot:=⟨_,rfl⟩;rw[<-bG];unfold Sort.partition at bG;have ag:=H.ok d.toList;have av:d.toList.length=n:=by simpa using aN
 have ay:∀l m,Pv.look (.loc m) (S l).b=none:=fun l=>(H.ok l).obj.1;have hu:∀l m cs,cA (.loc m) cs (S l).b=(S l).b++[(.loc m,cs)]:=fun l m cs=>kk (ay l m);have ax:∀m,aL.loc m∉c2 (S d.toList):=kf ag.obj;have hle:=H.le;refine bH.mk mixed oy ace aiU Ψ ag.obj fun aT cI=>?_;unfold Qn;simp[eY,hu,ax,cV,ay];rw[H.ssc];refine H.swapA0 aN Ω a pivot Ω Ω fun o=>?_;obtain⟨d1,fk⟩:∃d1,d1=Sort.swp d a pivot:=⟨_,rfl⟩;have s1:d1.size=n:=by rw[fk,gV,aN]
 rw[<-fk];simp only[<-fk]at bG;have ao:((a:Int)+1)=(a+1:Nat):=Ω
 have aF:((b:Int)-1)=(b-1:Nat):=Ω
 simp;(with_reducible repeat' first|refine aj ?_|simp);rw[ao,aF];refine H.loopA av [1,4,11] (fun(i:Nat)=>[(10,.int .i64 i)]) (fun _=>d1) (fun i=>b+1-i) (fun i=>a+1<=i/\i<=b/\Sort.scanUp (fun x=>lt x d1[a]!) d1 (b-1) i=Sort.scanUp (fun x=>lt x d1[a]!) d1 (b-1) (a+1)) (a+1) s1 ⟨Ω,Ω,rfl⟩ (by simp[Pv.look]) aK aK d6 ?_;rintro i ⟨i1,i2,i3⟩;simp[Pv.look,H.slc];((with_reducible repeat' first|refine aj ?_|simp[Pv.look,H.slc]|((first|apply bJ|apply bM|apply bL)<;>intro h<;>try simp at h))<;>(try exact cc));refine H.lessA s1 i a Ω Ω fun o=>?_;cases ae:lt d1[i]! d1[a]!;rotate_left
 ·have pD:((i:Int)+1)=(i+1:Nat):=Ω
  simp;(with_reducible repeat' first|refine aj ?_|simp);rw[pD];refine bQ.whl (i+1) Ω ⟨Ω,Ω,by rw[<-i3];exact(Nq (p:=fun x=>lt x d1[a]!) Ω ae).symm⟩ (H.weakC av (by simpa using s1) d6)
 rotate_left
 ·have i4:Sort.scanUp (fun x=>lt x d1[a]!) d1 (b-1) i=i:=Bx (by simp[ae]);rw[i4]at i3;rw[<-i3]at bG;simp;refine H.loopA av [1,4,10] (fun(j:Nat)=>[(11,.int .i64 j)]) (fun _=>d1) (fun j=>j) (fun j=>i<=j+1/\j<=b-1/\Sort.scanDown (fun x=> !lt x d1[a]!) d1 i j=Sort.scanDown (fun x=> !lt x d1[a]!) d1 i (b-1)) (b-1) s1 ⟨Ω,Ω,rfl⟩ (by simp[Pv.look]) aK aK d6 ?_;rintro j ⟨hC,wM,hn⟩;simp[Pv.look,H.slc];((with_reducible repeat' first|refine aj ?_|simp[Pv.look,H.slc,H.ssc]|((first|apply bJ|apply bM|apply bL)<;>intro h<;>try simp at h))<;>(try exact cc))
  ·refine H.lessA s1 j a Ω Ω fun o=>?_;cases aH:lt d1[j]! d1[a]!
   ·obtain⟨j,rfl⟩:∃dD,j=dD+1:=⟨j-1,Ω⟩;have oO:(((j+1:Nat):Int)-1)=(j:Nat):=Ω
    simp;(with_reducible repeat' first|refine aj ?_|simp);try rw[oO]
    refine bQ.whl j Ω ⟨Ω,Ω,by rw[<-hn];exact(Np (p:=fun x=> !lt x d1[a]!) Ω (by simp[aH])).symm⟩ (H.weakC av (by simpa using s1) d6)
   ·have yA:Sort.scanDown (fun x=> !lt x d1[a]!) d1 i j=j:=vG (by simp[aH]);have cK:i≠j:=fun e=>by subst e;rw[ae]at aH;cases aH
    rw[yA]at hn;rw[<-hn,if_neg Ω]at bG;simp;((with_reducible repeat' first|refine aj ?_|simp[Pv.look,H.slc,H.ssc]|((first|apply bJ|apply bM|apply bL)<;>intro h<;>try simp at h))<;>(try exact cc));refine H.swapA s1 Ω i j Ω Ω fun o=>?_;obtain⟨d2,eQ⟩:∃d2,d2=Sort.swp d1 i j:=⟨_,rfl⟩;have s2:d2.size=n:=by rw[eQ,gV,s1]
    rw[<-eQ];rw[<-eQ]at bG;have bA:((i:Int)+1)=(i+1:Nat):=Ω
    have dr:((j:Int)-1)=(j-1:Nat):=Ω
    simp;(with_reducible repeat' first|refine aj ?_|simp);rw[bA,dr];refine H.loopA av [1,4] (fun(x:(Nat×Nat)×Array α)=>[(10,.int .i64 x.1.1),(11,.int .i64 x.1.2)]) (·.2) (fun x=>x.1.2+1-x.1.1) (fun x=>x.2.size=n/\(a+1<=x.1.1/\x.1.1<=x.1.2+1/\x.1.2<=b-1)/\Sort.partLoop lt a x.1.1 x.1.2 x.2=Sort.partLoop lt a (i+1) (j-1) d2) ((i+1,j-1),d2) s2 ⟨s2,⟨by simp;omega,by simp;omega,by simp;omega⟩,rfl⟩ (by simp[Pv.look]) aK aK d6 ?_;rintro⟨⟨wL,dD⟩,cq⟩ ⟨aU,⟨bp,b1,fT⟩,df⟩;simp only at aU bp b1 fT df;rw[Sort.partLoop]at df;generalize jS:Sort.partLoop lt a (i+1) (j-1) d2=G at df bG;simp;refine H.loopA av [1,4,11] (fun(x:Nat)=>[(10,.int .i64 x)]) (fun _=>cq) (fun x=>b+1-x) (fun x=>wL<=x/\x<=dD+1/\Sort.scanUp (fun x=>lt x cq[a]!) cq dD x=Sort.scanUp (fun x=>lt x cq[a]!) cq dD wL) wL aU ⟨Ω,Ω,rfl⟩ (by simp[Pv.look]) aK aK d6 ?_;rintro p ⟨c0,du,jd⟩;simp[Pv.look,H.slc];((with_reducible repeat' first|refine aj ?_|simp[Pv.look,H.slc]|((first|apply bJ|apply bM|apply bL)<;>intro h<;>try simp at h))<;>(try exact cc))
    ·refine H.lessA aU p a Ω Ω fun o=>?_;cases iu:lt cq[p]! cq[a]!;rotate_left
     ·have pD:((p:Int)+1)=(p+1:Nat):=Ω
      simp;(with_reducible repeat' first|refine aj ?_|simp);rw[pD];refine bQ.whl (p+1) Ω ⟨Ω,Ω,by rw[<-jd];exact(Nq (p:=fun x=>lt x cq[a]!) Ω iu).symm⟩ (H.weakC av (by simpa using aU) d6)
     ·have vr:Sort.scanUp (fun x=>lt x cq[a]!) cq dD p=p:=Bx (by simp[iu]);rw[vr]at jd;simp only[<-jd]at df;simp;refine H.loopA av [1,4,10] (fun(x:Nat)=>[(11,.int .i64 x)]) (fun _=>cq) (fun x=>x) (fun x=>p<=x+1/\x<=dD/\Sort.scanDown (fun x=> !lt x cq[a]!) cq p x=Sort.scanDown (fun x=> !lt x cq[a]!) cq p dD) dD aU ⟨Ω,Ω,rfl⟩ (by simp[Pv.look]) aK aK d6 ?_;rintro q ⟨a6,bD,bY⟩;simp[Pv.look,H.slc];((with_reducible repeat' first|refine aj ?_|simp[Pv.look,H.slc,H.ssc]|((first|apply bJ|apply bM|apply bL)<;>intro h<;>try simp at h))<;>(try exact cc))
      ·refine H.lessA aU q a Ω Ω fun o=>?_;cases sk:lt cq[q]! cq[a]!
       ·obtain⟨q,rfl⟩:∃dD,q=dD+1:=⟨q-1,Ω⟩;have oO:(((q+1:Nat):Int)-1)=(q:Nat):=Ω
        simp;(with_reducible repeat' first|refine aj ?_|simp);try rw[oO]
        refine bQ.whl q Ω ⟨Ω,Ω,by rw[<-bY];exact(Np (p:=fun x=> !lt x cq[a]!) Ω (by simp[sk])).symm⟩ (H.weakC av (by simpa using aU) d6)
       ·have c5:Sort.scanDown (fun x=> !lt x cq[a]!) cq p q=q:=vG (by simp[sk]);have cK:p≠q:=fun e=>by subst e;rw[iu]at sk;cases sk
        rw[c5]at bY;simp only[<-bY]at df;rw[if_neg Ω,dif_pos Ω]at df;simp;((with_reducible repeat' first|refine aj ?_|simp[Pv.look,H.slc,H.ssc]|((first|apply bJ|apply bM|apply bL)<;>intro h<;>try simp at h))<;>(try exact cc));refine H.swapA aU Ω p q Ω Ω fun o=>?_;have hX:((p:Int)+1)=(p+1:Nat):=Ω
        have hY:((q:Int)-1)=(q-1:Nat):=Ω
        simp;(with_reducible repeat' first|((first|apply bJ|apply bM|apply bL)<;>intro h<;>try simp at h)|refine aj ?_|simp);rw[hX,hY];refine bQ.whl ((p+1,q-1),Sort.swp cq p q) d7 ⟨by rw[gV,aU],⟨by simp;omega,by simp;omega,by simp;omega⟩,df⟩ (H.weakC av (by simp[gV,aU]) d6)
      ·have c5:Sort.scanDown (fun x=> !lt x cq[a]!) cq p q=q:=vG Ω;rw[c5]at bY;simp only[<-bY]at df;rw[if_pos Ω]at df;rw[<-df]at bG;refine H.swapA aU Ω q a Ω Ω fun o=>?_;simp;refine H.retR av (d:=Sort.swp cq q a) (by rw[gV,aU]) (.inl rfl) ?_;simp[cT,D2,aW,aY,aV];rw[bG];exact⟨⟨rfl,rfl⟩,_,rfl,rfl,by rw[gV,aU]⟩
    ·have vr:Sort.scanUp (fun x=>lt x cq[a]!) cq dD p=p:=Bx Ω;rw[vr]at jd;simp only[<-jd]at df;have c5:Sort.scanDown (fun x=> !lt x cq[a]!) cq p dD=dD:=vG Ω;rw[c5,if_pos Ω]at df;rw[<-df]at bG;refine H.loopA av [1,4,10] (fun(x:Nat)=>[(11,.int .i64 x)]) (fun _=>cq) (fun x=>x) (fun x=>x=dD) dD aU rfl (by simp[Pv.look]) aK aK d6 ?_;rintro q rfl;simp[Pv.look,H.slc];((with_reducible repeat' first|refine aj ?_|simp[Pv.look,H.slc,H.ssc]|((first|apply bJ|apply bM|apply bL)<;>intro h<;>try simp at h))<;>(try exact cc));refine H.swapA aU Ω q a Ω Ω fun o=>?_;simp;refine H.retR av (d:=Sort.swp cq q a) (by rw[gV,aU]) (.inl rfl) ?_;simp[cT,D2,aW,aY,aV];rw[bG];exact⟨⟨rfl,rfl⟩,_,rfl,rfl,by rw[gV,aU]⟩
  ·have yA:Sort.scanDown (fun x=> !lt x d1[a]!) d1 i j=j:=vG Ω;rw[yA]at hn;rw[<-hn,if_pos Ω]at bG;refine H.swapA s1 Ω j a Ω Ω fun o=>?_;simp;refine H.retR av (d:=Sort.swp d1 j a) (by rw[gV,s1]) (.inl rfl) ?_;simp[cT,D2,aW,aY,aV];rw[bG];exact⟨⟨rfl,rfl⟩,_,rfl,rfl,by rw[gV,s1]⟩
 ·have i4:Sort.scanUp (fun x=>lt x d1[a]!) d1 (b-1) i=i:=Bx Ω;rw[i4]at i3;have yA:Sort.scanDown (fun x=> !lt x d1[a]!) d1 i (b-1)=b-1:=vG Ω;rw[<-i3,yA,if_pos Ω]at bG;refine H.loopA av [1,4,10] (fun(j:Nat)=>[(11,.int .i64 j)]) (fun _=>d1) (fun j=>j) (fun j=>j=b-1) (b-1) s1 rfl (by simp[Pv.look]) aK aK d6 ?_;rintro j rfl;simp[Pv.look,H.slc];((with_reducible repeat' first|refine aj ?_|simp[Pv.look,H.slc,H.ssc]|((first|apply bJ|apply bM|apply bL)<;>intro h<;>try simp at h))<;>(try exact cc));refine H.swapA s1 Ω (b-1) a Ω Ω fun o=>?_;simp;refine H.retR av (d:=Sort.swp d1 (b-1) a) (by rw[gV,s1]) (.inl rfl) ?_;simp[cT,D2,aW,aY,aV];rw[bG];exact⟨⟨rfl,rfl⟩,_,rfl,rfl,by rw[gV,s1]⟩
end
section
open Go Go.Pv
variable {α:Type} [Inhabited α] {S:List α->cS} {n g b9:Nat} {lc b2:List ai} {lt:α->α->Bool}
theorem adR(H:e7 S n g b9 lc b2 lt)(d:Array α)(aN:d.size=n)(a b pivot:Nat)(r4:a<=pivot)(afD:pivot<b)(nA:a+1<b)(ab:b<=n):
  bH az 201 [eY g b9 lc b2,.int .i64 a,.int .i64 b,.int .i64 pivot] (S d.toList) fun r ah=>r= .int .i64 (Sort.partitionEqual lt d a b pivot).1/\∃cl,ah=S cl.toList/\cl=(Sort.partitionEqual lt d a b pivot).2/\cl.size=n:=by
 obtain⟨R,bG⟩:∃R,R=Sort.partitionEqual lt d a b pivot:=⟨_,rfl⟩;rw[<-bG];unfold Sort.partitionEqual at bG;have ag:=H.ok d.toList;have av:d.toList.length=n:=by simpa using aN
 have ay:∀l m,Pv.look (.loc m) (S l).b=none:=fun l=>(H.ok l).obj.1;have hu:∀l m cs,cA (.loc m) cs (S l).b=(S l).b++[(.loc m,cs)]:=fun l m cs=>kk (ay l m);have ax:∀m,aL.loc m∉c2 (S d.toList):=kf ag.obj;have hle:=H.le;refine bH.mk mixed oy acd aiT Ψ ag.obj fun aT cI=>?_;unfold Qm;simp[eY,hu,ax,cV,ay];rw[H.ssc];refine H.swapA0 aN Ω a pivot Ω Ω fun o=>?_;obtain⟨d1,fk⟩:∃d1,d1=Sort.swp d a pivot:=⟨_,rfl⟩;have s1:d1.size=n:=by rw[fk,gV,aN]
 rw[<-fk];rw[<-fk]at bG;have ao:((a:Int)+1)=(a+1:Nat):=Ω
 have aF:((b:Int)-1)=(b-1:Nat):=Ω
 simp;(with_reducible repeat' first|refine aj ?_|simp);rw[ao,aF];refine H.loopA av [1,4] (fun(x:(Nat×Nat)×Array α)=>[(9,.int .i64 x.1.1),(10,.int .i64 x.1.2)]) (·.2) (fun x=>x.1.2+1-x.1.1) (fun x=>x.2.size=n/\(a+1<=x.1.1/\x.1.1<=x.1.2+1/\x.1.2<=b-1)/\Sort.partEqLoop lt a x.1.1 x.1.2 x.2=R) ((a+1,b-1),d1) s1 ⟨s1,⟨Ψ,by simp;omega,Ψ⟩,bG.symm⟩ (by simp[Pv.look]) aK aK d6 ?_;rintro⟨⟨wL,dD⟩,cq⟩ ⟨aU,⟨bp,b1,fT⟩,df⟩;simp only at aU bp b1 fT df;rw[Sort.partEqLoop]at df;simp;refine H.loopA av [1,4,10] (fun(x:Nat)=>[(9,.int .i64 x)]) (fun _=>cq) (fun x=>b+1-x) (fun x=>wL<=x/\x<=dD+1/\Sort.scanUp (fun x=> !lt cq[a]! x) cq dD x=Sort.scanUp (fun x=> !lt cq[a]! x) cq dD wL) wL aU ⟨Ω,Ω,rfl⟩ (by simp[Pv.look]) aK aK d6 ?_;rintro p ⟨c0,du,jd⟩;simp[Pv.look,H.slc];((with_reducible repeat' first|refine aj ?_|simp[Pv.look,H.slc]|((first|apply bJ|apply bM|apply bL)<;>intro h<;>try simp at h))<;>(try exact cc))
 ·refine H.lessA aU a p Ω Ω fun o=>?_;cases iu:lt cq[a]! cq[p]!
  ·have pD:((p:Int)+1)=(p+1:Nat):=Ω
   simp;(with_reducible repeat' first|refine aj ?_|simp);rw[pD];refine bQ.whl (p+1) Ω ⟨Ω,Ω,by rw[<-jd];exact(Nq (p:=fun x=> !lt cq[a]! x) Ω (by simp[iu])).symm⟩ (H.weakC av (by simpa using aU) d6)
  ·have vr:Sort.scanUp (fun x=> !lt cq[a]! x) cq dD p=p:=Bx (by simp[iu]);rw[vr]at jd;simp only[<-jd]at df;simp;refine H.loopA av [1,4,9] (fun(x:Nat)=>[(10,.int .i64 x)]) (fun _=>cq) (fun x=>x) (fun x=>p<=x+1/\x<=dD/\Sort.scanDown (fun x=>lt cq[a]! x) cq p x=Sort.scanDown (fun x=>lt cq[a]! x) cq p dD) dD aU ⟨Ω,Ω,rfl⟩ (by simp[Pv.look]) aK aK d6 ?_;rintro q ⟨a6,bD,bY⟩;simp[Pv.look,H.slc];((with_reducible repeat' first|refine aj ?_|simp[Pv.look,H.slc,H.ssc]|((first|apply bJ|apply bM|apply bL)<;>intro h<;>try simp at h))<;>(try exact cc))
   ·refine H.lessA aU a q Ω Ω fun o=>?_;cases sk:lt cq[a]! cq[q]!;rotate_left
    ·obtain⟨q,rfl⟩:∃dD,q=dD+1:=⟨q-1,Ω⟩;have oO:(((q+1:Nat):Int)-1)=(q:Nat):=Ω
     simp;(with_reducible repeat' first|refine aj ?_|simp);try rw[oO]
     refine bQ.whl q Ω ⟨Ω,Ω,by rw[<-bY];exact(Np (p:=fun x=>lt cq[a]! x) Ω (by simp[sk])).symm⟩ (H.weakC av (by simpa using aU) d6)
    ·have c5:Sort.scanDown (fun x=>lt cq[a]! x) cq p q=q:=vG (by simp[sk]);have cK:p≠q:=fun e=>by subst e;rw[iu]at sk;cases sk
     rw[c5]at bY;simp only[<-bY]at df;rw[if_neg Ω,dif_pos Ω]at df;simp;((with_reducible repeat' first|refine aj ?_|simp[Pv.look,H.slc,H.ssc]|((first|apply bJ|apply bM|apply bL)<;>intro h<;>try simp at h))<;>(try exact cc));refine H.swapA aU Ω p q Ω Ω fun o=>?_;have hX:((p:Int)+1)=(p+1:Nat):=Ω
     have hY:((q:Int)-1)=(q-1:Nat):=Ω
     simp;(with_reducible repeat' first|((first|apply bJ|apply bM|apply bL)<;>intro h<;>try simp at h)|refine aj ?_|simp);rw[hX,hY];refine bQ.whl ((p+1,q-1),Sort.swp cq p q) d7 ⟨by rw[gV,aU],⟨by simp;omega,by simp;omega,by simp;omega⟩,df⟩ (H.weakC av (by simp[gV,aU]) d6)
   ·have c5:Sort.scanDown (fun x=>lt cq[a]! x) cq p q=q:=vG Ω;rw[c5]at bY;simp only[<-bY]at df;rw[if_pos Ω]at df;refine H.retR av (d:=cq) aU (.inl rfl) ?_;simp[cT,MM,aW,aY,aV];rw[<-df];exact⟨rfl,_,rfl,rfl,aU⟩
 ·have vr:Sort.scanUp (fun x=> !lt cq[a]! x) cq dD p=p:=Bx Ω;rw[vr]at jd;simp only[<-jd]at df;have c5:Sort.scanDown (fun x=>lt cq[a]! x) cq p dD=dD:=vG Ω;rw[c5,if_pos Ω]at df;refine H.loopA av [1,4,9] (fun(x:Nat)=>[(10,.int .i64 x)]) (fun _=>cq) (fun x=>x) (fun x=>x=dD) dD aU rfl (by simp[Pv.look]) aK aK d6 ?_;rintro q rfl;simp[Pv.look,H.slc];((with_reducible repeat' first|refine aj ?_|simp[Pv.look,H.slc,H.ssc]|((first|apply bJ|apply bM|apply bL)<;>intro h<;>try simp at h))<;>(try exact cc));refine H.retR av (d:=cq) aU (.inl rfl) ?_;simp[cT,MM,aW,aY,aV];rw[<-df];exact⟨rfl,_,rfl,rfl,aU⟩
end
section
open Go Go.Pv
variable {α:Type} [Inhabited α] {S:List α->cS} {n g b9:Nat} {lc b2:List ai} {lt:α->α->Bool}
theorem adP(H:e7 S n g b9 lc b2 lt)(d:Array α)(aN:d.size=n)(a b:Nat)(nA:a<b)(ab:b<=n)(U:2<=n):
  bH az 200 [eY g b9 lc b2,.int .i64 a,.int .i64 b] (S d.toList) fun r ah=>r= .bool (Sort.partialInsertionSort lt d a b).2/\∃cl,ah=S cl.toList/\cl=(Sort.partialInsertionSort lt d a b).1/\cl.size=n:=by
 obtain⟨R,bG⟩:∃R,R=Sort.partialInsertionSort lt d a b:=⟨_,rfl⟩;rw[<-bG];unfold Sort.partialInsertionSort at bG;have ag:=H.ok d.toList;have av:d.toList.length=n:=by simpa using aN
 have ay:∀l m,Pv.look (.loc m) (S l).b=none:=fun l=>(H.ok l).obj.1;have hu:∀l m cs,cA (.loc m) cs (S l).b=(S l).b++[(.loc m,cs)]:=fun l m cs=>kk (ay l m);have ax:∀m,aL.loc m∉c2 (S d.toList):=kf ag.obj;have hle:=H.le;refine bH.mk mixed oy acb aiS Ψ ag.obj fun aT cI=>?_;unfold Ql;simp[eY,hu,ax,cV,ay];have ao:((a:Int)+1)=(a+1:Nat):=Ω
 (with_reducible repeat' first|refine aj ?_|simp);rw[ao];refine H.loopA av [1,2,3] (fun(x:(Nat×Nat)×Array α)=>[(7,.int .i64 x.1.1),(8,.int .i64 x.1.2)]) (·.2) (fun x=>5-x.1.2) (fun x=>x.2.size=n/\(a+1<=x.1.1/\x.1.1<=b/\x.1.2<=5)/\Sort.partialIns lt a b (5-x.1.2) x.1.1 x.2=R) ((a+1,0),d) aN ⟨aN,⟨Ψ,by simp;omega,Ψ⟩,bG.symm⟩ (by simp[cV,ay]) aK aK d6 ?_;rintro⟨⟨i0,s⟩,cq⟩ ⟨aU,⟨bp,b1,fT⟩,df⟩;simp only at aU bp b1 fT df;simp;((with_reducible repeat' first|refine aj ?_|simp|((first|apply bJ|apply bM|apply bL)<;>intro h<;>try simp at h))<;>(try exact cc))
 ·obtain⟨m,hm⟩:∃m,5-s=m+1:=⟨5-s-1,Ω⟩;rw[hm,Sort.partialIns]at df;refine H.loopA av [1,2,3,8] (fun(x:Nat)=>[(7,.int .i64 x)]) (fun _=>cq) (fun x=>b-x) (fun x=>i0<=x/\x<=b/\Sort.scanSorted lt cq b x=Sort.scanSorted lt cq b i0) i0 aU ⟨Ω,Ω,rfl⟩ (by simp[Pv.look]) aK aK d6 ?_;rintro i ⟨i1,i2,i3⟩;rw[Sort.scanSorted]at i3;have pD:((i:Int)+1)=(i+1:Nat):=Ω
  have FA:((i:Int)-1)=(i-1:Nat):=Ω
  have es:((s:Int)+1)=(s+1:Nat):=Ω
  have em:5-(s+1)=m:=Ω
  simp[Pv.look,H.slc];((with_reducible repeat' first|refine aj ?_|simp[Pv.look,H.slc]|((first|apply bJ|apply bM|apply bL)<;>intro h<;>try simp at h))<;>(try exact cc))
  ·rw[FA];refine H.lessA aU i (i-1) Ω Ω fun o=>?_;cases ae:lt cq[i]! cq[i-1]!
   ·rw[if_pos (by simp[ae];omega)]at i3;simp;(with_reducible repeat' first|refine aj ?_|simp);rw[pD];refine bQ.whl (i+1) Ω ⟨Ω,Ω,i3⟩ (H.weakC av (by simpa using aU) d6)
   ·rw[if_neg (by simp[ae])]at i3;simp only[<-i3]at df;rw[if_neg Ω]at df;have Ai:(i:Int)≠b:=Ω
    have aeZ:((i:Int)==b)=false:=by simp;omega
    simp;((with_reducible repeat' first|refine aj ?_|simp[Ai,aeZ,Pv.look,H.slc,H.ssc]|((first|apply bJ|apply bM|apply bL)<;>intro h<;>try simp at h))<;>(try exact cc))
    ·rw[if_pos Ω]at df;refine H.retR av (d:=cq) aU (.inl rfl) ?_;simp[cT,Hy,aW,aY,aV];rw[<-df];exact⟨rfl,_,rfl,rfl,aU⟩
    ·rw[if_neg Ω]at df;rw[FA];refine H.swapA aU U i (i-1) Ω Ω fun o=>?_;obtain⟨d2,eQ⟩:∃d2,d2=Sort.swp cq i (i-1):=⟨_,rfl⟩;have s2:d2.size=n:=by rw[eQ,gV,aU]
     rw[<-eQ];simp only[<-eQ]at df;by_cases lS:2<=b-i
     ·rw[if_pos lS]at df;have tJ:(2:Int)<=(b:Int)-i:=Ω
      by_cases CM:2<=i-a
      ·rw[if_pos CM]at df;have yc:(2:Int)<=(i:Int)-a:=Ω
       simp;(with_reducible repeat' first|refine aj ?_|simp[yc]);rw[FA];refine H.loopA av [1,2,3,7,8] (fun(x:Nat×Array α)=>[(9,.int .i64 x.1)]) (·.2) (fun x=>x.1) (fun x=>x.2.size=n/\x.1<=i-1/\Sort.shiftDown lt x.1 x.2=Sort.shiftDown lt (i-1) d2) (i-1,d2) s2 ⟨s2,Ψ,rfl⟩ (by simp[Pv.look]) aK aK d6 ?_;rintro⟨j,fO⟩ ⟨hC,wM,hn⟩;simp only at hC wM hn;simp[Pv.look,H.slc,H.ssc];((with_reducible repeat' first|refine aj ?_|simp[Pv.look,H.slc,H.ssc,tJ]|((first|apply bJ|apply bM|apply bL)<;>intro h<;>try simp at h))<;>(try exact cc))
       ·obtain⟨j,rfl⟩:∃dD,j=dD+1:=⟨j-1,Ω⟩;have oO:(((j+1:Nat):Int)-1)=(j:Nat):=Ω
        rw[Sort.shiftDown]at hn;try rw[oO]
        refine H.lessA hC (j+1) j Ω Ω fun o=>?_;cases aH:lt fO[j+1]! fO[j]!
        ·rw[if_pos (by simp[aH])]at hn;rw[<-hn]at df;try simp
         try(with_reducible repeat' first|refine aj ?_|simp[Pv.look,H.slc,H.ssc,tJ])
         rw[pD];refine H.loopA av [1,2,3,7,8] (fun(x:Nat×Array α)=>[(10,.int .i64 x.1)]) (·.2) (fun x=>b-x.1) (fun x=>x.2.size=n/\(i+1<=x.1/\x.1<=b)/\Sort.shiftUp lt b x.1 x.2=Sort.shiftUp lt b (i+1) fO) (i+1,fO) hC ⟨hC,⟨Ψ,by simp;omega⟩,rfl⟩ (by simp[Pv.look]) aK aK d6 ?_;rintro⟨q,nr⟩ ⟨a6,⟨bD,yX⟩,bY⟩;simp only at a6 bD yX bY;rw[Sort.shiftUp]at bY;have eq:((q:Int)-1)=(q-1:Nat):=Ω
         have Cj:((q:Int)+1)=(q+1:Nat):=Ω
         simp[Pv.look,H.slc,H.ssc];((with_reducible repeat' first|refine aj ?_|simp[Pv.look,H.slc,H.ssc]|((first|apply bJ|apply bM|apply bL)<;>intro h<;>try simp at h))<;>(try exact cc))
         ·rw[if_pos Ω]at bY;rw[eq];refine H.lessA a6 q (q-1) Ω Ω fun o=>?_;cases bf:lt nr[q]! nr[q-1]!
          ·rw[if_pos (by simp[bf])]at bY;rw[<-bY]at df;simp;(with_reducible repeat' first|refine aj ?_|simp);rw[es];refine bQ.whl ((i,s+1),nr) d7 ⟨a6,⟨by simp;omega,by simp;omega,by simp;omega⟩,by simp only[em];exact df⟩ (H.weakC av (by simpa using a6) d6)
          ·rw[if_neg (by simp[bf])]at bY;simp;(with_reducible repeat' first|refine aj ?_|simp[Pv.look,H.slc,H.ssc]);rw[eq];refine H.swapA a6 Ω q (q-1) Ω Ω fun o=>?_;simp;((with_reducible repeat' first|refine aj ?_|simp|((first|apply bJ|apply bM|apply bL)<;>intro h<;>try simp at h))<;>(try exact cc));rw[Cj];refine bQ.whl (q+1,Sort.swp nr q (q-1)) d7 ⟨by rw[gV,a6],⟨by simp;omega,by simp;omega⟩,bY⟩ (H.weakC av (by simp[gV,a6]) d6)
         ·rw[if_neg Ω]at bY;rw[<-bY]at df;rw[es];refine bQ.whl ((i,s+1),nr) d7 ⟨a6,⟨by simp;omega,by simp;omega,by simp;omega⟩,by simp only[em];exact df⟩ (H.weakC av (by simpa using a6) d6)
        ·rw[if_neg (by simp[aH])]at hn;simp;(with_reducible repeat' first|refine aj ?_|simp[Pv.look,H.slc,H.ssc]);try rw[oO]
         refine H.swapA hC U (j+1) j Ω Ω fun o=>?_;simp;((with_reducible repeat' first|refine aj ?_|simp|((first|apply bJ|apply bM|apply bL)<;>intro h<;>try simp at h))<;>(try exact cc));try rw[oO]
         refine bQ.whl (j,Sort.swp fO (j+1) j) Ψ ⟨by rw[gV,hC],by simp;omega,hn⟩ (H.weakC av (by simp[gV,hC]) d6)
       ·obtain rfl:j=0:=Ω
        rw[Sort.shiftDown]at hn;rw[<-hn]at df;try simp
        try(with_reducible repeat' first|refine aj ?_|simp[Pv.look,H.slc,H.ssc,tJ])
        rw[pD];refine H.loopA av [1,2,3,7,8] (fun(x:Nat×Array α)=>[(10,.int .i64 x.1)]) (·.2) (fun x=>b-x.1) (fun x=>x.2.size=n/\(i+1<=x.1/\x.1<=b)/\Sort.shiftUp lt b x.1 x.2=Sort.shiftUp lt b (i+1) fO) (i+1,fO) hC ⟨hC,⟨Ψ,by simp;omega⟩,rfl⟩ (by simp[Pv.look]) aK aK d6 ?_;rintro⟨q,nr⟩ ⟨a6,⟨bD,yX⟩,bY⟩;simp only at a6 bD yX bY;rw[Sort.shiftUp]at bY;have eq:((q:Int)-1)=(q-1:Nat):=Ω
        have Cj:((q:Int)+1)=(q+1:Nat):=Ω
        simp[Pv.look,H.slc,H.ssc];((with_reducible repeat' first|refine aj ?_|simp[Pv.look,H.slc,H.ssc]|((first|apply bJ|apply bM|apply bL)<;>intro h<;>try simp at h))<;>(try exact cc))
        ·rw[if_pos Ω]at bY;rw[eq];refine H.lessA a6 q (q-1) Ω Ω fun o=>?_;cases bf:lt nr[q]! nr[q-1]!
         ·rw[if_pos (by simp[bf])]at bY;rw[<-bY]at df;simp;(with_reducible repeat' first|refine aj ?_|simp);rw[es];refine bQ.whl ((i,s+1),nr) d7 ⟨a6,⟨by simp;omega,by simp;omega,by simp;omega⟩,by simp only[em];exact df⟩ (H.weakC av (by simpa using a6) d6)
         ·rw[if_neg (by simp[bf])]at bY;simp;(with_reducible repeat' first|refine aj ?_|simp[Pv.look,H.slc,H.ssc]);rw[eq];refine H.swapA a6 Ω q (q-1) Ω Ω fun o=>?_;simp;((with_reducible repeat' first|refine aj ?_|simp|((first|apply bJ|apply bM|apply bL)<;>intro h<;>try simp at h))<;>(try exact cc));rw[Cj];refine bQ.whl (q+1,Sort.swp nr q (q-1)) d7 ⟨by rw[gV,a6],⟨by simp;omega,by simp;omega⟩,bY⟩ (H.weakC av (by simp[gV,a6]) d6)
        ·rw[if_neg Ω]at bY;rw[<-bY]at df;rw[es];refine bQ.whl ((i,s+1),nr) d7 ⟨a6,⟨by simp;omega,by simp;omega,by simp;omega⟩,by simp only[em];exact df⟩ (H.weakC av (by simpa using a6) d6)
      ·rw[if_neg CM]at df;have yc:¬(2:Int)<=(i:Int)-a:=Ω
       simp;(with_reducible repeat' first|refine aj ?_|simp[yc,tJ]);try simp
       try(with_reducible repeat' first|refine aj ?_|simp[Pv.look,H.slc,H.ssc,tJ])
       rw[pD];refine H.loopA av [1,2,3,7,8] (fun(x:Nat×Array α)=>[(10,.int .i64 x.1)]) (·.2) (fun x=>b-x.1) (fun x=>x.2.size=n/\(i+1<=x.1/\x.1<=b)/\Sort.shiftUp lt b x.1 x.2=Sort.shiftUp lt b (i+1) d2) (i+1,d2) s2 ⟨s2,⟨Ψ,by simp;omega⟩,rfl⟩ (by simp[Pv.look]) aK aK d6 ?_;rintro⟨q,nr⟩ ⟨a6,⟨bD,yX⟩,bY⟩;simp only at a6 bD yX bY;rw[Sort.shiftUp]at bY;have eq:((q:Int)-1)=(q-1:Nat):=Ω
       have Cj:((q:Int)+1)=(q+1:Nat):=Ω
       simp[Pv.look,H.slc,H.ssc];((with_reducible repeat' first|refine aj ?_|simp[Pv.look,H.slc,H.ssc]|((first|apply bJ|apply bM|apply bL)<;>intro h<;>try simp at h))<;>(try exact cc))
       ·rw[if_pos Ω]at bY;rw[eq];refine H.lessA a6 q (q-1) Ω Ω fun o=>?_;cases bf:lt nr[q]! nr[q-1]!
        ·rw[if_pos (by simp[bf])]at bY;rw[<-bY]at df;simp;(with_reducible repeat' first|refine aj ?_|simp);rw[es];refine bQ.whl ((i,s+1),nr) d7 ⟨a6,⟨by simp;omega,by simp;omega,by simp;omega⟩,by simp only[em];exact df⟩ (H.weakC av (by simpa using a6) d6)
        ·rw[if_neg (by simp[bf])]at bY;simp;(with_reducible repeat' first|refine aj ?_|simp[Pv.look,H.slc,H.ssc]);rw[eq];refine H.swapA a6 Ω q (q-1) Ω Ω fun o=>?_;simp;((with_reducible repeat' first|refine aj ?_|simp|((first|apply bJ|apply bM|apply bL)<;>intro h<;>try simp at h))<;>(try exact cc));rw[Cj];refine bQ.whl (q+1,Sort.swp nr q (q-1)) d7 ⟨by rw[gV,a6],⟨by simp;omega,by simp;omega⟩,bY⟩ (H.weakC av (by simp[gV,a6]) d6)
       ·rw[if_neg Ω]at bY;rw[<-bY]at df;rw[es];refine bQ.whl ((i,s+1),nr) d7 ⟨a6,⟨by simp;omega,by simp;omega,by simp;omega⟩,by simp only[em];exact df⟩ (H.weakC av (by simpa using a6) d6)
     ·rw[if_neg lS]at df;have tJ:¬(2:Int)<=(b:Int)-i:=Ω
      by_cases CM:2<=i-a
      ·rw[if_pos CM]at df;have yc:(2:Int)<=(i:Int)-a:=Ω
       simp;(with_reducible repeat' first|refine aj ?_|simp[yc]);rw[FA];refine H.loopA av [1,2,3,7,8] (fun(x:Nat×Array α)=>[(9,.int .i64 x.1)]) (·.2) (fun x=>x.1) (fun x=>x.2.size=n/\x.1<=i-1/\Sort.shiftDown lt x.1 x.2=Sort.shiftDown lt (i-1) d2) (i-1,d2) s2 ⟨s2,Ψ,rfl⟩ (by simp[Pv.look]) aK aK d6 ?_;rintro⟨j,fO⟩ ⟨hC,wM,hn⟩;simp only at hC wM hn;simp[Pv.look,H.slc,H.ssc];((with_reducible repeat' first|refine aj ?_|simp[Pv.look,H.slc,H.ssc,tJ]|((first|apply bJ|apply bM|apply bL)<;>intro h<;>try simp at h))<;>(try exact cc))
       ·obtain⟨j,rfl⟩:∃dD,j=dD+1:=⟨j-1,Ω⟩;have oO:(((j+1:Nat):Int)-1)=(j:Nat):=Ω
        rw[Sort.shiftDown]at hn;try rw[oO]
        refine H.lessA hC (j+1) j Ω Ω fun o=>?_;cases aH:lt fO[j+1]! fO[j]!
        ·rw[if_pos (by simp[aH])]at hn;rw[<-hn]at df;try simp
         try(with_reducible repeat' first|refine aj ?_|simp[Pv.look,H.slc,H.ssc,tJ])
         rw[es];refine bQ.whl ((i,s+1),fO) d7 ⟨hC,⟨by simp;omega,by simp;omega,by simp;omega⟩,by simp only[em];exact df⟩ (H.weakC av (by simpa using hC) d6)
        ·rw[if_neg (by simp[aH])]at hn;simp;(with_reducible repeat' first|refine aj ?_|simp[Pv.look,H.slc,H.ssc]);try rw[oO]
         refine H.swapA hC U (j+1) j Ω Ω fun o=>?_;simp;((with_reducible repeat' first|refine aj ?_|simp|((first|apply bJ|apply bM|apply bL)<;>intro h<;>try simp at h))<;>(try exact cc));try rw[oO]
         refine bQ.whl (j,Sort.swp fO (j+1) j) Ψ ⟨by rw[gV,hC],by simp;omega,hn⟩ (H.weakC av (by simp[gV,hC]) d6)
       ·obtain rfl:j=0:=Ω
        rw[Sort.shiftDown]at hn;rw[<-hn]at df;try simp
        try(with_reducible repeat' first|refine aj ?_|simp[Pv.look,H.slc,H.ssc,tJ])
        rw[es];refine bQ.whl ((i,s+1),fO) d7 ⟨hC,⟨by simp;omega,by simp;omega,by simp;omega⟩,by simp only[em];exact df⟩ (H.weakC av (by simpa using hC) d6)
      ·rw[if_neg CM]at df;have yc:¬(2:Int)<=(i:Int)-a:=Ω
       simp;((with_reducible repeat' first|refine aj ?_|simp[yc,tJ]|((first|apply bJ|apply bM|apply bL)<;>intro h<;>try simp at h))<;>(try exact cc));done
  ·rw[if_neg d7]at i3;simp only[<-i3]at df;rw[if_pos Ω]at df;refine H.retR av (d:=cq) aU (.inl rfl) ?_;simp[cT,Hy,aW,aY,aV];rw[<-df];exact⟨rfl,_,rfl,rfl,aU⟩
 ·have:5-s=0:=Ω
  rw[this,Sort.partialIns]at df;refine H.retR av (d:=cq) aU (.inl rfl) ?_;simp[cT,Hy,aW,aY,aV];rw[<-df];exact⟨rfl,_,rfl,rfl,aU⟩
end
section
open Go Go.Pv
variable {α:Type} [Inhabited α] {S:List α->cS} {n g b9:Nat} {lc b2:List ai} {lt:α->α->Bool}
def fc(S:List α->cS)(d:Array α)(v:Nat):cS:=⟨(.obj 901,[.int .i64 v])::(S d.toList).b,(S d.toList).e⟩
def sx(S:List α->cS)(m:Nat):Prop:= ∀l,Pv.look (.obj m) (S l).b=none/\Pv.look (.obj m) (S l).e=none
theorem nY(H:e7 S n g b9 lc b2 lt)(d:Array α)(v:Nat):dR (fc S d v):=by
 have h:=H.ok d.toList;have gH:∀k,inObs (S d.toList) k->inObs (fc S d v) k:=fun k ad=>by
  rcases ad with ad|ad
  ·refine .inl ?_;simp only[fc,Pv.look];split
   ·rfl
   ·exact ad
  ·exact .inr ad
 refine⟨⟨fun m=>?_,h.obj.2⟩,fun k cs ad=>?_,fun k o ax xs ae=>j9 gH _ (h.ke k o ax xs ae)⟩
 ·simp[fc,Pv.look,h.obj.1 m]
 ·simp only[fc,Pv.look]at ad;split at ad
  ·cases ad;simp[aP,aG]
  ·exact j9 gH _ (h.kb k cs ad)
theorem s7(d:Array α)(v v':Nat):Same (fc S d v) (fc S d v'):=⟨fun k=>by simp only[fc,Pv.look];split<;>rfl,fun _=>rfl⟩
theorem Kg(H:e7 S n g b9 lc b2 lt)(ad:sx S 901)(d:Array α)(aN:d.size=n)(a b v:Nat)(bk:a<n)(ab:b<n)(aC:v<=1000):
  bH az 218 [eY g b9 lc b2,.int .i64 a,.int .i64 b,.ptr (.obj 901) 0] (fc S d v) fun r ah=>r= .tuple [.int .i64 (Sort.order2 lt d a b v).1,.int .i64 (Sort.order2 lt d a b v).2.1]/\ah=fc S d (Sort.order2 lt d a b v).2.2:=by
 have ag:=H.ok d.toList;have av:d.toList.length=n:=by simpa using aN
 have ay:∀l m,Pv.look (.loc m) (S l).b=none:=fun l=>(H.ok l).obj.1;have hu:∀l m cs,cA (.loc m) cs (S l).b=(S l).b++[(.loc m,cs)]:=fun l m cs=>kk (ay l m);have ax:∀m,aL.loc m∉c2 (S d.toList):=kf ag.obj;have gy:∀l,Pv.look (.obj 901) (S l).b=none:=fun l=>(ad l).1;have jC:∀l,Pv.look (.obj 901) (S l).e=none:=fun l=>(ad l).2;have hle:=H.le;have kL:=nY H d v;obtain⟨R,bG⟩:∃R,R=Sort.order2 lt d a b v:=⟨_,rfl⟩;rw[<-bG];unfold Sort.order2 at bG;refine bH.mk mixed oy aca aiR Ψ kL.obj fun aT cI=>?_;unfold Qk;have lN:aL.loc 0∉c2 (fc S d v):=kf kL.obj 0;generalize u5:c2 (fc S d v)=ob at lN⊢;unfold fc;simp[eY,hu,lN,cV,ay,Pv.look,cA];rw[H.slc];refine cW.ob (H.less d.toList av b a _ _ (zy Ω) (zy Ω)) (H.ok _) (fun k cs ae=>?_) (fun _ _ ae=>ae) (by simp[aG,aP,H.klc d.toList av]) ?_
 ·simp only[Pv.look];split
  ·rename_i e;subst e;rw[gy]at ae;cases ae
  ·rw[cV,ae]
 rintro r ah ⟨rfl,rfl⟩;refine⟨Same.refl _,?_⟩;have hw:cb (S d.toList).b ((aL.obj 901,[ai.int .i64 v])::((S d.toList).b++[(aL.loc 0,[ai.func g lc,ai.func b9 b2])]))=[(aL.obj 901,[ai.int .i64 v]),(aL.loc 0,[ai.func g lc,ai.func b9 b2])]:=by simp only[cb,gy];rw[iH,hh];simp[cb,ay]
 rw[hw,hh];have dG:∀(t:List (Nat×ai)) (o:List aL) (v':Nat) (D:List ai) (x y:Nat),Pv.get 8 t= .int .i64 x->Pv.get 9 t= .int .i64 y->R=(x,y,v')->
   cO ML (fc S d v) (fun r ah=>r= .tuple [.int .i64 R.1,.int .i64 R.2.1]/\ah=fc S d R.2.2) .ret ⟨t,(aL.obj 901,[.int .i64 v'])::(aL.loc 0,D)::(S d.toList).b,(S d.toList).e,1,o⟩:=by
  rintro t o v' D x y ae aH rfl;refine cO.at (fc S d v') (.inl rfl) (nY H d v') (s7 _ _ _) (fun k cs aq=>?_) (fun _ _ aq=>aq) ?_
  ·simp only[fc,Pv.look]at aq⊢;split at aq
   ·rename_i e;rw[if_pos e];exact aq
   ·rename_i e;rw[if_neg e];split
    ·rename_i aF;subst aF;rw[ay]at aq;cases aq
    ·exact aq
  ·simp[cT,ML,aW,aY,aV,ae,aH]
 cases ae:lt d[b]! d[a]! with
 |true=>
  rw[if_pos ae]at bG;simp[Pv.look,cA];(with_reducible repeat' first|refine aj ?_|simp[Pv.look,cA]);have ao:((v:Int)+1)=(v+1:Nat):=Ω
  rw[ao];exact dG _ _ (v+1) _ b a rfl rfl bG
 |false=>rw[if_neg (by simp[ae])]at bG;simp[Pv.look,cA];exact dG _ _ v _ a b rfl rfl bG
theorem Vw{s ah:cS}{f:Nat}{args:List ai}{r:ai}(aR:bH az f args s fun eM dE=>eM=r/\dE=ah)(ag:dR s)(fh:Same s ah)(ad:aP (inObs s) args){t:List (Nat×ai)}{D:List ai}{o:List aL}{d:Option Nat}{K:bm->Prop}
  (h:∀o,K ⟨eR d r t,(.loc 0,D)::ah.b,ah.e,1,o⟩):cW az f args ⟨t,s.b++[(.loc 0,D)],s.e,1,o⟩ d K:=by
 refine cW.ob aR ag (fun k cs ae=>by rw[cV,ae]) (fun _ _ ae=>ae) ad ?_;rintro r ah ⟨rfl,rfl⟩;refine⟨fh,?_⟩;have ao:cb s.b (s.b++[(.loc 0,D)])=[(.loc 0,D)]:=by rw[iH,hh];simp[cb,ag.obj.1 0]
 have aF:cb s.e s.e=[]:=hh _;simp only[ao,aF];exact h _
theorem DJ{s ah:cS}{f:Nat}{args:List ai}{r:ai}(aR:bH az f args s fun eM dE=>eM=r/\dE=ah)(ag:dR s)(fh:Same s ah)(ad:aP (inObs s) args){t:List (Nat×ai)}{D:List ai}{o:List aL}{d:Option Nat}{K:bm->Prop}
  (h:∀o,K ⟨eR d r t,(.loc 0,D)::ah.b,ah.e,1,o⟩):cW az f args ⟨t,(.loc 0,D)::s.b,s.e,1,o⟩ d K:=by
 refine cW.ob aR ag (fun k cs ae=>?_) (fun _ _ ae=>ae) ad ?_
 ·cases k with
  |loc m=>rw[ag.obj.1 m]at ae;cases ae
  |obj m=>simpa[Pv.look]using ae
 rintro r ah ⟨rfl,rfl⟩;refine⟨fh,?_⟩;have ao:cb s.b ((.loc 0,D)::s.b)=[(.loc 0,D)]:=by have:=iH s.b [(aL.loc 0,D)] s.b;rw[hh]at this;simpa[cb,ag.obj.1 0]using this
 have aF:cb s.e s.e=[]:=hh _;simp only[ao,aF];exact h _
theorem Bc{d:Array α}{a b v n:Nat}(bk:a<n)(ab:b<n):(Sort.order2 lt d a b v).1<n/\(Sort.order2 lt d a b v).2.1<n/\(Sort.order2 lt d a b v).2.2<=v+1:=by unfold Sort.order2;split<;>simp<;>omega
theorem vh(H:e7 S n g b9 lc b2 lt){d:Array α}(aN:d.size=n){v:Nat}:aG (inObs (fc S d v)) (eY g b9 lc b2)/\aG (inObs (fc S d v)) (.ptr (.obj 901) 0):=by
 refine⟨wS (fun k ad=>?_) _ (H.kdata (lk:=d.toList) (by simpa using aN)),by simp[aG,inObs,fc,Pv.look]⟩;rcases ad with ad|ad
 ·refine .inl ?_;simp only[fc,Pv.look];split
  ·rfl
  ·exact ad
 ·exact .inr ad
theorem Xj(H:e7 S n g b9 lc b2 lt){d:Array α}{v v':Nat}{fl:List bX}{Q:ai->cS->Prop}{t:List (Nat×ai)}{D:List ai}{o:List aL}(h:cT ⟨t,(.loc 0,D)::(fc S d v').b,(S d.toList).e,1,o⟩ fl fun r=>aG (inObs (fc S d v')) r/\Q r (fc S d v')):
  cO fl (fc S d v) Q .ret ⟨t,(.loc 0,D)::(fc S d v').b,(S d.toList).e,1,o⟩:=by
 refine cO.at (fc S d v') (.inl rfl) (nY H d v') (s7 _ _ _) (fun k cs ae=>?_) (fun _ _ aq=>aq) h;cases k with
 |loc m=>rw[(nY H d v').obj.1 m]at ae;cases ae
 |obj m=>simpa[Pv.look]using ae
theorem Kd(H:e7 S n g b9 lc b2 lt)(ad:sx S 901)(d:Array α)(aN:d.size=n)(a b c v:Nat)(bk:a<n)(ab:b<n)(aq:c<n)(aC:v<=900):
  bH az 213 [eY g b9 lc b2,.int .i64 a,.int .i64 b,.int .i64 c,.ptr (.obj 901) 0] (fc S d v) fun r ah=>r= .int .i64 (Sort.median lt d a b c v).1/\ah=fc S d (Sort.median lt d a b c v).2:=by
 have kL:=nY H d v;have sb:∀v m,Pv.look (.loc m) (fc S d v).b=none:=fun v=>(nY H d v).obj.1;have Lb:∀v m cs,cA (.loc m) cs (fc S d v).b=(fc S d v).b++[(.loc m,cs)]:=fun v m cs=>kk (sb v m);have lN:aL.loc 0∉c2 (fc S d v):=kf kL.obj 0;obtain⟨R,bG⟩:∃R,R=Sort.median lt d a b c v:=⟨_,rfl⟩;rw[<-bG];unfold Sort.median at bG;have a6:=Bc (lt:=lt) (d:=d) (v:=v) bk ab;have aU:=Kg H ad d aN a b v bk ab Ω;generalize Sort.order2 lt d a b v=eU at a6 aU bG;obtain⟨sW,kW,v1⟩:=eU;simp only at a6 aU bG;have bD:=Bc (lt:=lt) (d:=d) (v:=v1) a6.2.1 aq;have bp:=Kg H ad d aN kW c v1 a6.2.1 aq Ω;generalize Sort.order2 lt d kW c v1=fP at bD bp bG;obtain⟨zn,pc,v2⟩:=fP;simp only at bD bp bG;have bY:=Bc (lt:=lt) (d:=d) (v:=v2) a6.1 bD.1;have b1:=Kg H ad d aN sW zn v2 a6.1 bD.1 Ω;generalize Sort.order2 lt d sW zn v2=pU at bY b1 bG;obtain⟨sX,Iv,v3⟩:=pU;simp only at bY b1 bG;refine bH.mk mixed oy ab8 aiP Ψ kL.obj fun aT cI=>?_;unfold Qi;simp[eY,Lb,lN,cV,sb];simp only[ix H,H.slc,H.ssc,iq];refine Vw aU (nY H d v) (s7 _ _ _) (by simp[aG,aP,(vh H aN).1];exact(vh H aN).2) fun o=>?_;simp[Pv.look];simp only[ix H,H.slc,H.ssc,iq];refine DJ bp (nY H d v1) (s7 _ _ _) (by simp[aG,aP,(vh H aN).1];exact(vh H aN).2) fun o=>?_;simp[Pv.look];simp only[ix H,H.slc,H.ssc,iq];refine DJ b1 (nY H d v2) (s7 _ _ _) (by simp[aG,aP,(vh H aN).1];exact(vh H aN).2) fun o=>?_;simp;refine Xj H ?_;simp[cT,WD,aW,aY,aV];rw[bG];exact⟨rfl,rfl⟩
theorem Ke(H:e7 S n g b9 lc b2 lt)(ad:sx S 901)(d:Array α)(aN:d.size=n)(a v:Nat)(bk:a+1<n)(ln:1<=a)(aC:v<=900):
  bH az 212 [eY g b9 lc b2,.int .i64 a,.ptr (.obj 901) 0] (fc S d v) fun r ah=>r= .int .i64 (Sort.medianAdjacent lt d a v).1/\ah=fc S d (Sort.medianAdjacent lt d a v).2:=by
 have kL:=nY H d v;have sb:∀v m,Pv.look (.loc m) (fc S d v).b=none:=fun v=>(nY H d v).obj.1;have Lb:∀v m cs,cA (.loc m) cs (fc S d v).b=(fc S d v).b++[(.loc m,cs)]:=fun v m cs=>kk (sb v m);have lN:aL.loc 0∉c2 (fc S d v):=kf kL.obj 0;have hle:=H.le;have aU:=Kd H ad d aN (a-1) a (a+1) v Ω Ω Ω aC;unfold Sort.medianAdjacent;refine bH.mk mixed oy ab7 aiO Ψ kL.obj fun aT cI=>?_;unfold Qh;have ao:((a:Int)-1)=(a-1:Nat):=Ω
 have aF:((a:Int)+1)=(a+1:Nat):=Ω
 simp[eY,Lb,lN,cV,sb];(with_reducible repeat' first|refine aj ?_|simp);simp only[ix H,H.slc,H.ssc,iq,ao,aF];refine Vw aU (nY H d v) (s7 _ _ _) (by simp[aG,aP,(vh H aN).1];exact(vh H aN).2) fun o=>?_;simp;refine Xj H ?_;simp[cT,WC,aW,aY,aV]
theorem Vx{m:Nat}(h:sx S m)(l:List α):aL.obj m∉c2 (S l):=fun hm=>by
 rcases TY hm with J|J
 ·rw[(h l).1]at J;cases J
 ·rw[(h l).2]at J;cases J
theorem DD{d:Array α}{a b c v n:Nat}(bk:a<n)(ab:b<n)(aq:c<n):(Sort.median lt d a b c v).1<n/\(Sort.median lt d a b c v).2<=v+3:=by have a6:=Bc (lt:=lt) (d:=d) (v:=v) bk ab;have bD:=Bc (lt:=lt) (d:=d) (v:=(Sort.order2 lt d a b v).2.2) a6.2.1 aq;have bY:=Bc (lt:=lt) (d:=d) (v:=(Sort.order2 lt d (Sort.order2 lt d a b v).2.1 c (Sort.order2 lt d a b v).2.2).2.2) a6.1 bD.1;refine⟨bY.2.1,kn bY.2.2 ?_⟩;omega
def Aj:Sort.Hint->Int
 | .unknown=>0
 | .increasing=>1
 | .decreasing=>2
theorem adB(H:e7 S n g b9 lc b2 lt)(ad:sx S 901)(d:Array α)(aN:d.size=n)(a b:Nat)(nA:a<b)(ab:b<=n):
  bH az 198 [eY g b9 lc b2,.int .i64 a,.int .i64 b] (S d.toList) fun r ah=>r= .tuple [.int .i64 (Sort.choosePivot lt d a b).1,.int .i64 (Aj (Sort.choosePivot lt d a b).2)]/\ah=S d.toList:=by
 have ag:=H.ok d.toList;have av:d.toList.length=n:=by simpa using aN
 have ay:∀l m,Pv.look (.loc m) (S l).b=none:=fun l=>(H.ok l).obj.1;have hu:∀l m cs,cA (.loc m) cs (S l).b=(S l).b++[(.loc m,cs)]:=fun l m cs=>kk (ay l m);have ax:∀m,aL.loc m∉c2 (S d.toList):=kf ag.obj;have gy:∀l,Pv.look (.obj 901) (S l).b=none:=fun l=>(ad l).1;have jC:∀l,Pv.look (.obj 901) (S l).e=none:=fun l=>(ad l).2;have hle:=H.le;have lN:=Vx ad d.toList;obtain⟨R,bG⟩:∃R,R=Sort.choosePivot lt d a b:=⟨_,rfl⟩;rw[<-bG];unfold Sort.choosePivot at bG;refine bH.mk mixed oy ab5 aiM Ψ ag.obj fun aT cI=>?_;unfold Qf;have yu:∀l D cs,cA (.obj 901) cs ((S l).b++[(.loc 0,D)])=(S l).b++[(.loc 0,D),(.obj 901,cs)]:=fun l D cs=>by rw[BJ (gy l)];rfl
 obtain⟨q,bF⟩:∃q,q=(b-a)/4:=⟨_,rfl⟩;have dr:nk.wrap (((b:Int)-a).tdiv 4)=(q:Nat):=by rw[show((b:Int)-a)=((b-a:Nat):Int) by omega,Int.tdiv_eq_ediv_of_nonneg Ω,mB _ Ω];omega
 simp[eY,hu,yu,ax,lN,cV,ay,gy,jC,Pv.look,cA];have dG:∀(t:List (Nat×ai)) (o:List aL) (b0:List (aL×List ai)) (x:Nat) (h:Sort.Hint),Pv.get 6 t= .int .i64 x->Pv.get 7 t= .int .i64 (Aj h)->R=(x,h)->(∀k cs,Pv.look k (S d.toList).b=some cs->Pv.look k b0=some cs)->
   cO MK (S d.toList) (fun r ah=>r= .tuple [.int .i64 R.1,.int .i64 (Aj R.2)]/\ah=S d.toList) .ret ⟨t,b0,(S d.toList).e,1,o⟩:=by
  rintro t o b0 x h ae aH rfl fZ;refine cO.at (S d.toList) (.inl rfl) ag (Same.refl _) fZ (fun _ _ aq=>aq) ?_;simp[cT,MK,aW,aY,aV,ae,aH]
 have Ab:∀(D:List ai) (v:Nat) k cs,Pv.look k (S d.toList).b=some cs->Pv.look k ((.loc 0,D)::(fc S d v).b)=some cs:=fun D v k cs h=>by
  simp only[fc,Pv.look];split
  ·rename_i e;subst e;rw[ay]at h;cases h
  ·split
   ·rename_i e;subst e;rw[gy]at h;cases h
   ·exact h
 have S1:∀{f:Nat} {args:List ai} {r:ai} {v:Nat},(bH az f args (fc S d 0) fun eM dE=>eM=r/\dE=fc S d v)->aP (inObs (fc S d 0)) args->∀{t:List (Nat×ai)} {D:List ai} {o:List aL} {cl:Option Nat} {K:bm->Prop},(∀o,K ⟨eR cl r t,(.loc 0,D)::(fc S d v).b,(S d.toList).e,1,o⟩)->
   cW az f args ⟨t,(S d.toList).b++[(.loc 0,D),(.obj 901,[.int .i64 0])],(S d.toList).e,1,o⟩ cl K:=by
  intro f args r v aR hz t D o cl K h;refine cW.ob aR (nY H d 0) (fun k cs ae=>?_) (fun _ _ ae=>ae) hz ?_
  ·simp only[fc,Pv.look]at ae;rw[cV];split at ae
   ·rename_i e;subst e;rw[gy];simp[Pv.look];simpa using ae
   ·rw[ae]
  rintro r ah ⟨rfl,rfl⟩;refine⟨s7 _ _ _,?_⟩;have ao:cb (fc S d 0).b ((S d.toList).b++[(.loc 0,D),(.obj 901,[.int .i64 0])])=[(.loc 0,D)]:=by
   rw[iH];have:cb (fc S d 0).b (S d.toList).b=[]:=On _ _ fun k x hm=>by
    have:=vm hm;simp only[fc,Pv.look];split
    ·rfl
    ·exact this
   rw[this];simp[cb,fc,Pv.look,ay]
  have aF:cb (fc S d 0).e (S d.toList).e=[]:=hh _;simp only[ao,aF];exact h _
 have hz:=fun(v:Nat)=>(vh H aN (v:=v));have f1:((a:Int)+q)=(a+q:Nat):=Ω
 have f2:((a:Int)+q*2)=(a+q*2:Nat):=Ω
 have f3:((a:Int)+q*3)=(a+q*3:Nat):=Ω
 dsimp only at bG;rw[<-bF,Nat.mul_one]at bG;by_cases ll:b-a<8
 ·have FR:¬(8:Int)<=(b:Int)-a:=Ω
  (with_reducible repeat' first|refine aj ?_|simp[FR,dr,hu,yu,ax,lN,cV,ay,gy,jC,Pv.look,cA]);rw[f2];refine dG _ _ _ (a+q*2) .increasing rfl rfl (by rw[bG,if_neg Ω];simp) (fun k cs h=>by rw[cV,h])
 ·have FR:(8:Int)<=(b:Int)-a:=Ω
  by_cases ao6:b-a<50
  ·have Kl:¬(50:Int)<=(b:Int)-a:=Ω
   (with_reducible repeat' first|refine aj ?_|simp[FR,Kl,dr,hu,yu,ax,lN,cV,ay,gy,jC,Pv.look,cA]);simp only[ix H,H.slc,H.ssc,iq,f1,f2,f3];have aU:=Kd H ad d aN (a+q) (a+q*2) (a+q*3) 0 Ω Ω Ω Ω;have bp:=DD (lt:=lt) (d:=d) (a:=a+q) (b:=a+q*2) (c:=a+q*3) (v:=0) (n:=n) Ω Ω Ω;rw[if_pos Ω,if_neg Ω]at bG;generalize Sort.median lt d (a+q) (a+q*2) (a+q*3) 0=m at aU bp bG;obtain⟨x,v⟩:=m;refine S1 aU (by simp[aG,aP,(hz 0).1];exact(hz 0).2) fun o=>?_;have yv:((v:Int)==0)=decide (v=0):=by rw[p1];simp
   have Dc:((v:Int)==12)=decide (v=12):=by rw[p1];simp;omega
   simp[Pv.look,fc];rcases(by omega:v=0\/v=12\/(v≠0/\v≠12))with bE|bE|bE
   ·have ae:((v:Int)==0)=true:=by rw[yv];simp[bE]
    (with_reducible repeat' first|refine aj ?_|simp[ae]);all_goals exact dG _ _ _ x .increasing rfl rfl (by rw[bG];simp[bE]) (Ab _ v)
   ·have ae:((v:Int)==0)=false:=by rw[yv];simp[bE]
    have u7:((v:Int)==12)=true:=by rw[Dc];simp[bE]
    (with_reducible repeat' first|refine aj ?_|simp[ae,u7]);all_goals exact dG _ _ _ x .decreasing rfl rfl (by rw[bG];simp[bE]) (Ab _ v)
   ·have ae:((v:Int)==0)=false:=by rw[yv];simp[bE.1]
    have u7:((v:Int)==12)=false:=by rw[Dc];simp[bE.2]
    (with_reducible repeat' first|refine aj ?_|simp[ae,u7]);all_goals exact dG _ _ _ x .unknown rfl rfl (by rw[bG];simp[bE]) (Ab _ v)
  ·have Kl:(50:Int)<=(b:Int)-a:=Ω
   (with_reducible repeat' first|refine aj ?_|simp[FR,Kl,dr,hu,yu,ax,lN,cV,ay,gy,jC,Pv.look,cA]);simp only[ix H,H.slc,H.ssc,iq,f1,f2,f3];rw[if_pos Ω,if_pos Ω]at bG;have aU:=Ke H ad d aN (a+q) 0 Ω Ω Ω;have Dp:=DD (lt:=lt) (d:=d) (a:=a+q-1) (b:=a+q) (c:=a+q+1) (v:=0) (n:=n) Ω Ω Ω;change (Sort.medianAdjacent lt d (a+q) 0).1<n/\(Sort.medianAdjacent lt d (a+q) 0).2<=0+3 at Dp;generalize Sort.medianAdjacent lt d (a+q) 0=m1 at aU Dp bG;obtain⟨sW,v1⟩:=m1;simp only at aU Dp bG;have bp:=Ke H ad d aN (a+q*2) v1 Ω Ω Ω;have Dq:=DD (lt:=lt) (d:=d) (a:=a+q*2-1) (b:=a+q*2) (c:=a+q*2+1) (v:=v1) (n:=n) Ω Ω Ω;change (Sort.medianAdjacent lt d (a+q*2) v1).1<n/\(Sort.medianAdjacent lt d (a+q*2) v1).2<=v1+3 at Dq;generalize Sort.medianAdjacent lt d (a+q*2) v1=m2 at bp Dq bG;obtain⟨zn,v2⟩:=m2;simp only at bp Dq bG;have b1:=Ke H ad d aN (a+q*3) v2 Ω Ω Ω;have Dr:=DD (lt:=lt) (d:=d) (a:=a+q*3-1) (b:=a+q*3) (c:=a+q*3+1) (v:=v2) (n:=n) Ω Ω Ω;change (Sort.medianAdjacent lt d (a+q*3) v2).1<n/\(Sort.medianAdjacent lt d (a+q*3) v2).2<=v2+3 at Dr;generalize Sort.medianAdjacent lt d (a+q*3) v2=m3 at b1 Dr bG;obtain⟨sX,v3⟩:=m3;simp only at b1 Dr bG;have fT:=Kd H ad d aN sW zn sX v3 Dp.1 Dq.1 Dr.1 Ω;have Uk:=DD (lt:=lt) (d:=d) (v:=v3) Dp.1 Dq.1 Dr.1;generalize Sort.median lt d sW zn sX v3=m4 at fT Uk bG;obtain⟨x,v⟩:=m4;simp only at fT Uk bG;refine S1 aU (by simp[aG,aP,(hz 0).1];exact(hz 0).2) fun o=>?_;simp[Pv.look];simp only[ix H,H.slc,H.ssc,iq,f1,f2,f3];refine DJ bp (nY H d v1) (s7 _ _ _) (by simp[aG,aP,(hz v1).1];exact(hz v1).2) fun o=>?_;simp[Pv.look];simp only[ix H,H.slc,H.ssc,iq,f1,f2,f3];refine DJ b1 (nY H d v2) (s7 _ _ _) (by simp[aG,aP,(hz v2).1];exact(hz v2).2) fun o=>?_;simp[Pv.look];simp only[ix H,H.slc,H.ssc,iq,f1,f2,f3];refine DJ fT (nY H d v3) (s7 _ _ _) (by simp[aG,aP,(hz v3).1];exact(hz v3).2) fun o=>?_;have yv:((v:Int)==0)=decide (v=0):=by rw[p1];simp
   have Dc:((v:Int)==12)=decide (v=12):=by rw[p1];simp;omega
   simp[Pv.look,fc];rcases(by omega:v=0\/v=12\/(v≠0/\v≠12))with bE|bE|bE
   ·have ae:((v:Int)==0)=true:=by rw[yv];simp[bE]
    (with_reducible repeat' first|refine aj ?_|simp[ae]);all_goals exact dG _ _ _ x .increasing rfl rfl (by rw[bG];simp[bE]) (Ab _ v)
   ·have ae:((v:Int)==0)=false:=by rw[yv];simp[bE]
    have u7:((v:Int)==12)=true:=by rw[Dc];simp[bE]
    (with_reducible repeat' first|refine aj ?_|simp[ae,u7]);all_goals exact dG _ _ _ x .decreasing rfl rfl (by rw[bG];simp[bE]) (Ab _ v)
   ·have ae:((v:Int)==0)=false:=by rw[yv];simp[bE.1]
    have u7:((v:Int)==12)=false:=by rw[Dc];simp[bE.2]
    (with_reducible repeat' first|refine aj ?_|simp[ae,u7]);all_goals exact dG _ _ _ x .unknown rfl rfl (by rw[bG];simp[bE]) (Ab _ v)
end
section
open Go Go.Pv
variable {α:Type} [Inhabited α] {S:List α->cS} {n g b9:Nat} {lc b2:List ai} {lt:α->α->Bool}
theorem al2:∀x:Nat,x<256->((([0,1,2,2,3,3,3,3,4,4,4,4,4,4,4,4,5,5,5,5,5,5,5,5,5,5,5,5,5,5,5,5,6,6,6,6,6,6,6,6,6,6,6,6,6,6,6,6,6,6,6,6,6,6,6,6,6,6,6,6,6,6,6,6,7,7,7,7,7,7,7,7,7,7,7,7,7,7,7,7,7,7,7,7,7,7,7,7,7,7,7,7,7,7,7,7,7,7,7,7,7,7,7,7,7,7,7,7,7,7,7,7,7,7,7,7,7,7,7,7,7,7,7,7,7,7,7,7,8,8,8,8,8,8,8,8,8,8,8,8,8,8,8,8,8,8,8,8,8,8,8,8,8,8,8,8,8,8,8,8,8,8,8,8,8,8,8,8,8,8,8,8,8,8,8,8,8,8,8,8,8,8,8,8,8,8,8,8,8,8,8,8,8,8,8,8,8,8,8,8,8,8,8,8,8,8,8,8,8,8,8,8,8,8,8,8,8,8,8,8,8,8,8,8,8,8,8,8,8,8,8,8,8,8,8,8,8,8,8,8,8,8,8,8,8,8,8,8,8,8,8,8,8,8,8,8]:List UInt8)[x]?).getD 0).toNat=Sort.bitsLen x:=by decide+kernel
theorem Cu(x:Int):x.fdiv (2 ^ (min 32 hv.bits))=x/4294967296:=by rw[show(2:Int) ^ (min 32 hv.bits)=4294967296 from by decide,Int.fdiv_eq_ediv_of_nonneg _ Ω]
theorem Ct(x:Int):x.fdiv (2 ^ (min 16 hv.bits))=x/65536:=by rw[show(2:Int) ^ (min 16 hv.bits)=65536 from by decide,Int.fdiv_eq_ediv_of_nonneg _ Ω]
theorem Cv(x:Int):x.fdiv (2 ^ (min 8 hv.bits))=x/256:=by rw[show(2:Int) ^ (min 8 hv.bits)=256 from by decide,Int.fdiv_eq_ediv_of_nonneg _ Ω]
theorem Ev(x:Nat)(h:x<256):IntKind.u8.wrap (x:Int)=x:=by simp[sY,nW,rD];omega
theorem I4(x k:Nat)(h:2 ^ k<=x):Sort.bitsLen x=Sort.bitsLen (x/2 ^ k)+k:=by
 have ae:x≠0:=by have:=Nat.two_pow_pos k;omega
 have bF:x/2 ^ k≠0:=by have:=Nat.div_pos h (Nat.two_pow_pos k);omega
 unfold Sort.bitsLen;rw[if_neg ae,if_neg bF];have av:=Nat.log2_lt ae (k:=Nat.log2 (x/2 ^ k)+k+1);have J:Nat.log2 (x/2 ^ k)+k<=Nat.log2 x:=by
  rw[Nat.le_log2 ae,Nat.pow_add];have:=Nat.log2_self_le bF;calc 2 ^ (x/2 ^ k).log2*2 ^ k<=(x/2 ^ k)*2 ^ k:=Nat.mul_le_mul_right _ this
   _<=x:=Nat.div_mul_le_self x _
 have U:Nat.log2 x<Nat.log2 (x/2 ^ k)+k+1:=by rw[av,show Nat.log2 (x/2 ^ k)+k+1=(Nat.log2 (x/2 ^ k)+1)+k by omega,Nat.pow_add];have:=Nat.lt_log2_self (n:=x/2 ^ k);exact(Nat.div_lt_iff_lt_mul (Nat.two_pow_pos k)).1 this
 omega
set_option maxRecDepth 20000 in
theorem amt(x:Nat)(ae:x<1099511627776):bZ az 195 [.int .u64 x] (.int .i64 (Sort.bitsLen x)):=by
 refine bZ.mk mixed oy ab2 aiJ Ψ d6 fun aT=>?_;unfold Qc;have aM:=al2;generalize SP:([0,1,2,2,3,3,3,3,4,4,4,4,4,4,4,4,5,5,5,5,5,5,5,5,5,5,5,5,5,5,5,5,6,6,6,6,6,6,6,6,6,6,6,6,6,6,6,6,6,6,6,6,6,6,6,6,6,6,6,6,6,6,6,6,7,7,7,7,7,7,7,7,7,7,7,7,7,7,7,7,7,7,7,7,7,7,7,7,7,7,7,7,7,7,7,7,7,7,7,7,7,7,7,7,7,7,7,7,7,7,7,7,7,7,7,7,7,7,7,7,7,7,7,7,7,7,7,7,8,8,8,8,8,8,8,8,8,8,8,8,8,8,8,8,8,8,8,8,8,8,8,8,8,8,8,8,8,8,8,8,8,8,8,8,8,8,8,8,8,8,8,8,8,8,8,8,8,8,8,8,8,8,8,8,8,8,8,8,8,8,8,8,8,8,8,8,8,8,8,8,8,8,8,8,8,8,8,8,8,8,8,8,8,8,8,8,8,8,8,8,8,8,8,8,8,8,8,8,8,8,8,8,8,8,8,8,8,8,8,8,8,8,8,8,8,8,8,8,8,8,8,8,8,8,8,8]:List UInt8)=tab at aM⊢;have z8:tab.length=256:=by rw[<-SP];rfl
 clear SP;simp[z8];have ab:∀y:Nat,y<256->Sort.bitsLen y<=8:=by decide+kernel
 have afM:4294967296<=x->Sort.bitsLen x=Sort.bitsLen (x/4294967296)+32:=fun h=>I4 x 32 h;have TF:∀y,65536<=y->Sort.bitsLen y=Sort.bitsLen (y/65536)+16:=fun y h=>I4 y 16 h;have TI:∀y,256<=y->Sort.bitsLen y=Sort.bitsLen (y/256)+8:=fun y h=>I4 y 8 h;by_cases J:4294967296<=x
 ·have oa:(4294967296:Int)<=x:=Ω
  have g1:¬(65536:Int)<=(x:Int)/4294967296:=Ω
  have g3:¬(256:Int)<=(x:Int)/4294967296:=Ω
  (with_reducible repeat' first|refine aj ?_|simp[oa,g1,g3,Cu,Ct,Cv,z8]);have aH:x/4294967296<256:=Ω
  have j5:=ab _ aH;have eB:(x:Int)/4294967296=((x/4294967296:Nat):Int):=Ω
  rw[eB,Ev _ aH,Int.toNat_natCast];refine⟨Ω,?_⟩;have e:=aM _ aH;rw[e,mB _ Ω];refine⟨by unfold oZ;omega,?_⟩;simp[bu,Bm,aW,aY,aV];try((rw[afM J])<;>omega)
 ·have oa:¬(4294967296:Int)<=x:=Ω
  by_cases U:65536<=x
  ·have g2:(65536:Int)<=x:=Ω
   by_cases ar:256<=x/65536
   ·have g3:(256:Int)<=(x:Int)/65536:=Ω
    (with_reducible repeat' first|refine aj ?_|simp[oa,g2,g3,Cu,Ct,Cv,z8]);have aH:x/65536/256<256:=Ω
    have j5:=ab _ aH;have eB:(x:Int)/65536/256=((x/65536/256:Nat):Int):=Ω
    rw[eB,Ev _ aH,Int.toNat_natCast];refine⟨Ω,?_⟩;have e:=aM _ aH;rw[e,mB _ Ω];refine⟨by unfold oZ;omega,?_⟩;simp[bu,Bm,aW,aY,aV];try((rw[TF x U,TI _ ar])<;>omega)
   ·have g3:¬(256:Int)<=(x:Int)/65536:=Ω
    (with_reducible repeat' first|refine aj ?_|simp[oa,g2,g3,Cu,Ct,Cv,z8]);have aH:x/65536<256:=Ω
    have j5:=ab _ aH;have eB:(x:Int)/65536=((x/65536:Nat):Int):=Ω
    rw[eB,Ev _ aH,Int.toNat_natCast];refine⟨Ω,?_⟩;have e:=aM _ aH;rw[e,mB _ Ω];refine⟨by unfold oZ;omega,?_⟩;simp[bu,Bm,aW,aY,aV];try((rw[TF x U])<;>omega)
  ·have g2:¬(65536:Int)<=x:=Ω
   by_cases ar:256<=x
   ·have g3:(256:Int)<=x:=Ω
    (with_reducible repeat' first|refine aj ?_|simp[oa,g2,g3,Cu,Ct,Cv,z8]);have aH:x/256<256:=Ω
    have j5:=ab _ aH;have eB:(x:Int)/256=((x/256:Nat):Int):=Ω
    rw[eB,Ev _ aH,Int.toNat_natCast];refine⟨Ω,?_⟩;have e:=aM _ aH;rw[e,mB _ Ω];refine⟨by unfold oZ;omega,?_⟩;simp[bu,Bm,aW,aY,aV];try((rw[TI x ar])<;>omega)
   ·have g3:¬(256:Int)<=x:=Ω
    (with_reducible repeat' first|refine aj ?_|simp[oa,g2,g3,Cu,Ct,Cv,z8]);have aH:x<256:=Ω
    have j5:=ab _ aH;have eB:(x:Int)=((x:Nat):Int):=Ω
    rw[eB,Ev _ aH,Int.toNat_natCast];refine⟨Ω,?_⟩;have e:=aM _ aH;rw[e,mB _ Ω];refine⟨by unfold oZ;omega,?_⟩;simp[bu,Bm,aW,aY,aV];try((rw[show Sort.bitsLen x=Sort.bitsLen x from rfl])<;>omega)
theorem ams(x:Nat)(ae:x<1099511627776):bZ az 169 [.int .u64 x] (.int .i64 (Sort.bitsLen x)):=by refine bZ.mk mixed oy ab1 aiI Ψ d6 fun aT=>?_;unfold Qb;have LF:=amt x ae;exact cD
theorem ZH(x:Nat)(ae:x<1099511627776):Sort.bitsLen x<=40:=by
 unfold Sort.bitsLen;split
 ·omega
 ·rename_i h;have:=(Nat.log2_lt h (k:=40)).2 Ω;omega
theorem al8{x:Nat}(h:x≠0):2 ^ Sort.bitsLen x<=2*x/\x<2 ^ Sort.bitsLen x:=by unfold Sort.bitsLen;rw[if_neg h];have J:=Nat.log2_self_le h;have U:=Nat.lt_log2_self (n:=x);rw[Nat.pow_succ];rw[Nat.pow_succ]at U;omega
theorem am5(x:Nat)(ae:x<1099511627776):bZ az 210 [.int .i64 x] (.int .u64 (1<<<Sort.bitsLen x:Nat)):=by
 have ab:=ZH x ae;have ao:hv.wrap ((x:Nat):Int)=x:=by simp[sY,nW,rD];omega
 have aF:hv.wrap ((Sort.bitsLen x:Nat):Int)=Sort.bitsLen x:=by simp[sY,nW,rD];omega
 refine bZ.mk mixed oy ab9 aiQ Ψ d6 fun aT=>?_;unfold Qj;simp[ao];refine cW.val Ψ (ams x ae) ?_;simp[ao,aF];simp[bu,WE,aW,aY,aV];have hm:min (Sort.bitsLen x) hv.bits=Sort.bitsLen x:=by simp[nW];omega
 have bK:2 ^ Sort.bitsLen x<=2 ^ 40:=Nat.pow_le_pow_right Ω ab;rw[hm];have aq:((2:Int) ^ Sort.bitsLen x)=((2 ^ Sort.bitsLen x:Nat):Int):=by simp
 have uU:((1<<<Sort.bitsLen x:Nat):Int)=((2 ^ Sort.bitsLen x:Nat):Int):=by rw[Nat.one_shiftLeft]
 have tt:hv.wrap ((2:Int) ^ Sort.bitsLen x)=((1<<<Sort.bitsLen x:Nat):Int):=by rw[aq,uU];generalize 2 ^ Sort.bitsLen x=y at bK;simp[sY,nW,rD];omega
 simpa using tt
def nn(r:Nat):cS:=⟨[(.obj 902,[.int .u64 r])],[]⟩
theorem IH(r:Nat):dR (nn r):=by unfold nn;exact(dR.of ⟨by intro m;simp[Pv.look],by intro m;simp[Pv.look]⟩ d9 d9)
theorem OG(a b:Nat):Same (nn a) (nn b):=⟨fun k=>by simp only[nn,Pv.look];split<;>rfl,fun _=>rfl⟩
theorem I6(a b:Nat)(bk:a<18446744073709551616)(ab:b<18446744073709551616):hv.wrap ((l3 hv.bits (a:Int) ^^^ l3 hv.bits (b:Int)).toNat:Int)=(a ^^^ b:Nat):=by
 have ar:a ^^^ b<18446744073709551616:=Nat.xor_lt_two_pow (n:=64) bk ab;have e:(l3 hv.bits (a:Int) ^^^ l3 hv.bits (b:Int)).toNat=a ^^^ b:=by
  rw[BitVec.toNat_xor,BitVec.toNat_ofInt,BitVec.toNat_ofInt];have ao:((a:Int)%(2 ^ hv.bits:Nat)).toNat=a:=by simp[nW];omega
  have aF:((b:Int)%(2 ^ hv.bits:Nat)).toNat=b:=by simp[nW];omega
  rw[ao,aF]
 rw[e];generalize a ^^^ b=c at ar;simp[sY,nW,rD];omega
theorem alr(r:Nat):hv.wrap ((r:Int)*2 ^ (min 13 hv.bits))=(r*8192%18446744073709551616:Nat):=by simp[sY,nW,rD]
theorem als(r:Nat):hv.wrap ((r:Int)*2 ^ (min 17 hv.bits))=(r*131072%18446744073709551616:Nat):=by simp[sY,nW,rD]
theorem alu(r:Nat):((r:Int)).fdiv (2 ^ (min 7 hv.bits))=(r/128:Nat):=by rw[show(2:Int) ^ (min 7 hv.bits)=128 from by decide,Int.fdiv_eq_ediv_of_nonneg _ Ω];omega
theorem adv(r:Nat)(aJ:r<18446744073709551616):bH az 211 [.ptr (.obj 902) 0] (nn r) fun eM ah=>eM= .int .u64 (Sort.xorNextN r)/\ah=nn (Sort.xorNextN r):=by
 have ag:=IH r;unfold nn at ag⊢;refine bH.mk mixed oy acn ai2 Ψ ag.obj fun aT cI=>?_;unfold Qv;obtain⟨m1,Tn⟩:∃m,m=r*8192%18446744073709551616:=⟨_,rfl⟩;have s1:=alr r;rw[<-Tn]at s1;have ka:m1<18446744073709551616:=Ω
 obtain⟨bB,ln⟩:∃m,m=r ^^^ m1:=⟨_,rfl⟩;have t1:=I6 r m1 aJ ka;rw[<-ln]at t1;have UG:bB<18446744073709551616:=by rw[ln];exact Nat.xor_lt_two_pow (n:=64) aJ ka
 obtain⟨m2,Gc⟩:∃m,m=bB/128:=⟨_,rfl⟩;have s2:=alu bB;rw[<-Gc]at s2;have hd:m2<18446744073709551616:=Ω
 obtain⟨a2,qc⟩:∃m,m=bB ^^^ m2:=⟨_,rfl⟩;have t2:=I6 bB m2 UG hd;rw[<-qc]at t2;have ag2:a2<18446744073709551616:=by rw[qc];exact Nat.xor_lt_two_pow (n:=64) UG hd
 obtain⟨m3,To⟩:∃m,m=a2*131072%18446744073709551616:=⟨_,rfl⟩;have s3:=als a2;rw[<-To]at s3;have ag1:m3<18446744073709551616:=Ω
 obtain⟨a3,FV⟩:∃m,m=a2 ^^^ m3:=⟨_,rfl⟩;have t3:=I6 a2 m3 ag2 ag1;rw[<-FV]at t3;have bG:Sort.xorNextN r=a3:=by unfold Sort.xorNextN;simp only[<-Tn,<-ln,<-Gc,<-qc,<-To,<-FV]
 rw[bG];simp[-BitVec.toNat_xor,-BitVec.ofInt_natCast,s1,t1,s2,t2,s3,t3];have a8:=IH a3;have b8:=OG r a3;unfold nn at a8 b8;refine cO.at _ (.inl rfl) a8 b8 aK aK ?_;simp[cT,WI,aW,aY,aV]
end
section
open Go Go.Pv
variable {α:Type} [Inhabited α] {S:List α->cS} {n g b9:Nat} {lc b2:List ai} {lt:α->α->Bool}
theorem ZC(a b:Nat)(bk:a<18446744073709551616)(ab:b<18446744073709551616):hv.wrap ((l3 hv.bits (a:Int)&&& l3 hv.bits (b:Int)).toNat:Int)=(a&&& b:Nat):=by
 have ar:a&&& b<18446744073709551616:=Nat.lt_of_le_of_lt Nat.and_le_left bk;have e:(l3 hv.bits (a:Int)&&& l3 hv.bits (b:Int)).toNat=a&&& b:=by
  rw[BitVec.toNat_and,BitVec.toNat_ofInt,BitVec.toNat_ofInt];have ao:((a:Int)%(2 ^ hv.bits:Nat)).toNat=a:=by simp[nW];omega
  have aF:((b:Int)%(2 ^ hv.bits:Nat)).toNat=b:=by simp[nW];omega
  rw[ao,aF]
 rw[e];generalize a&&& b=c at ar;simp[sY,nW,rD];omega
def zz(a len M i0:Nat)(d:Array α):Nat->UInt64×Array α
 |0=>(UInt64.ofNat len,d)
 |k+1=>Sort.breakStep a len M (zz a len M i0 d k) (i0+k)
theorem ZK(d:Array α)(a b:Nat)(h:8<=b-a):Sort.breakPatterns d a b=(zz a (b-a) (1<<<Sort.bitsLen (b-a)) (a+(b-a)/4*2-1) d 3).2:=by unfold Sort.breakPatterns;simp only[if_pos h,zz];rfl
theorem Yz{ob O:List aL}{ah:cS}(fF:dR ah)(dk:∀k,inObs ah k->k∈O)(u5:∀k∈ob,k∈O){st:bm}{dE:List (Nat×ai)}{L:List (aL×List ai)}{n:Nat}(aM:∀x∈dE,Pv.get x.1 st.t=x.2/\aG (mr ah n) x.2)(h0:∀x∈L,Pv.look x.1 st.b=some x.2/\mr ah n x.1/\aP (mr ah n) x.2)
  (ab:∀k cs,Pv.look k ah.b=some cs->Pv.look k st.b=some cs) (he:∀k o,Pv.look k ah.e=some o->Pv.look k st.e=some o):iO ob st ⟨dE,L++ah.b,ah.e,n,O⟩:=by
 have mh:∀{k},mr ah n k->¬fresh n O k:=by
  rintro k (h|⟨m,hm,rfl⟩)
  ·exact fun aR=>aR.2 (dk k h)
  ·intro aR;have:=aR.1;simp at this;omega
 refine⟨fun x ae=>⟨(aM x ae).1,wS (fun k ad=>mh ad) _ (aM x ae).2⟩,fun k cs ad=>?_,fun k o ax=>?_,u5⟩
 ·simp only at ad;rw[cV]at ad;cases av:Pv.look k L with
  |some x=>rw[av]at ad;simp only[dC]at ad;subst ad;obtain⟨J,U,ar⟩:=h0 _ (tQ av);exact⟨J,mh U,j9 (fun k ad=>mh ad) _ ar⟩
  |none=>rw[av]at ad;exact⟨ab k cs ad,mh (.inl (.inl (by simp[ad]))),j9 (fun k ad=>mh (.inl ad)) _ (fF.kb k cs ad)⟩
 ·exact⟨he k o ax,mh (.inl (.inr (by simp at ax;simp[ax]))),fun xs ae=>j9 (fun k ad=>mh (.inl ad)) _ (fF.ke k o ax xs ae)⟩
theorem Ol{anC β:Type}(s:List (aL×β)):∀(l:List (aL×anC)),(∀k x,(k,x)∈l->Pv.look k s=none)->cb s l=l
 |[],_=>rfl
 |(k,x)::r,h=>by have J:=h k x Ψ;simp only[cb,J];rw[Ol s r fun k x ae=>h k x (by simp[ae])]
def jx(S:List α->cS)(d:Array α)(r:Nat):cS:=⟨(.obj 902,[.int .u64 r])::(S d.toList).b,(S d.toList).e⟩
theorem EX(H:e7 S n g b9 lc b2 lt)(d:Array α)(v:Nat):dR (jx S d v):=by
 have h:=H.ok d.toList;have gH:∀k,inObs (S d.toList) k->inObs (jx S d v) k:=fun k ad=>by
  rcases ad with ad|ad
  ·refine .inl ?_;simp only[jx,Pv.look];split
   ·rfl
   ·exact ad
  ·exact .inr ad
 refine⟨⟨fun m=>?_,h.obj.2⟩,fun k cs ad=>?_,fun k o ax xs ae=>j9 gH _ (h.ke k o ax xs ae)⟩
 ·simp[jx,Pv.look,h.obj.1 m]
 ·simp only[jx,Pv.look]at ad;split at ad
  ·cases ad;simp[aP,aG]
  ·exact j9 gH _ (h.kb k cs ad)
theorem Yy{ob O:List aL}{d2:Array α}{y:Nat}{D:List ai}(fF:dR (jx S d2 y))(dk:∀k,inObs (jx S d2 y) k->k∈O)(u5:∀k∈ob,k∈O){st:bm}{dE:List (Nat×ai)}(aM:∀x∈dE,Pv.get x.1 st.t=x.2/\aG (mr (jx S d2 y) 1) x.2)(bE:Pv.look (.loc 0) st.b=some D)(r2:aP (mr (jx S d2 y) 1) D)
  (ab:∀k cs,Pv.look k (jx S d2 y).b=some cs->Pv.look k st.b=some cs) (he:∀k o,Pv.look k (jx S d2 y).e=some o->Pv.look k st.e=some o):iO ob st ⟨dE,(.loc 0,D)::(.obj 902,[.int .u64 y])::(S d2.toList).b,(S d2.toList).e,1,O⟩:=
 Yz (L:=[(.loc 0,D)]) fF dk u5 aM (fun x ae=>by simp only[oF]at ae;subst ae;exact⟨bE,Vu _ _ _ Ω,r2⟩) ab he
theorem adA(H:e7 S n g b9 lc b2 lt)(ad:sx S 902)(d:Array α)(aN:d.size=n)(a b:Nat)(nA:a<=b)(ab:b<=n)(ll:8<=b-a):
  bH az 197 [eY g b9 lc b2,.int .i64 a,.int .i64 b] (S d.toList) fun r ah=>r= .tuple []/\∃cl,ah=S cl.toList/\cl=Sort.breakPatterns d a b/\cl.size=n:=by
 have ag:=H.ok d.toList;have av:d.toList.length=n:=by simpa using aN
 have ay:∀l m,Pv.look (.loc m) (S l).b=none:=fun l=>(H.ok l).obj.1;have hu:∀l m cs,cA (.loc m) cs (S l).b=(S l).b++[(.loc m,cs)]:=fun l m cs=>kk (ay l m);have ax:∀m,aL.loc m∉c2 (S d.toList):=kf ag.obj;have gy:∀l,Pv.look (.obj 902) (S l).b=none:=fun l=>(ad l).1;have jC:∀l,Pv.look (.obj 902) (S l).e=none:=fun l=>(ad l).2;have hle:=H.le;have lN:=Vx ad d.toList;rw[ZK d a b ll];obtain⟨len,hlen⟩:∃len,len=b-a:=⟨_,rfl⟩;rw[<-hlen];obtain⟨M,gJ⟩:∃M,M=1<<<Sort.bitsLen len:=⟨_,rfl⟩;rw[<-gJ];have ao7:len<M/\M<=2*len:=by have:=al8 (x:=len) Ω;rw[gJ,Nat.one_shiftLeft];omega
 obtain⟨q,bF⟩:∃q,q=len/4:=⟨_,rfl⟩;rw[<-bF];have yu:∀l D cs,cA (.obj 902) cs ((S l).b++[(.loc 0,D)])=(S l).b++[(.loc 0,D),(.obj 902,cs)]:=fun l D cs=>by rw[BJ (gy l)];rfl
 have TO:∀l D x y,cA (.obj 902) y ((S l).b++[(.loc 0,D),(.obj 902,x)])=(S l).b++[(.loc 0,D),(.obj 902,y)]:=fun l D x y=>by rw[BJ (gy l)];simp[cA]
 have el:((b:Int)-a)=(len:Nat):=Ω
 have dr:nk.wrap ((len:Int).tdiv 4)=(q:Nat):=by rw[Int.tdiv_eq_ediv_of_nonneg Ω,mB _ Ω];omega
 have ew:hv.wrap (len:Int)=len:=by simp[sY,nW,rD];omega
 refine bH.mk mixed oy ab4 aiL Ψ ag.obj fun aT cI=>?_;unfold Qe;have me:=am5 len Ω;rw[<-gJ]at me;simp[eY,hu,yu,TO,ax,lN,cV,ay,gy,jC,Pv.look,cA,el,ew];have hX:nk.wrap ((len:Int)/4)=(q:Nat):=by rw[mB _ Ω];omega
 ((with_reducible repeat' first|refine aj ?_|refine aD me ?_|refine aE me ?_|simp[el,ew,dr,hX,hu,yu,TO,ax,lN,cV,ay,gy,jC,Pv.look,cA]|((first|apply bJ|apply bM|apply bL)<;>intro h<;>try simp at h))<;>(try exact cc));obtain⟨i0,CU⟩:∃i0,i0=a+q*2-1:=⟨_,rfl⟩;rw[<-CU];have Z8:((a:Int)+q*2-1)=(i0:Nat):=Ω
 rw[Z8];have dk:∀(cq:Array α) r k,inObs (jx S cq r) k->cq.size=n->k∈aL.obj 902::c2 (S d.toList):=fun cq r k h e2=>by
  have ei:=H.same d.toList cq.toList av (by simpa using e2);rcases h with h|h
  ·simp only[jx,Pv.look]at h;split at h
   ·rename_i e;subst e;simp
   ·exact oE _ (tY (.inl (by rw[ei.b];exact h)))
  ·exact oE _ (tY (.inr (by rw[ei.e];exact h)))
 have yh:∀(cq:Array α) r,cq.size=n->aP (mr (jx S cq r) 1) [.func g lc,.func b9 b2]:=fun cq r e2=>by
  have J:=H.kdata (lk:=cq.toList) (by simpa using e2);have U:aP (inObs (S cq.toList)) [.func g lc,.func b9 b2]:=by simpa[eY,aG,aP]using J
  refine j9 (fun k ad=>.inl ?_) _ U;rcases ad with ad|ad
  ·refine .inl ?_;simp only[jx,Pv.look];split
   ·rfl
   ·exact ad
  ·exact .inr ad
 have apm:∀(cq:Array α) r D k cs,Pv.look k (jx S cq r).b=some cs->Pv.look k ((.loc 0,D)::(jx S cq r).b)=some cs:=fun cq r D k cs h=>by
  cases k with
  |loc m=>rw[(EX H cq r).obj.1 m]at h;cases h
  |obj m=>simpa[Pv.look]using h
 refine nu (fun(x:Nat×UInt64×Array α)=>⟨[(1,.int .i64 a),(3,.ptr (.loc 0) 0),(6,.int .i64 len),(7,.ptr (.obj 902) 0),(8,.int .u64 M),(9,.int .i64 ((i0+x.1:Nat):Int))],[(.loc 0,[.func g lc,.func b9 b2])]++(jx S x.2.2 x.2.1.toNat).b,(jx S x.2.2 x.2.1.toNat).e,1,aL.obj 902::c2 (S d.toList)⟩) (fun x=>3-x.1)
  (fun x=>x.1<=3/\x.2.2.size=n/\zz a len M i0 d x.1=x.2) (0,UInt64.ofNat len,d) ?_ ⟨Ψ,aN,rfl⟩ ?_
 ·refine Yz (EX H d _) (fun k h=>dk d _ k h aN) (fun k h=>oE _ h) (by simp[aG,inObs,jx,Pv.look,mr]) ?_ ?_ aK
  ·intro x ae;simp only[oF]at ae;subst ae;exact⟨by simp[cV,ay,Pv.look],Vu _ _ _ Ω,yh d _ aN⟩
  ·intro k cs h;simp only[jx,Pv.look]at h;rw[cV];split at h
   ·rename_i e;subst e;rw[gy];have:(UInt64.ofNat len).toNat=len:=by simp;omega
    rw[this]at h;simpa[Pv.look]using h
   ·rw[h]
 rintro⟨k,r,cq⟩ ⟨aU,bp,b1⟩ _;simp only at aU bp b1;have aJ:=r.toNat_lt;obtain⟨x,ae⟩:∃x,x=r.toNat:=⟨_,rfl⟩;rw[<-ae]at aJ⊢;have ha:Sort.xorNextN x<18446744073709551616:=Sort.xorNextN_lt x Ω;have wA:(Sort.xorNext r).toNat=Sort.xorNextN x:=by rw[Sort.xorNext_toNat,<-ae]
 obtain⟨y,aH⟩:∃y,y=Sort.xorNextN x:=⟨_,rfl⟩;have Z2:hv.wrap ((M:Int)-1)=(M-1:Nat):=by simp[sY,nW,rD];omega
 have x9:=ZC y (M-1) Ω Ω;obtain⟨z,bf⟩:∃z,z=y&&& (M-1):=⟨_,rfl⟩;rw[<-bf]at x9;have apA:z<=M-1:=by rw[bf];exact Nat.and_le_right
 have n7:nk.wrap (z:Int)=z:=by rw[mB _ Ω]
 by_cases ae8:k=3
 ·subst ae8;simp[jx,Pv.look,hX];((with_reducible repeat' first|refine aj ?_|simp[hX]|((first|apply bJ|apply bM|apply bL)<;>intro h<;>try simp at h))<;>(try exact cc));refine cO.at (S cq.toList) (.inr rfl) (H.ok _) (H.same _ _ av (by simpa using bp)) (fun k cs h=>?_) (fun _ _ h=>h) ?_
  ·simp only[Pv.look];split
   ·rename_i e;subst e;rw[ay]at h;cases h
   ·split
    ·rename_i e;subst e;rw[gy]at h;cases h
    ·exact h
  ·simp[cT,WB,aW,aY,aV];exact⟨cq,rfl,by rw[b1],bp⟩
 ·have q0:((i0+k:Nat):Int)<=(a:Int)+q*2+1:=Ω
  have Tj:((i0:Int)+k)<=(a:Int)+q*2+1:=Ω
  simp[jx,Pv.look,hX,Tj,q0];(with_reducible repeat' first|refine aj ?_|simp[hX,Tj,q0,Pv.look]);have apu:=H.same d.toList cq.toList av (by simpa using bp);have af3:∀(fO:Array α) (v:List ai),cb [(aL.obj 902,v)] (S fO.toList).b=(S fO.toList).b:=fun fO v=>Ol _ _ fun k x hm=>by
   have:=vm hm;simp only[Pv.look];split
   ·rename_i e;subst e;rw[gy]at this;cases this
   ·rfl
  refine cW.ob (adv x Ω) (IH x) (fun k cs h=>?_) (fun k o h=>by simp[nn,Pv.look]at h) (by simp[aG,aP,inObs,nn,Pv.look]) ?_
  ·simp only[nn,Pv.look]at h⊢;split at h
   ·rename_i e;subst e;simpa using h
   ·cases h
  rintro eM ah ⟨rfl,rfl⟩;refine⟨OG _ _,?_⟩;rw[<-aH];have aa3:cb (nn x).b ((aL.loc 0,[ai.func g lc,ai.func b9 b2])::(aL.obj 902,[ai.int .u64 x])::(S cq.toList).b)=(aL.loc 0,[ai.func g lc,ai.func b9 b2])::(S cq.toList).b:=by simp[nn,cb,Pv.look,af3]
  have aa4:cb (nn x).e (S cq.toList).e=(S cq.toList).e:=Ol _ _ fun _ _ _=>rfl;rw[aa3,aa4,show(nn y).b=[(aL.obj 902,[ai.int .u64 y])]from rfl,show(nn y).e=[]from rfl,List.append_nil];have ao5:∀(v:List ai),Pv.look (.obj 902) ((aL.loc 0,[ai.func g lc,ai.func b9 b2])::((S cq.toList).b++[(aL.obj 902,v)]))=some v:=fun v=>by simp[Pv.look,cV,gy]
  have O7:∀o',o'<len->o'=(if z≥len then z-len else z)->Sort.breakStep a len M (r,cq) (i0+k)=(Sort.xorNext r,Sort.swp cq (i0+k) (a+o')):=fun o' J U=>by unfold Sort.breakStep;simp only[wA,<-aH,<-bf,<-U]
  have RD:((i0:Int)+k)=((i0+k:Nat):Int):=Ω
  simp only[eR,aL.obj.injEq];simp[-BitVec.toNat_and,-BitVec.ofInt_natCast,Z2,x9,n7,Pv.look,H.ssc];by_cases apB:len<=z
  ·have Lg:(len:Int)<=z:=Ω
   have JM:((a:Int)+(z-len))=((a+(z-len):Nat):Int):=Ω
   ((with_reducible repeat' first|refine aj ?_|simp[Lg,Pv.look,H.ssc]|((first|apply bJ|apply bM|apply bL)<;>intro h<;>try simp at h))<;>(try exact cc));rw[JM,RD];refine cW.ob (H.swap cq.toList (by simpa using bp) Ω (i0+k) (a+(z-len)) Ω Ω) (H.ok _) (fun bI cs h=>?_) (fun _ _ h=>h) (by simp[aG,aP,H.ksc cq.toList (by simpa using bp)]) ?_
   ·simp only[Pv.look];split
    ·rename_i e;subst e;rw[ay]at h;cases h
    ·rw[cV,h]
   rintro eM ah ⟨rfl,rfl⟩;refine⟨H.same _ _ (by simpa using bp) (by simpa using bp),?_⟩;rw[GV cq Ω Ω];obtain⟨d2,eQ⟩:∃d2,d2=Sort.swp cq (i0+k) (a+(z-len)):=⟨_,rfl⟩;have s2:d2.size=n:=by rw[eQ,gV,bp]
   rw[<-eQ];have JQ:∀v:List ai,cb (S cq.toList).b ((aL.loc 0,[ai.func g lc,ai.func b9 b2])::((S cq.toList).b++[(aL.obj 902,v)]))=[(aL.loc 0,[ai.func g lc,ai.func b9 b2]),(aL.obj 902,v)]:=fun v=>by simp only[cb,ay];rw[iH,hh];simp[cb,gy]
   dsimp only;rw[JQ,hh];simp;(with_reducible repeat' first|refine aj ?_|simp);have JI:((i0:Int)+k+1)=((i0+(k+1):Nat):Int):=Ω
   rw[JI];refine bQ.whl (k+1,Sort.xorNext r,d2) d7 ⟨by simp;omega,s2,by simp only[zz,b1];rw[O7 (z-len) Ω (by rw[if_pos Ω]),eQ]⟩ ?_;rw[wA,<-aH];refine Yy (EX H d2 y) (fun k h=>dk d2 _ k h s2) (fun k h=>oE _ h) (by simp[aG,inObs,jx,Pv.look,mr]) (by simp[Pv.look]) (yh d2 _ s2) ?_ (fun _ _ h=>h);intro k cs h;simp only[jx,Pv.look]at h⊢;split at h
   ·rename_i e;subst e;simpa using h
   ·rename_i e;split
    ·rename_i aF;subst aF;rw[ay]at h;cases h
    ·exact h
  ·have Lg:¬(len:Int)<=z:=Ω
   have JM:((a:Int)+z)=((a+z:Nat):Int):=Ω
   ((with_reducible repeat' first|refine aj ?_|simp[Lg,Pv.look,H.ssc]|((first|apply bJ|apply bM|apply bL)<;>intro h<;>try simp at h))<;>(try exact cc));rw[JM,RD];refine cW.ob (H.swap cq.toList (by simpa using bp) Ω (i0+k) (a+z) Ω Ω) (H.ok _) (fun bI cs h=>?_) (fun _ _ h=>h) (by simp[aG,aP,H.ksc cq.toList (by simpa using bp)]) ?_
   ·simp only[Pv.look];split
    ·rename_i e;subst e;rw[ay]at h;cases h
    ·rw[cV,h]
   rintro eM ah ⟨rfl,rfl⟩;refine⟨H.same _ _ (by simpa using bp) (by simpa using bp),?_⟩;rw[GV cq Ω Ω];obtain⟨d2,eQ⟩:∃d2,d2=Sort.swp cq (i0+k) (a+z):=⟨_,rfl⟩;have s2:d2.size=n:=by rw[eQ,gV,bp]
   rw[<-eQ];have JQ:∀v:List ai,cb (S cq.toList).b ((aL.loc 0,[ai.func g lc,ai.func b9 b2])::((S cq.toList).b++[(aL.obj 902,v)]))=[(aL.loc 0,[ai.func g lc,ai.func b9 b2]),(aL.obj 902,v)]:=fun v=>by simp only[cb,ay];rw[iH,hh];simp[cb,gy]
   dsimp only;rw[JQ,hh];simp;(with_reducible repeat' first|refine aj ?_|simp);have JI:((i0:Int)+k+1)=((i0+(k+1):Nat):Int):=Ω
   rw[JI];refine bQ.whl (k+1,Sort.xorNext r,d2) d7 ⟨by simp;omega,s2,by simp only[zz,b1];rw[O7 z Ω (by rw[if_neg Ω]),eQ]⟩ ?_;rw[wA,<-aH];refine Yy (EX H d2 y) (fun k h=>dk d2 _ k h s2) (fun k h=>oE _ h) (by simp[aG,inObs,jx,Pv.look,mr]) (by simp[Pv.look]) (yh d2 _ s2) ?_ (fun _ _ h=>h);intro k cs h;simp only[jx,Pv.look]at h⊢;split at h
   ·rename_i e;subst e;simpa using h
   ·rename_i e;split
    ·rename_i aF;subst aF;rw[ay]at h;cases h
    ·exact h
end
section
open Go Go.Pv
variable {α:Type} [Inhabited α] {S:List α->cS} {n g b9:Nat} {lc b2:List ai} {lt:α->α->Bool}
theorem e7.fnD{d d2:Array α}(H:e7 S n g b9 lc b2 lt)(J:d.size=n){f:Nat}{args:List ai}{r:ai}(aR:bH az f args (S d.toList) fun eM ah=>eM=r/\∃cl,ah=S cl.toList/\cl=d2/\cl.size=n)(ad:aP (inObs (S d.toList)) args){t:List (Nat×ai)}{D:List ai}{o:List aL}{cl:Option Nat}{K:bm->Prop}
  (h:d2.size=n->∀o,K ⟨eR cl r t,(.loc 0,D)::(S d2.toList).b,(S d2.toList).e,1,o⟩):cW az f args ⟨t,(.loc 0,D)::(S d.toList).b,(S d.toList).e,1,o⟩ cl K:=
 H.call (by simpa using J) (R:=fun eM a1=>eM=r/\a1=d2.toList/\d2.size=n) (aR.mono fun r ah ⟨ao,cl,aF,bA,dr⟩=>⟨cl.toList,aF,ao,by rw[bA],by rw[<-bA];exact dr⟩) (fun r a1 ⟨_,e,h⟩=>by rw[e];simpa using h) ad (by rintro eM a1 ⟨rfl,rfl,U⟩;exact h U _)
attribute [local simp] pH
def BW(S:List α->cS)(n g b9:Nat)(lc b2:List ai)(lt:α->α->Bool)(m:Nat):Prop:=
 ∀k,k<m->∀(d:Array α),d.size=n->∀a b wW:Nat,b-a<=k->a<=b->b<=n->wW<=1000->Sort.Below lt a b d->
  bH az 170 [eY g b9 lc b2,.int .i64 a,.int .i64 b,.int .i64 wW] (S d.toList) fun r ah=>r= .tuple []/\∃cl,ah=S cl.toList/\Sort.PermIn a b d cl/\Sort.SortedIn lt a b cl
structure xH (S:List α->cS) (n g b9:Nat) (lc b2:List ai) (lt:α->α->Bool) (bj b0 lim:Nat) (d:Array α) (Q:Exit->bm->Prop):Prop where
 k:∀e,e= .normal\/e= .exit 1->∀(a2 ca:Nat) (w v:Bool) (L:Array α) (t:List (Nat×ai)) (o:List aL),L.size=n->a2<=ca->ca<=n->ca-a2<b0-bj->Sort.Below lt a2 ca L->(∀R,Sort.PermIn a2 ca L R->Sort.SortedIn lt a2 ca R->Sort.PermIn bj b0 d R/\Sort.SortedIn lt bj b0 R)->
  Pv.get 1 t= .int .i64 a2->Pv.get 2 t= .int .i64 ca->Pv.get 3 t= .int .i64 lim->Pv.get 4 t= .ptr (.loc 0) 0->Pv.get 8 t= .bool w->Pv.get 9 t= .bool v->Q e ⟨t,(.loc 0,[.func g lc,.func b9 b2])::(S L.toList).b,(S L.toList).e,1,o⟩
 r:∀(R:Array α) t o,Sort.PermIn bj b0 d R->Sort.SortedIn lt bj b0 R->Q .ret ⟨t,(.loc 0,[.func g lc,.func b9 b2])::(S R.toList).b,(S R.toList).e,1,o⟩
theorem xH.mono{bj b0 lim:Nat}{d cl:Array α}{Q:Exit->bm->Prop}(h:xH S n g b9 lc b2 lt bj b0 lim d Q)(p:Sort.PermIn bj b0 d cl):xH S n g b9 lc b2 lt bj b0 lim cl Q:=⟨fun e he a2 ca w v L t o ao aF bA dr hX hY=>h.k e he a2 ca w v L t o ao aF bA dr hX fun R eU fP=>⟨Sort.permIn_trans _ _ _ bj b0 p (hY R eU fP).1,(hY R eU fP).2⟩,fun R t o eU fP=>h.r R t o (Sort.permIn_trans _ _ _ bj b0 p eU) fP⟩
structure zu (t:List (Nat×ai)) (bj b0 lim:Nat):Prop where
 t1:Pv.get 1 t= .int .i64 bj
 t2:Pv.get 2 t= .int .i64 b0
 t3:Pv.get 3 t= .int .i64 lim
 t4:Pv.get 4 t= .ptr (.loc 0) 0
 t10:Pv.get 10 t= .int .i64 ((b0:Int)-bj)
section
variable {bj b0 lim:Nat} {cP:Array α} {t:List (Nat×ai)} {o:List aL} {ob:List aL} {Q:Exit->bm->Prop}
theorem V0(H:e7 S n g b9 lc b2 lt)(bs:Sort.SWO lt)(bU:BW S n g b9 lc b2 lt (b0-bj)){pv:Nat}(T:zu t bj b0 lim)(t11:Pv.get 11 t= .int .i64 pv)(sa:lim<=1000)(o6:cP.size=n)(qi:bj<=pv/\pv<b0)(b1:b0<=n)(tp:12<b0-bj)(uo:Sort.Below lt bj b0 cP)(ia:xH S n g b9 lc b2 lt bj b0 lim cP Q):
  c3 az ob Ji Q ⟨t,(.loc 0,[.func g lc,.func b9 b2])::(S cP.toList).b,(S cP.toList).e,1,o⟩:=by
 obtain⟨t1,t2,t3,t4,t10⟩:=T;have mP:∀fO:Array α,fO.size=n->aG (inObs (S fO.toList)) (eY g b9 lc b2):=fun fO h=>H.kdata (lk:=fO.toList) (by simpa using h);have hle:=H.le;unfold Ji;simp[t1,t2,t4,t11,Pv.look,H.slc,H.ssc];simp only[ix H,H.slc,H.ssc,iq];have q9:=adQ H cP o6 bj b0 pv qi.1 qi.2 Ω b1;have bF:Sort.partition lt cP bj b0 pv=((Sort.partition lt cP bj b0 pv).1,(Sort.partition lt cP bj b0 pv).2.1,(Sort.partition lt cP bj b0 pv).2.2):=rfl;generalize (Sort.partition lt cP bj b0 pv).1=mid at q9 bF;generalize (Sort.partition lt cP bj b0 pv).2.1=ap at q9 bF;generalize (Sort.partition lt cP bj b0 pv).2.2=d4 at q9 bF;obtain⟨g1,g2,g3,g4,g5,g6,g7⟩:=Sort.round_part bs (Sort.partition_holds lt) qi.1 qi.2 Ω uo bF;refine H.fnD o6 q9 (by simp[aG,aP,mP cP o6]) fun s4 o=>?_;have em:((mid:Int)+1)=(mid+1:Nat):=Ω
 simp[t1,t2,t3,t4,t10];by_cases apn:mid-bj<b0-mid
 ·have KM:(mid:Int)-bj<b0-mid:=Ω
  (with_reducible repeat' first|refine aj ?_|simp[KM,Pv.look,t1,t2,t3,t4,t10]);simp only[ix H,H.slc,H.ssc,iq];refine H.doFn (lk:=d4.toList) (by simpa using s4) (R:=fun a1=> ∃L:Array α,a1=L.toList/\Sort.PermIn bj mid d4 L/\Sort.SortedIn lt bj mid L) ((bU (mid-bj) Ω d4 s4 bj mid lim (eX _) g1 Ω sa g4).mono fun r ah ⟨a6,cl,bD,bY,c5⟩=>⟨a6,cl.toList,bD,cl,rfl,bY,c5⟩) (by rintro a1 ⟨L,rfl,q,_⟩;simpa using q.1.trans s4) (by simp[aP,aG,mP d4 s4]) ?_;rintro a1 ⟨L,rfl,c0,du⟩;obtain⟨kW,pc⟩:=g6 L c0 du;simp;(with_reducible repeat' first|refine aj ?_|simp[t1,t2,t3,t4]);rw[em];exact ia.k _ (.inl rfl) (mid+1) b0 _ ap L _ _ (c0.1.trans s4) Ω b1 Ω kW pc Ψ (by simp[t2]) (by simp[t3]) (by simp[t4]) (by simp;rfl) Ψ
 ·have KM:¬(mid:Int)-bj<b0-mid:=Ω
  (with_reducible repeat' first|refine aj ?_|simp[KM,Pv.look,t1,t2,t3,t4,t10]);simp only[ix H,H.slc,H.ssc,iq];rw[em];refine H.doFn (lk:=d4.toList) (by simpa using s4) (R:=fun a1=> ∃L:Array α,a1=L.toList/\Sort.PermIn (mid+1) b0 d4 L/\Sort.SortedIn lt (mid+1) b0 L) ((bU (b0-(mid+1)) Ω d4 s4 (mid+1) b0 lim (eX _) Ω b1 sa g5).mono fun r ah ⟨a6,cl,bD,bY,c5⟩=>⟨a6,cl.toList,bD,cl,rfl,bY,c5⟩) (by rintro a1 ⟨L,rfl,q,_⟩;simpa using q.1.trans s4) (by simp[aP,aG,mP d4 s4]) ?_;rintro a1 ⟨L,rfl,c0,du⟩;obtain⟨kW,pc⟩:=g7 L c0 du;simp;(with_reducible repeat' first|refine aj ?_|simp[t1,t2,t3,t4]);exact ia.k _ (.inl rfl) bj mid _ ap L _ _ (c0.1.trans s4) g1 Ω Ω kW pc (by simp[t1]) Ψ (by simp[t3]) (by simp[t4]) (by simp;rfl) Ψ
theorem ajT(H:e7 S n g b9 lc b2 lt)(bs:Sort.SWO lt)(bU:BW S n g b9 lc b2 lt (b0-bj)){pv:Nat}(T:zu t bj b0 lim)(t11:Pv.get 11 t= .int .i64 pv){w v:Bool}(t8:Pv.get 8 t= .bool w)(t9:Pv.get 9 t= .bool v)(sa:lim<=1000)(o6:cP.size=n)(qi:bj<=pv/\pv<b0)(b1:b0<=n)(tp:12<b0-bj)(uo:Sort.Below lt bj b0 cP)(ia:xH S n g b9 lc b2 lt bj b0 lim cP Q):
  c3 az ob Cb Q ⟨t,(.loc 0,[.func g lc,.func b9 b2])::(S cP.toList).b,(S cP.toList).e,1,o⟩:=by
 obtain⟨t1,t2,t3,t4,t10⟩:=id T;have hle:=H.le;unfold Cb;by_cases ts:0<bj
 ·have Kr:(0:Int)<bj:=Ω
  simp[t1,t2,t4,t11,ts,Kr,Pv.look,H.slc,H.ssc];(with_reducible repeat' first|refine aj ?_|simp[t1,t2,t4,t11,ts,Kr,Pv.look,H.slc,H.ssc]);rw[show((bj:Int)-1)=((bj-1:Nat):Int) by omega];refine H.lessA o6 (bj-1) pv Ω Ω fun o=>?_;cases jV:lt cP[bj-1]! cP[pv]!
  ·simp;(with_reducible repeat' first|refine aj ?_|simp[Pv.look,H.slc,H.ssc,t1,t2,t4,t11]);simp only[ix H,H.slc,H.ssc,iq];have q9:=adR H cP o6 bj b0 pv qi.1 qi.2 Ω b1;have bF:Sort.partitionEqual lt cP bj b0 pv=((Sort.partitionEqual lt cP bj b0 pv).1,(Sort.partitionEqual lt cP bj b0 pv).2):=rfl;generalize (Sort.partitionEqual lt cP bj b0 pv).1=mid at q9 bF;generalize (Sort.partitionEqual lt cP bj b0 pv).2=d4 at q9 bF;obtain⟨g1,g2,g3,g4,g5⟩:=Sort.round_eq bs (Sort.partitionEqual_holds lt) ts qi.1 qi.2 Ω uo jV bF;refine H.fnD o6 q9 (by simp[aG,aP,H.kdata (lk:=cP.toList) (by simpa using o6)]) fun s4 o=>?_;simp[t1,t2,t3,t4];exact ia.k _ (.inr rfl) mid b0 w v d4 _ _ s4 g2 b1 Ω g4 g5 Ψ (by simp[t2]) (by simp[t3]) (by simp[t4]) (by simp[t8]) (by simp[t9])
  ·simp;exact V0 H bs bU ⟨by simp[t1],by simp[t2],by simp[t3],by simp[t4],by simp[t10]⟩ (by simp[t11]) sa o6 qi b1 tp uo ia
 ·have Kr:¬(0:Int)<bj:=Ω
  simp[t1,ts];exact V0 H bs bU ⟨by simp[t1],by simp[t2],by simp[t3],by simp[t4],by simp[t10]⟩ (by simp[t11]) sa o6 qi b1 tp uo ia
theorem Mx(H:e7 S n g b9 lc b2 lt)(bs:Sort.SWO lt)(bU:BW S n g b9 lc b2 lt (b0-bj)){pv:Nat}(T:zu t bj b0 lim)(t11:Pv.get 11 t= .int .i64 pv){h:Nat}(t12:Pv.get 12 t= .int .i64 h){w v:Bool}(t8:Pv.get 8 t= .bool w)(t9:Pv.get 9 t= .bool v)(sa:lim<=1000)(o6:cP.size=n)(qi:bj<=pv/\pv<b0)(b1:b0<=n)(tp:12<b0-bj)(uo:Sort.Below lt bj b0 cP)(ia:xH S n g b9 lc b2 lt bj b0 lim cP Q):
  c3 az ob Jj Q ⟨t,(.loc 0,[.func g lc,.func b9 b2])::(S cP.toList).b,(S cP.toList).e,1,o⟩:=by
 obtain⟨t1,t2,t3,t4,t10⟩:=id T;have hle:=H.le;unfold Jj;have next:∀{d5:Array α} {t o},zu t bj b0 lim->Pv.get 11 t= .int .i64 pv->Pv.get 8 t= .bool w->Pv.get 9 t= .bool v->d5.size=n->Sort.Below lt bj b0 d5->Sort.PermIn bj b0 cP d5->c3 az ob Cb Q ⟨t,(.loc 0,[.func g lc,.func b9 b2])::(S d5.toList).b,(S d5.toList).e,1,o⟩:=fun ao aF bA dr hX hY rL=>ajT H bs bU ao aF bA dr sa hX qi b1 tp hY (ia.mono rL)
 have skip:∀{t o},zu t bj b0 lim->Pv.get 11 t= .int .i64 pv->Pv.get 8 t= .bool w->Pv.get 9 t= .bool v->c3 az ob Cb Q ⟨t,(.loc 0,[.func g lc,.func b9 b2])::(S cP.toList).b,(S cP.toList).e,1,o⟩:=fun ao aF bA dr=>next ao aF bA dr o6 uo (Sort.permIn_refl _ _ _)
 by_cases aq:(w=true/\v=true)/\h=1
 ·obtain⟨⟨rfl,rfl⟩,rfl⟩:=aq;simp[t1,t2,t4,t8,t9,t12,Pv.look,H.slc,H.ssc];simp only[ix H,H.slc,H.ssc,iq];have q9:=adP H cP o6 bj b0 Ω b1 Ω;have bF:=Sort.partialInsertionSort_holds bs cP bj b0 Ω Ω uo;generalize (Sort.partialInsertionSort lt cP bj b0).1=d5 at q9 bF;generalize (Sort.partialInsertionSort lt cP bj b0).2=ok at q9 bF;refine H.fnD o6 q9 (by simp[aG,aP,H.kdata (lk:=cP.toList) (by simpa using o6)]) fun ale o=>?_;cases ok
  ·simp;exact next ⟨by simp[t1],by simp[t2],by simp[t3],by simp[t4],by simp[t10]⟩ (by simp[t11]) (by simp[t8]) (by simp[t9]) ale (uo.perm Ω bF.1) bF.1
  ·simp;exact ia.r _ _ _ bF.1 (bF.2 rfl)
 ·cases w
  ·simp[t8,t9,t12];exact skip ⟨by simp[t1],by simp[t2],by simp[t3],by simp[t4],by simp[t10]⟩ (by simp[t11]) (by simp[t8]) (by simp[t9])
  ·cases v
   ·simp[t8,t9,t12];exact skip ⟨by simp[t1],by simp[t2],by simp[t3],by simp[t4],by simp[t10]⟩ (by simp[t11]) (by simp[t8]) (by simp[t9])
   ·have J:((h:Int)==1)=false:=by simp at aq⊢;omega
    simp[t8,t9,t12,J];exact skip ⟨by simp[t1],by simp[t2],by simp[t3],by simp[t4],by simp[t10]⟩ (by simp[t11]) (by simp[t8]) (by simp[t9])
theorem V1(H:e7 S n g b9 lc b2 lt)(gy:sx S 901)(bs:Sort.SWO lt)(bU:BW S n g b9 lc b2 lt (b0-bj))(T:zu t bj b0 lim){w v:Bool}(t8:Pv.get 8 t= .bool w)(t9:Pv.get 9 t= .bool v)(sa:lim<=1000)(s1:cP.size=n)(b1:b0<=n)(tp:12<b0-bj)(Ix:Sort.Below lt bj b0 cP)(ia:xH S n g b9 lc b2 lt bj b0 lim cP Q):
  c3 az ob Jk Q ⟨t,(.loc 0,[.func g lc,.func b9 b2])::(S cP.toList).b,(S cP.toList).e,1,o⟩:=by
 obtain⟨t1,t2,t3,t4,t10⟩:=id T;have hle:=H.le;have mP:∀fO:Array α,fO.size=n->aG (inObs (S fO.toList)) (eY g b9 lc b2):=fun fO h=>H.kdata (lk:=fO.toList) (by simpa using h);unfold Jk;simp[t1,t2,t4,Pv.look,H.slc,H.ssc];simp only[ix H,H.slc,H.ssc,iq];have uT:=Sort.choosePivot_holds lt cP bj b0 Ω;have Lt:=adB H gy cP s1 bj b0 Ω b1;generalize Sort.choosePivot lt cP bj b0=Jx at Lt uT;obtain⟨p,hint⟩:=Jx;simp only at Lt uT;refine H.fnA s1 s1 Lt (by simp[aG,aP,mP cP s1]) fun o=>?_;cases hint
 ·simp[Aj];exact Mx H bs bU ⟨by simp[t1],by simp[t2],by simp[t3],by simp[t4],by simp[t10]⟩ (pv:=p) Ψ (h:=0) Ψ (w:=w) (v:=v) (by simp[t8]) (by simp[t9]) sa s1 uT b1 tp Ix ia
 ·simp[Aj];exact Mx H bs bU ⟨by simp[t1],by simp[t2],by simp[t3],by simp[t4],by simp[t10]⟩ (pv:=p) Ψ (h:=1) Ψ (w:=w) (v:=v) (by simp[t8]) (by simp[t9]) sa s1 uT b1 tp Ix ia
 ·simp[Aj,t1,t2,t4,Pv.look,H.slc,H.ssc];simp only[ix H,H.slc,H.ssc,iq];refine H.fnD s1 (adW H cP s1 bj b0 Ω b1 Ω) (by simp[aG,aP,mP cP s1]) fun s2 o=>?_;have aJ:=Sort.reverseRange_holds cP bj b0 Ω Ω;have RG:((b0:Int)-1-(p-bj))=((b0-1)-(p-bj):Nat):=Ω
  simp[t1,t2,RG];(with_reducible repeat' first|refine aj ?_|simp[RG,t1,t2]);exact Mx H bs bU ⟨by simp[t1],by simp[t2],by simp[t3],by simp[t4],by simp[t10]⟩ (pv:=(b0-1)-(p-bj)) Ψ (h:=1) Ψ (w:=w) (v:=v) (by simp[t8]) (by simp[t9]) sa s2 Ω b1 tp (Ix.perm Ω aJ) (ia.mono aJ)
end
theorem adS(H:e7 S n g b9 lc b2 lt)(gy:sx S 901)(jC:sx S 902)(bs:Sort.SWO lt)(m:Nat):∀(d:Array α) (aN:d.size=n) (a b wW:Nat) (hm:b-a<=m) (nA:a<=b) (ab:b<=n) (ir:wW<=1000) (CI:Sort.Below lt a b d),
  bH az 170 [eY g b9 lc b2,.int .i64 a,.int .i64 b,.int .i64 wW] (S d.toList) fun r ah=>r= .tuple []/\∃cl,ah=S cl.toList/\Sort.PermIn a b d cl/\Sort.SortedIn lt a b cl:=by
 induction m using rF with
 |ind m bU=>
 intro d aN a b wW hm nA ab ir CI;have ag:=H.ok d.toList;have av:d.toList.length=n:=by simpa using aN
 have ay:∀l m,Pv.look (.loc m) (S l).b=none:=fun l=>(H.ok l).obj.1;have hu:∀l m cs,cA (.loc m) cs (S l).b=(S l).b++[(.loc m,cs)]:=fun l m cs=>kk (ay l m);have ax:∀m,aL.loc m∉c2 (S d.toList):=kf ag.obj;have hle:=H.le;refine bH.mk mixed oy acf aiV Ψ ag.obj fun aT cI=>?_;unfold Qo;simp[eY,hu,ax,cV,ay];refine H.loopA av [4] (fun(x:((Nat×Nat×Nat)×Bool×Bool)×Array α)=>[(1,.int .i64 x.1.1.1),(2,.int .i64 x.1.1.2.1),(3,.int .i64 x.1.1.2.2),(8,.bool x.1.2.1),(9,.bool x.1.2.2)]) (·.2) (fun x=>x.1.1.2.1-x.1.1.1) (fun x=>x.2.size=n/\(x.1.1.1<=x.1.1.2.1/\x.1.1.2.1<=n/\x.1.1.2.1-x.1.1.1<=m/\x.1.1.2.2<=1000)/\Sort.Below lt x.1.1.1 x.1.1.2.1 x.2/\∀R,Sort.PermIn x.1.1.1 x.1.1.2.1 x.2 R->Sort.SortedIn lt x.1.1.1 x.1.1.2.1 R->Sort.PermIn a b d R/\Sort.SortedIn lt a b R)
  (((a,b,wW),true,true),d) aN ⟨aN,⟨nA,ab,hm,ir⟩,CI,fun R J U=>⟨J,U⟩⟩ (by simp[cV,ay]) aK aK d6 ?_
 rintro⟨⟨⟨bj,b0,vl⟩,anp,wp⟩,cq⟩ ⟨aU,⟨bp,b1,fT,df⟩,Ls,GD⟩;simp only at aU bp b1 fT df Ls GD;have mP:∀fO:Array α,fO.size=n->aG (inObs (S fO.toList)) (eY g b9 lc b2):=fun fO h=>H.kdata (lk:=fO.toList) (by simpa using h);have HY:∀(R:Array α) t o,Sort.PermIn bj b0 cq R->Sort.SortedIn lt bj b0 R->cO WG (S d.toList) (fun r ah=>r= .tuple []/\∃cl,ah=S cl.toList/\Sort.PermIn a b d cl/\Sort.SortedIn lt a b cl) .ret ⟨t,(.loc 0,[.func g lc,.func b9 b2])::(S R.toList).b,(S R.toList).e,1,o⟩:=fun R t o J U=>by refine H.retA av (by rw[J.1];exact aU) (.inl rfl) ⟨rfl,R,rfl,GD R J U⟩
 simp;by_cases tp:b0-bj<=12
 ·have CA:(b0:Int)-bj<=12:=Ω
  (with_reducible repeat' first|refine aj ?_|simp[CA,Pv.look,H.slc,H.ssc]);simp only[ix H,H.slc,H.ssc,iq];refine H.fnD aU (adE H cq aU bj b0 bp b1) (by simp[aG,aP,mP cq aU]) fun s2 o=>?_;obtain⟨a6,bD⟩:=Sort.insertionSort_holds bs cq bj b0 bp Ω;simp;exact HY _ _ _ a6 bD
 have CA:¬(b0:Int)-bj<=12:=Ω
 by_cases Al:vl=0
 ·have Ga:(((vl:Nat):Int)==0)=true:=by simp[Al]
  (with_reducible repeat' first|refine aj ?_|simp[CA,Ga,Pv.look,H.slc,H.ssc]);simp only[ix H,H.slc,H.ssc,iq];refine H.fnD aU (adD H cq aU bj b0 bp b1 Ω) (by simp[aG,aP,mP cq aU]) fun s2 o=>?_;obtain⟨a6,bD⟩:=Sort.heapSort_holds bs cq bj b0 bp Ω;simp;exact HY _ _ _ a6 bD
 have Ga:(((vl:Nat):Int)==0)=false:=by simp[Al]
 have Dg:BW S n g b9 lc b2 lt (b0-bj):=fun k ad=>bU k Ω;cases anp
 ·(with_reducible repeat' first|refine aj ?_|simp[CA,Ga,Pv.look,H.slc,H.ssc]);simp only[ix H,H.slc,H.ssc,iq];refine H.fnD aU (adA H jC cq aU bj b0 bp b1 Ω) (by simp[aG,aP,mP cq aU]) fun s1 o=>?_;have ER:=Sort.breakPatterns_holds cq bj b0 bp Ω;generalize Sort.breakPatterns cq bj b0=d1 at s1 ER;have el:((vl:Int)-1)=(vl-1:Nat):=Ω
  simp[el];(with_reducible repeat' first|refine aj ?_|simp[el,Pv.look]);refine V1 (lim:=vl-1) H gy bs Dg ⟨Ψ,Ψ,Ψ,Ψ,Ψ⟩ (w:=false) (v:=wp) Ψ Ψ Ω s1 b1 Ω (Ls.perm Ω ER) ⟨?_,fun R t o eU fP=>?_⟩
  ·rintro e he a2 ca w v L t o ao aF bA dr hX hY t1 t2 t3 t4 t8 t9;rcases he with rfl|rfl<;>simp<;>exact bQ.whl (((a2,ca,vl-1),w,v),L) d7 ⟨ao,⟨aF,bA,by simp;omega,by simp;omega⟩,hX,fun R eU fP=>GD R (Sort.permIn_trans _ _ _ bj b0 ER (hY R eU fP).1) (hY R eU fP).2⟩ (H.weakC av (by simpa using ao) (by simp[aG,t1,t2,t3,t4,t8,t9]))
  ·simpa using HY R t o (Sort.permIn_trans _ _ _ bj b0 ER eU) fP
 ·(with_reducible repeat' first|refine aj ?_|simp[CA,Ga,Pv.look,H.slc,H.ssc]);refine V1 (lim:=vl) H gy bs Dg ⟨Ψ,Ψ,Ψ,Ψ,Ψ⟩ (w:=true) (v:=wp) Ψ Ψ df aU b1 Ω Ls ⟨?_,fun R t o eU fP=>?_⟩
  ·rintro e he a2 ca w v L t o ao aF bA dr hX hY t1 t2 t3 t4 t8 t9;rcases he with rfl|rfl<;>simp<;>exact bQ.whl (((a2,ca,vl),w,v),L) d7 ⟨ao,⟨aF,bA,by simp;omega,df⟩,hX,fun R eU fP=>GD R (hY R eU fP).1 (hY R eU fP).2⟩ (H.weakC av (by simpa using ao) (by simp[aG,t1,t2,t3,t4,t8,t9]))
  ·simpa using HY R t o eU fP
end
section
open Go Go.Pv
variable {α:Type} {S:List α->cS} {n g b9:Nat} {lc b2:List ai} {lt:α->α->Bool}
theorem ahm(bs:qJ lt){l lk:List α}{a b i:Nat}(nB:a+1<=i)(Ai:i<=b)(ab:b<=l.length)(ag:fe lt (a+1) b l){z:α}(bf:l[a]? =some z)(CW:∀h x,a+1<=h->h<i->l[h]? =some x->lt x z=true)(CT:∀h x,i<=h->h<b->l[h]? =some x->lt x z=false)
  (aJ:∀k,lk[k]? =l[h6 a (a+1) i k]?):fe lt a b lk:=by
 intro p q x y bK kJ bF ae aH;rw[aJ]at ae aH;simp only[h6]at ae aH;rw[if_neg Ω]at ae aH;by_cases a6:q<i-1
 ·rw[if_pos Ω]at ae aH;exact ag _ _ _ _ Ω Ω Ω ae aH
 ·rw[if_neg Ω]at aH;by_cases bD:q<i
  ·rw[if_pos bD,show q-(i-(a+1))=a by omega,bf]at aH;cases aH;rw[if_pos Ω]at ae;exact bs.asym _ _ (CW _ _ Ω Ω ae)
  ·rw[if_neg bD]at aH;by_cases c0:p<i-1
   ·rw[if_pos Ω]at ae;exact ag _ _ _ _ Ω Ω Ω ae aH
   ·rw[if_neg Ω]at ae;by_cases du:p<i
    ·rw[if_pos du,show p-(i-(a+1))=a by omega,bf]at ae;cases ae;exact CT _ _ Ω bF aH
    ·rw[if_neg du]at ae;exact ag _ _ _ _ Ω Ω bF ae aH
theorem ahn(bs:qJ lt){l lk:List α}{a m i:Nat}(nB:a<=i)(apk:i<=m)(ab:m+1<=l.length)(ag:fe lt a m l){z:α}(bf:l[m]? =some z)(CW:∀h x,a<=h->h<i->l[h]? =some x->lt z x=false)(CT:∀h x,i<=h->h<m->l[h]? =some x->lt z x=true)
  (aJ:∀k,lk[k]? =l[h6 i m (m+1) k]?):fe lt a (m+1) lk:=by
 intro p q x y bK kJ bF ae aH;rw[aJ]at ae aH;simp only[h6]at ae aH;by_cases a6:q<i
 ·rw[if_pos Ω]at ae aH;exact ag _ _ _ _ bK kJ Ω ae aH
 ·rw[if_neg a6]at aH;by_cases bD:q=i
  ·rw[if_pos Ω,show q+(m-i)=m by omega,bf]at aH;cases aH;rw[if_pos Ω]at ae;exact CW _ _ bK Ω ae
  ·rw[if_neg Ω,if_pos Ω]at aH;by_cases c0:p<i
   ·rw[if_pos c0]at ae;exact ag _ _ _ _ bK Ω Ω ae aH
   ·rw[if_neg c0]at ae;by_cases du:p=i
    ·rw[if_pos Ω,show p+(m-i)=m by omega,bf]at ae;cases ae;exact bs.asym _ _ (CT _ _ Ω Ω aH)
    ·rw[if_neg Ω,if_pos Ω]at ae;exact ag _ _ _ _ Ω Ω Ω ae aH
structure EP (lt:α->α->Bool) (a s m e b mid:Nat) (lk:List α):Prop where
 s1:fe lt a s lk
 s2:fe lt s mid lk
 s3:fe lt mid e lk
 s4:fe lt e b lk
 cross:∀p q x y,a<=p->p<mid->mid<=q->q<b->lk[p]? =some x->lk[q]? =some y->lt y x=false
theorem fe.le(bs:qJ lt){a b:Nat}{l:List α}(h:fe lt a b l){i j:Nat}{x y:α}(J:a<=i)(U:i<=j)(ar:j<b)(ae:l[i]? =some x)(aH:l[j]? =some y):lt y x=false:=by
 by_cases e:i=j
 ·subst e;rw[ae]at aH;cases aH;cases TS:lt x x with
  |false=>rfl
  |true=>have:=bs.asym _ _ TS;rw[TS]at this;exact this
 ·exact h _ _ _ _ J Ω ar ae aH
theorem ahu(bs:qJ lt){l lk:List α}{a m b mid s e:Nat}(has:a<=s)(ei:s<=m)(apq:m<=e)(aph:e<=b)(ab:b<=l.length)(lP:s+e=mid+m)(J:fe lt a m l)(U:fe lt m b l)
  (bT:s=a\/e=b\/ ∃x y,l[s-1]? =some x/\l[e]? =some y/\lt y x=false) (cx:s=m\/e=m\/ ∃x y,l[s]? =some x/\l[e-1]? =some y/\lt y x=true) (aJ:∀k,lk[k]? =l[h6 s m e k]?):EP lt a s m e b mid lk:=by
 have g1:∀p,p<s->lk[p]? =l[p]?:=fun p bK=>by rw[aJ];simp[h6,bK]
 have g2:∀p,s<=p->p<mid->lk[p]? =l[p+(m-s)]?:=fun p ar a8=>by rw[aJ];simp only[h6];rw[if_neg Ω,if_pos Ω]
 have g3:∀p,mid<=p->p<e->lk[p]? =l[p-(e-m)]?:=fun p ar a8=>by rw[aJ];simp only[h6];rw[if_neg Ω,if_neg Ω,if_pos Ω]
 have g4:∀p,e<=p->lk[p]? =l[p]?:=fun p ar=>by
  rw[aJ];simp only[h6];rw[if_neg Ω];by_cases b8:p<s+(e-m)
  ·omega
  ·rw[if_neg b8,if_neg Ω]
 refine⟨fun p q x y bK kJ bF ae aH=>?_,fun p q x y bK kJ bF ae aH=>?_,fun p q x y bK kJ bF ae aH=>?_,fun p q x y bK kJ bF ae aH=>?_,fun p q x y bK afE bF KX ae aH=>?_⟩
 ·rw[g1 _ Ω]at ae aH;exact J _ _ _ _ bK kJ Ω ae aH
 ·rw[g2 _ Ω Ω]at ae aH;exact U _ _ _ _ Ω Ω Ω ae aH
 ·rw[g3 _ Ω Ω]at ae aH;exact J _ _ _ _ Ω Ω Ω ae aH
 ·rw[g4 _ Ω]at ae aH;exact U _ _ _ _ Ω Ω Ω ae aH
 ·by_cases c0:p<s
  ·rw[g1 _ c0]at ae;by_cases a6:q<e
   ·rw[g3 _ bF a6]at aH;exact J _ _ _ _ bK Ω Ω ae aH
   ·rw[g4 _ Ω]at aH;rcases bT with bT|bT|⟨u,v,aU,bp,b1⟩
    ·omega
    ·omega
    ·exact bs.ntr _ _ _ (bs.ntr _ _ _ (fe.le bs J bK Ω Ω ae aU) b1) (fe.le bs U Ω Ω KX bp aH)
  ·rw[g2 _ Ω afE]at ae;by_cases a6:q<e
   ·rw[g3 _ bF a6]at aH;rcases cx with cx|cx|⟨u,v,aU,bp,b1⟩
    ·omega
    ·omega
    ·exact bs.ntr _ _ _ (bs.ntr _ _ _ (fe.le bs U Ω Ω Ω ae bp) (bs.asym _ _ b1)) (fe.le bs J Ω Ω Ω aU aH)
   ·rw[g4 _ Ω]at aH;exact U _ _ _ _ Ω Ω KX ae aH
theorem ahv{a mid b:Nat}(CH:a<=mid){lk ka hd:List α}(J:gu a mid lk ka)(s1:fe lt a mid ka)(U:gu mid b ka hd)(s2:fe lt mid b hd)(ZT:∀p q x y,a<=p->p<mid->mid<=q->q<b->lk[p]? =some x->lk[q]? =some y->lt y x=false):fe lt a b hd:=by
 intro p q x y bK kJ bF ae aH;by_cases ar:q<mid
 ·rw[U.out _ (.inl Ω)]at ae;rw[U.out _ (.inl Ω)]at aH;exact s1 _ _ _ _ bK kJ ar ae aH
 ·by_cases a8:mid<=p
  ·exact s2 _ _ _ _ a8 kJ bF ae aH
  ·rw[U.out _ (.inl Ω)]at ae;refine U.all (fun y=>lt y x=false) (fun k y gy jC aH=>?_) q y Ω bF aH;rw[J.out _ (.inr gy)]at aH;exact J.all (fun x=>lt y x=false) (fun bI x ae6 ae7 ae=>ZT bI k x y ae6 ae7 gy jC ae aH) p x bK Ω ae
end
section
open Go Go.Pv
variable {α:Type} {S:List α->cS} {n g b9:Nat} {lc b2:List ai} {lt:α->α->Bool}
def alZ(lt:α->α->Bool)(l:List α)(mid m s0 r0:Nat)(x:Nat×Nat):Prop:=s0<=x.1/\x.1<=x.2/\x.2<=r0/\(x.1=s0\/ ∃u v,l[x.1-1]? =some u/\l[mid+m-x.1]? =some v/\lt v u=false)/\(x.2=r0\/ ∃u v,l[x.2]? =some u/\l[mid+m-x.2-1]? =some v/\lt v u=true)
attribute [local simp] pH
def EY(S:List α->cS)(n g b9:Nat)(lc b2:List ai)(lt:α->α->Bool)(d:Nat):Prop:=
 ∀(l:List α) (a m b:Nat),l.length=n->b-a<=d->a<m->m<b->b<=n->fe lt a m l->fe lt m b l->
  bH az 188 [eY g b9 lc b2,.int .i64 a,.int .i64 m,.int .i64 b] (S l) fun r ah=>r= .tuple []/\∃a1,ah=S a1/\gu a b l a1/\fe lt a b a1
def EZ(S:List α->cS)(g b9:Nat)(lc b2:List ai)(lt:α->α->Bool)(a b:Nat)(l:List α)(Q:Exit->bm->Prop):Prop:=∀hd t o,gu a b l hd->fe lt a b hd->Q .normal ⟨t,(.loc 0,[.func g lc,.func b9 b2])::(S hd).b,(S hd).e,1,o⟩
section
variable {a m b mid i e d:Nat} {l:List α} {t:List (Nat×ai)} {o:List aL} {ob:List aL} {Q:Exit->bm->Prop}
theorem alE(H:e7 S n g b9 lc b2 lt)(bU:EY S n g b9 lc b2 lt d)(t3:Pv.get 3 t= .int .i64 b)(t4:Pv.get 4 t= .ptr (.loc 0) 0)(t16:Pv.get 16 t= .int .i64 mid)(t22:Pv.get 22 t= .int .i64 e)(av:l.length=n)(J:mid<=e)(U:e<=b)(ab:b<=n)(aN:b-mid<=d)(TG:fe lt mid e l)(TH:fe lt e b l)(ia:EZ S g b9 lc b2 lt mid b l Q):
  c3 az ob Fj Q ⟨t,(.loc 0,[.func g lc,.func b9 b2])::(S l).b,(S l).e,1,o⟩:=by
 unfold Fj;by_cases j5:mid<e/\e<b
 ·simp[t3,t4,t16,t22,j5.1,j5.2,Pv.look];simp only[ix H,H.slc,H.ssc,iq];refine H.doFn av (bU l mid e b av aN j5.1 j5.2 ab TG TH) (fun a1 h=>by rw[h.1.length];exact av) (by simp[aP,aG,H.kdata av]) ?_;rintro hd ⟨la,z2⟩;simp;exact ia _ _ _ la z2
 ·have qk:fe lt mid b l:=by
   by_cases nC:mid<e
   ·rwa[show e=b by omega]at TG
   ·rwa[show e=mid by omega]at TH
  by_cases nC:mid<e
  ·have aex:¬e<b:=Ω
   simp[t3,t16,t22,nC,aex];exact ia _ _ _ (.refl _) qk
  ·simp[t16,t22,nC];exact ia _ _ _ (.refl _) qk
theorem alF(H:e7 S n g b9 lc b2 lt)(bU:EY S n g b9 lc b2 lt d)(t1:Pv.get 1 t= .int .i64 a)(t3:Pv.get 3 t= .int .i64 b)(t4:Pv.get 4 t= .ptr (.loc 0) 0)(t16:Pv.get 16 t= .int .i64 mid)(t18:Pv.get 18 t= .int .i64 i)(t22:Pv.get 22 t= .int .i64 e)(av:l.length=n)(bE:a<=i/\i<=mid/\a<=m)(J:mid<=e)(U:e<=b)(ab:b<=n)(aN:b-mid<=d)(lp:mid-a<=d)(gJ:EP lt a i m e b mid l)(ia:EZ S g b9 lc b2 lt a b l Q):
  c3 az ob Fk Q ⟨t,(.loc 0,[.func g lc,.func b9 b2])::(S l).b,(S l).e,1,o⟩:=by
 unfold Fk;have next:∀{ka t o},Pv.get 3 t= .int .i64 b->Pv.get 4 t= .ptr (.loc 0) 0->Pv.get 16 t= .int .i64 mid->Pv.get 22 t= .int .i64 e->ka.length=n->gu a mid l ka->fe lt a mid ka->c3 az ob Fj Q ⟨t,(.loc 0,[.func g lc,.func b9 b2])::(S ka).b,(S ka).e,1,o⟩:=fun ao aF bA dr yi c0 du=>by
  refine alE H bU ao aF bA dr yi J U ab aN (fun p q x y J U ar ae aH=>?_) (fun p q x y J U ar ae aH=>?_) fun hd t o a6 bD=>?_
  ·rw[c0.out _ (.inr J)]at ae;rw[c0.out _ (.inr Ω)]at aH;exact gJ.s3 p q x y J U ar ae aH
  ·rw[c0.out _ (.inr Ω)]at ae;rw[c0.out _ (.inr Ω)]at aH;exact gJ.s4 p q x y J U ar ae aH
  ·exact ia hd t o ((c0.mono Ω Ω).trans (a6.mono Ω Ω)) (ahv Ω c0 du a6 bD gJ.cross)
 by_cases ln:a<i/\i<mid
 ·simp[t1,t4,t16,t18,ln.1,ln.2,Pv.look];simp only[ix H,H.slc,H.ssc,iq];refine H.doFn av (bU l a i mid av lp ln.1 ln.2 Ω gJ.s1 gJ.s2) (fun a1 h=>by rw[h.1.length];exact av) (by simp[aP,aG,H.kdata av]) ?_;rintro ka ⟨c0,du⟩;simp;exact next (by simp[t3]) (by simp[t4]) (by simp[t16]) (by simp[t22]) (by rw[c0.length];exact av) c0 du
 ·have du:fe lt a mid l:=by
   by_cases qc:a<i
   ·have:=gJ.s1;rwa[show i=mid by omega]at this
   ·have:=gJ.s2;rwa[show i=a by omega]at this
  by_cases qc:a<i
  ·have FV:¬i<mid:=Ω
   simp[t1,t16,t18,qc,FV];exact next (by simp[t3]) (by simp[t4]) (by simp[t16]) (by simp[t22]) av (.refl _) du
  ·simp[t1,t18,qc];exact next (by simp[t3]) (by simp[t4]) (by simp[t16]) (by simp[t22]) av (.refl _) du
theorem alG(H:e7 S n g b9 lc b2 lt)(bU:EY S n g b9 lc b2 lt d)(t1:Pv.get 1 t= .int .i64 a)(t2:Pv.get 2 t= .int .i64 m)(t3:Pv.get 3 t= .int .i64 b)(t4:Pv.get 4 t= .ptr (.loc 0) 0)(t16:Pv.get 16 t= .int .i64 mid)(t18:Pv.get 18 t= .int .i64 i)(t22:Pv.get 22 t= .int .i64 e)(av:l.length=n)(bE:a<=i/\i<=mid/\a<=m)(J:mid<=e)(U:e<=b)(ab:b<=n)(aN:b-mid<=d)(lp:mid-a<=d)(CX:∀lk:List α,(∀k,lk[k]? =l[h6 i m e k]?)->EP lt a i m e b mid lk)(ia:EZ S g b9 lc b2 lt a b l Q):
  c3 az ob Jl Q ⟨t,(.loc 0,[.func g lc,.func b9 b2])::(S l).b,(S l).e,1,o⟩:=by
 unfold Jl;have next:∀{lk t o},Pv.get 1 t= .int .i64 a->Pv.get 3 t= .int .i64 b->Pv.get 4 t= .ptr (.loc 0) 0->Pv.get 16 t= .int .i64 mid->Pv.get 18 t= .int .i64 i->Pv.get 22 t= .int .i64 e->lk.length=n->EP lt a i m e b mid lk->gu a b l lk->c3 az ob Fk Q ⟨t,(.loc 0,[.func g lc,.func b9 b2])::(S lk).b,(S lk).e,1,o⟩:=fun ao aF bA dr hX hY ib gJ aeu=>alF H bU ao aF bA dr hX hY ib bE J U ab aN lp gJ fun hd t o a6 bD=>ia hd t o (aeu.trans a6) bD
 by_cases Gm:i<m/\m<e
 ·simp[t2,t4,t18,t22,Gm.1,Gm.2,Pv.look];simp only[ix H,H.slc,H.ssc,iq];refine H.doFn av (adX H l av i m e Gm.1 Gm.2 Ω) (fun a1 h=>by rw[h.1.length];exact av) (by simp[aP,aG,H.kdata av]) ?_;rintro lk ⟨a6,bD⟩;simp;exact next (by simp[t1]) (by simp[t3]) (by simp[t4]) (by simp[t16]) (by simp[t18]) (by simp[t22]) (by rw[a6.length];exact av) (CX lk bD) (a6.mono Ω Ω)
 ·have gJ:=CX l (fun k=>by
   congr 1;simp only[h6];repeat' split
   all_goals omega)
  by_cases mQ:i<m
  ·have afH:¬m<e:=Ω
   simp[t2,t18,t22,mQ,afH];exact next (by simp[t1]) (by simp[t3]) (by simp[t4]) (by simp[t16]) (by simp[t18]) (by simp[t22]) av gJ (.refl _)
  ·simp[t2,t18,mQ];exact next (by simp[t1]) (by simp[t3]) (by simp[t4]) (by simp[t16]) (by simp[t18]) (by simp[t22]) av gJ (.refl _)
theorem Xs{bb:List (aL×List ai)}(H:e7 S n g b9 lc b2 lt)(r5:Pv.look (.loc 0) bb=some [.func g lc,.func b9 b2])(cI:∀k cs,Pv.look k (S l).b=some cs->Pv.look k bb=some cs)(bs:qJ lt)(bU:EY S n g b9 lc b2 lt d){s0 r0:Nat}(t1:Pv.get 1 t= .int .i64 a)(t2:Pv.get 2 t= .int .i64 m)(t3:Pv.get 3 t= .int .i64 b)(t4:Pv.get 4 t= .ptr (.loc 0) 0)(t16:Pv.get 16 t= .int .i64 mid)(t17:Pv.get 17 t= .int .i64 ((mid:Int)+m))(t18:Pv.get 18 t= .int .i64 s0)(t19:Pv.get 19 t= .int .i64 r0)(av:l.length=n)(bE:a<m/\m<b/\mid=(a+b)/2)(J:mid<m/\s0=mid+m-b/\r0=mid\/m<=mid/\s0=a/\r0=m)(ab:b<=n)(aN:b-a<=d+1)(kL:fe lt a m l)(pM:fe lt m b l)(ia:EZ S g b9 lc b2 lt a b l Q):
  c3 az (c2 (S l)) Jm Q ⟨t,bb,(S l).e,1,o⟩:=by
 have hle:=H.le;unfold Jm;simp[t17];(with_reducible repeat' first|refine aj ?_|simp[t17]);refine nu (fun(x:Nat×Nat)=>⟨[(1,.int .i64 a),(2,.int .i64 m),(3,.int .i64 b),(4,.ptr (.loc 0) 0),(16,.int .i64 mid),(17,.int .i64 (mid+m)),(20,.int .i64 (mid+m-1)),(18,.int .i64 x.1),(19,.int .i64 x.2)],(.loc 0,[.func g lc,.func b9 b2])::(S l).b,(S l).e,1,c2 (S l)⟩) (fun x=>x.2-x.1)
  (alZ lt l mid m s0 r0) (s0,r0) (H.weak av av (by simp[aG,t1,t2,t3,t4,t16,t17,t18,t19]) r5 cI fun _ _ h=>h) ⟨Ψ,by simp;omega,Ψ,.inl rfl,.inl rfl⟩ ?_
 rintro⟨i,j⟩ ⟨aU,bp,b1,fT,df⟩ _;simp only at aU bp b1 fT df;have mS:=FX i j Ω;by_cases lM:i<j
 ·simp[lM];(with_reducible repeat' first|refine aj ?_|simp[Pv.look]);obtain⟨c,aq⟩:∃c,c=(i+j)/2:=⟨_,rfl⟩;rw[<-aq]at mS;simp only[mS];(with_reducible repeat' first|refine aj ?_|simp[Pv.look]);obtain⟨u,tI⟩:∃u,l[c]? =some u:=⟨_,cf Ω⟩;obtain⟨v,Lc⟩:∃v,l[mid+m-1-c]? =some v:=⟨_,cf Ω⟩;have dr:((mid:Int)+m-1-c)=(mid+m-1-c:Nat):=Ω
  simp only[H.slc,dr];refine H.doLess av (mid+m-1-c) c Lc tI ?_;simp;cases sl:lt v u with
  |false=>simp;(with_reducible repeat' first|refine aj ?_|simp);refine bQ.whl (c+1,j) d7 ⟨by simp;omega,by simp;omega,b1,.inr ⟨u,v,by simpa using tI,?_,sl⟩,df⟩ (H.weakC av av d6);simp only;rw[show mid+m-(c+1)=mid+m-1-c by omega];exact Lc
  |true=>simp;(with_reducible repeat' first|refine aj ?_|simp);refine bQ.whl (i,c) d7 ⟨aU,by simp;omega,by simp;omega,fT,.inr ⟨u,v,tI,?_,sl⟩⟩ (H.weakC av av d6);simp only;rw[show mid+m-c-1=mid+m-1-c by omega];exact Lc
 ·obtain rfl:i=j:=Ω
  obtain⟨e,he⟩:∃e,e=mid+m-i:=⟨_,rfl⟩;have hX:((mid:Int)+m-i)=(e:Nat):=Ω
  have bT:i=a\/e=b\/ ∃x y,l[i-1]? =some x/\l[e]? =some y/\lt y x=false:=by
   rcases fT with fT|⟨u,v,a6,bD,bY⟩
   ·omega
   ·exact .inr (.inr ⟨u,v,a6,by rw[he];exact bD,bY⟩)
  have cx:i=m\/e=m\/ ∃x y,l[i]? =some x/\l[e-1]? =some y/\lt y x=true:=by
   rcases df with df|⟨u,v,a6,bD,bY⟩
   ·omega
   ·exact .inr (.inr ⟨u,v,a6,by rw[he];exact bD,bY⟩)
  simp[lM];(with_reducible repeat' first|refine aj ?_|simp);rw[hX];exact alG H bU (a:=a) (m:=m) (b:=b) (mid:=mid) (i:=i) (e:=e) Ψ Ψ Ψ Ψ Ψ Ψ Ψ av Ω Ω Ω ab Ω Ω (fun lk aJ=>ahu bs Ω Ω Ω Ω Ω Ω kL pM bT cx aJ) ia
end
theorem SA(H:e7 S n g b9 lc b2 lt)(bs:qJ lt)(d:Nat):∀(l:List α) (a m b:Nat),l.length=n->b-a<=d->a<m->m<b->b<=n->fe lt a m l->fe lt m b l->
  bH az 188 [eY g b9 lc b2,.int .i64 a,.int .i64 m,.int .i64 b] (S l) fun r ah=>r= .tuple []/\∃a1,ah=S a1/\gu a b l a1/\fe lt a b a1:=by
 induction d with
 |zero=>intro l a m b av aN CH og;omega
 |succ d bU=>
 intro l a m b av aN CH og ab kL pM;have ag:=H.ok l;have ay:∀l m,Pv.look (.loc m) (S l).b=none:=fun l=>(H.ok l).obj.1;have hu:∀l m cs,cA (.loc m) cs (S l).b=(S l).b++[(.loc m,cs)]:=fun l m cs=>kk (ay l m);have ax:∀m,aL.loc m∉c2 (S l):=kf ag.obj;have hle:=H.le;refine bH.mk mixed BG acm ai1 Ψ ag.obj fun aT cI=>?_;unfold Qu;simp[eY,hu,ax,cV,ay];(with_reducible repeat' first|((first|apply bJ|apply bM|apply bL)<;>intro h<;>try simp at h)|refine aj ?_|simp[hu,ax,cV,ay])
 ·obtain rfl:m=a+1:=Ω
  have K0:∀k,h6 a (a+1) (a+1) k=k:=by
   intro k;simp only[h6];repeat' split
   all_goals omega
  obtain⟨z,bf⟩:∃z,l[a]? =some z:=⟨_,cf Ω⟩;refine nu (fun(x:Nat×Nat)=>⟨[(1,.int .i64 a),(4,.ptr (.loc 0) 0),(8,.int .i64 x.1),(9,.int .i64 x.2)],(.loc 0,[.func g lc,.func b9 b2])::(S l).b,(S l).e,1,c2 (S l)⟩) (fun x=>x.2-x.1)
   (fun x=>a+1<=x.1/\x.1<=x.2/\x.2<=b/\(∀h y,a+1<=h->h<x.1->l[h]? =some y->lt y z=true)/\(∀h y,x.2<=h->h<b->l[h]? =some y->lt y z=false)) (a+1,b)
   (H.weak av av d6 (by simp[cV,ay]) aK aK) ⟨Ψ,by simp;omega,Ψ,fun h y J U=>by simp at U;omega,fun h y J U=>by simp at J;omega⟩ ?_
  rintro⟨i,j⟩ ⟨aU,bp,b1,fT,df⟩ _;simp only at aU bp b1 fT df;have hw:=FX i j Ω;simp[Pv.look];(with_reducible repeat' first|((first|apply bJ|apply bM|apply bL)<;>intro h<;>try simp at h)|refine aj ?_|simp[Pv.look])
  ·obtain⟨c,aq⟩:∃c,c=(i+j)/2:=⟨_,rfl⟩;rw[<-aq]at hw;obtain⟨y,aH⟩:∃y,l[c]? =some y:=⟨_,cf Ω⟩;simp only[hw,H.slc];refine H.doLess av c a aH bf ?_;simp;cases sl:lt y z with
   |true=>
    simp;(with_reducible repeat' first|refine aj ?_|simp);refine bQ.whl (c+1,j) d7 ⟨by simp;omega,by simp;omega,b1,fun h u J U hu=>?_,df⟩ (H.weakC av av d6);cases e:lt u z with
    |true=>rfl
    |false=>simp only at U;have:=bs.ntr _ _ _ e (fe.le bs pM J Ω Ω hu aH);rw[sl]at this;cases this
   |false=>simp;(with_reducible repeat' first|refine aj ?_|simp);refine bQ.whl (i,c) d7 ⟨aU,by simp;omega,by simp;omega,fT,fun h u J U hu=>?_⟩ (H.weakC av av d6);exact bs.ntr _ _ _ sl (fe.le bs pM Ω J U aH hu)
  ·obtain rfl:i=j:=Ω
   refine nu (fun(x:Nat×List α)=>⟨[(4,.ptr (.loc 0) 0),(8,.int .i64 i),(11,.int .i64 x.1)],(.loc 0,[.func g lc,.func b9 b2])::(S x.2).b,(S x.2).e,1,c2 (S l)⟩) (fun x=>i-x.1)
    (fun x=>x.2.length=n/\a<=x.1/\x.1<i/\gu a b l x.2/\∀k,x.2[k]? =l[h6 a (a+1) (x.1+1) k]?) (a,l)
    (H.weakC av av d6) ⟨av,Ψ,by simp;omega,.refl _,fun k=>by simp[K0]⟩ ?_
   rintro⟨k,lk⟩ ⟨a6,bD,bY,c5,dc⟩ _;simp only at a6 bD bY c5 dc;simp[Pv.look];((with_reducible repeat' first|refine aj ?_|simp[Pv.look]|((first|apply bJ|apply bM|apply bL)<;>intro h<;>try simp at h))<;>(try exact cc))
   ·have bA:((k:Int)+1)=(k+1:Nat):=Ω
    rw[H.ssc,bA];refine H.doSwap a6 k (k+1) Ω Ω Ω ?_;simp;(with_reducible repeat' first|((first|apply bJ|apply bM|apply bL)<;>intro h<;>try simp at h)|refine aj ?_|simp);refine bQ.whl (k+1,ho lk k (k+1)) d7 ⟨by simp[a6],by simp;omega,by simp;omega,.step c5 Ω Ω Ω Ω Ω Ω,fun t=>?_⟩ (H.weakC av (by simp[a6]) d6);rw[AT _ _ _ _ Ω Ω,dc,dc,dc];have:h6 a (a+1) (k+1+1) t=if t=k then h6 a (a+1) (k+1) (k+1)else if t=k+1 then h6 a (a+1) (k+1) k else h6 a (a+1) (k+1) t:=by
     simp only[h6];repeat' split
     all_goals omega
    rw[this];split
    ·rfl
    ·split<;>rfl
   ·obtain rfl:i=k+1:=Ω
    refine H.ret av a6 (.inl rfl) ⟨rfl,lk,rfl,c5,ahm bs Ω b1 Ω pM bf fT df dc⟩
 ·obtain rfl:b=m+1:=Ω
  have K0:∀k,h6 m m (m+1) k=k:=by
   intro k;simp only[h6];repeat' split
   all_goals omega
  obtain⟨z,bf⟩:∃z,l[m]? =some z:=⟨_,cf Ω⟩;refine nu (fun(x:Nat×Nat)=>⟨[(2,.int .i64 m),(4,.ptr (.loc 0) 0),(12,.int .i64 x.1),(13,.int .i64 x.2)],(.loc 0,[.func g lc,.func b9 b2])::(S l).b,(S l).e,1,c2 (S l)⟩) (fun x=>x.2-x.1)
   (fun x=>a<=x.1/\x.1<=x.2/\x.2<=m/\(∀h y,a<=h->h<x.1->l[h]? =some y->lt z y=false)/\(∀h y,x.2<=h->h<m->l[h]? =some y->lt z y=true)) (a,m)
   (H.weak av av d6 (by simp[cV,ay]) aK aK) ⟨Ψ,by simp;omega,Ψ,fun h y J U=>by simp at U;omega,fun h y J U=>by simp at J;omega⟩ ?_
  rintro⟨i,j⟩ ⟨aU,bp,b1,fT,df⟩ _;simp only at aU bp b1 fT df;have hw:=FX i j Ω;simp[Pv.look];(with_reducible repeat' first|((first|apply bJ|apply bM|apply bL)<;>intro h<;>try simp at h)|refine aj ?_|simp[Pv.look])
  ·obtain⟨c,aq⟩:∃c,c=(i+j)/2:=⟨_,rfl⟩;rw[<-aq]at hw;obtain⟨y,aH⟩:∃y,l[c]? =some y:=⟨_,cf Ω⟩;simp only[hw,H.slc];refine H.doLess av m c bf aH ?_;simp;cases sl:lt z y with
   |false=>simp;((with_reducible repeat' first|refine aj ?_|simp|((first|apply bJ|apply bM|apply bL)<;>intro h<;>try simp at h))<;>(try exact cc));refine bQ.whl (c+1,j) d7 ⟨by simp;omega,by simp;omega,b1,fun h u J U hu=>?_,df⟩ (H.weakC av av d6);simp only at U;exact bs.ntr _ _ _ (fe.le bs kL J Ω Ω hu aH) sl
   |true=>
    simp;((with_reducible repeat' first|refine aj ?_|simp|((first|apply bJ|apply bM|apply bL)<;>intro h<;>try simp at h))<;>(try exact cc));refine bQ.whl (i,c) d7 ⟨aU,by simp;omega,by simp;omega,fT,fun h u J U hu=>?_⟩ (H.weakC av av d6);cases e:lt z u with
    |true=>rfl
    |false=>have:=bs.ntr _ _ _ (fe.le bs kL Ω J U aH hu) e;rw[sl]at this;cases this
  ·obtain rfl:i=j:=Ω
   refine nu (fun(x:Nat×List α)=>⟨[(4,.ptr (.loc 0) 0),(12,.int .i64 i),(15,.int .i64 x.1)],(.loc 0,[.func g lc,.func b9 b2])::(S x.2).b,(S x.2).e,1,c2 (S l)⟩) (fun x=>x.1)
    (fun x=>x.2.length=n/\i<=x.1/\x.1<=m/\gu a (m+1) l x.2/\∀k,x.2[k]? =l[h6 x.1 m (m+1) k]?) (m,l)
    (H.weakC av av d6) ⟨av,by simp;omega,Ψ,.refl _,fun k=>by simp[K0]⟩ ?_
   rintro⟨k,lk⟩ ⟨a6,bD,bY,c5,dc⟩ _;simp only at a6 bD bY c5 dc;simp[Pv.look];((with_reducible repeat' first|refine aj ?_|simp[Pv.look]|((first|apply bJ|apply bM|apply bL)<;>intro h<;>try simp at h))<;>(try exact cc))
   ·have bA:((k:Int)-1)=(k-1:Nat):=Ω
    rw[H.ssc,bA];refine H.doSwap a6 k (k-1) Ω Ω Ω ?_;simp;(with_reducible repeat' first|refine aj ?_|simp);refine bQ.whl (k-1,ho lk k (k-1)) d7 ⟨by simp[a6],by simp;omega,by simp;omega,.step c5 Ω Ω Ω Ω Ω Ω,fun t=>?_⟩ (H.weakC av (by simp[a6]) (by simp[aG];omega));rw[AT _ _ _ _ Ω Ω,dc,dc,dc];have:h6 (k-1) m (m+1) t=if t=k then h6 k m (m+1) (k-1)else if t=k-1 then h6 k m (m+1) k else h6 k m (m+1) t:=by
     simp only[h6];repeat' split
     all_goals omega
    rw[this];split
    ·rfl
    ·split<;>rfl
   ·obtain rfl:i=k:=Ω
    refine H.ret av a6 (.inl rfl) ⟨rfl,lk,rfl,c5,ahn bs Ω b1 Ω kL bf fT df dc⟩
 ·obtain⟨mid,KP⟩:∃mid,mid=(a+b)/2:=⟨_,rfl⟩;have hw:=FX a b Ω;rw[<-KP]at hw;simp only[hw];(with_reducible repeat' first|((first|apply bJ|apply bM|apply bL)<;>intro h<;>try simp at h)|refine aj ?_|simp[hu,ax,cV,ay])
  ·exact Xs (s0:=mid+m-b) (r0:=mid) H (by simp[cV,ay]) aK bs bU (a:=a) (m:=m) (b:=b) (mid:=mid) Ψ Ψ Ψ Ψ Ψ Ψ d7 Ψ av ⟨CH,og,KP⟩ Ω ab aN kL pM fun hd t o a6 bD=>H.ret av (by rw[a6.length];exact av) (.inr rfl) ⟨rfl,hd,rfl,a6,bD⟩
  ·exact Xs (s0:=a) (r0:=m) H (by simp[cV,ay]) aK bs bU (a:=a) (m:=m) (b:=b) (mid:=mid) Ψ Ψ Ψ Ψ Ψ Ψ Ψ Ψ av ⟨CH,og,KP⟩ Ω ab aN kL pM fun hd t o a6 bD=>H.ret av (by rw[a6.length];exact av) (.inr rfl) ⟨rfl,hd,rfl,a6,bD⟩
end
section
open Go Go.Pv
variable {α:Type} {S:List α->cS} {n g b9:Nat} {lc b2:List ai} {lt:α->α->Bool}
def pk(lt:α->α->Bool)(z a b:Nat)(l:List α):Prop:= ∀i j x y,a<=i->i<j->j<b->i/z=j/z->l[i]? =some x->l[j]? =some y->lt y x=false
theorem pk.snoc{z q:Nat}(bf:0<z){l a1:List α}(h:pk lt z 0 (q*z) l){b:Nat}(ag:gu (q*z) b l a1)(U:fe lt (q*z) b a1):pk lt z 0 b a1:=by
 intro i j x y hi lM af aN ae aH;by_cases Tg:j<q*z
 ·rw[ag.out _ (.inl Ω)]at ae;rw[ag.out _ (.inl Tg)]at aH;exact h i j x y hi lM Tg aN ae aH
 ·have ar:q<=j/z:=(Nat.le_div_iff_mul_le bf).2 Ω;have a8:q*z<=i:=(Nat.le_div_iff_mul_le bf).1 Ω;exact U i j x y a8 lM af ae aH
theorem pk.srt{z q:Nat}(bf:0<z){l:List α}{a b:Nat}(h:pk lt z a b l){c:Nat}(apa:a<=q*z)(aq:c<=(q+1)*z)(Kw:c<=b):fe lt (q*z) c l:=by intro i j x y hi lM af ae aH;have hL:i/z=q:=Nat.div_eq_of_lt_le hi Ω;have oc:j/z=q:=Nat.div_eq_of_lt_le Ω Ω;exact h i j x y Ω lM Ω Ω ae aH
theorem pk.after{z a b bj b0:Nat}{l a1:List α}(h:pk lt z a b l)(ag:gu a bj l a1)(bk:a<=bj)(ab:b0<=b):pk lt z bj b0 a1:=by intro i j x y hi lM af aN ae aH;rw[ag.out _ (.inr Ω)]at ae;rw[ag.out _ (.inr Ω)]at aH;exact h i j x y Ω lM Ω aN ae aH
theorem Kh(H:e7 S n g b9 lc b2 lt)(bs:qJ lt)(l:List α)(av:l.length=n):
  bH az 161 [eY g b9 lc b2,.int .i64 n] (S l) fun r ah=>r= .tuple []/\∃a1,ah=S a1/\gu 0 n l a1/\fe lt 0 n a1:=by
 have ag:=H.ok l;have ay:∀l m,Pv.look (.loc m) (S l).b=none:=fun l=>(H.ok l).obj.1;have hu:∀l m cs,cA (.loc m) cs (S l).b=(S l).b++[(.loc m,cs)]:=fun l m cs=>kk (ay l m);have ax:∀m,aL.loc m∉c2 (S l):=kf ag.obj;have hle:=H.le;refine bH.mk mixed BG acj aiZ Ψ ag.obj fun aT cI=>?_;unfold Qs;simp[eY,hu,ax,cV,ay];refine nu (fun(x:Nat×List α)=>⟨[(1,.int .i64 n),(2,.ptr (.loc 0) 0),(4,.int .i64 20),(5,.int .i64 (x.1*20)),(6,.int .i64 (x.1*20+20))],(.loc 0,[.func g lc,.func b9 b2])::(S x.2).b,(S x.2).e,1,c2 (S l)⟩) (fun x=>n+20-x.1*20)
  (fun x=>x.2.length=n/\x.1*20<=n/\gu 0 n l x.2/\pk lt 20 0 (x.1*20) x.2) (0,l)
  (H.weak av av d6 (by simp[cV,ay]) aK aK) ⟨av,Ψ,.refl _,fun i j x y J U ar=>by simp at ar⟩ ?_
 rintro⟨q,lk⟩ ⟨J,U,ar,a8⟩ _;simp only at J U ar a8;simp[Pv.look];((with_reducible repeat' first|refine aj ?_|simp[Pv.look]|((first|apply bJ|apply bM|apply bL)<;>intro h<;>try simp at h))<;>(try exact cc))
 ·have ao:((q:Int)*20)=(q*20:Nat):=Ω
  have aF:((q:Int)*20+20)=(q*20+20:Nat):=Ω
  simp only[ix H,H.slc,H.ssc,iq,aF];simp only[ao];refine H.doFn J (Sr H bs lk J (q*20) (q*20+20) Ω Ω) (fun a1 h=>by rw[h.1.length];exact J) (by simp[aP,aG,H.kdata J]) ?_;rintro a1 ⟨c0,du⟩;have tB:a1.length=n:=by rw[c0.length];exact J
  simp;((with_reducible repeat' first|refine aj ?_|simp|((first|apply bJ|apply bM|apply bL)<;>intro h<;>try simp at h))<;>(try exact cc));refine bQ.whl (q+1,a1) d7 ⟨tB,by simp;omega,ar.trans (c0.mono Ω Ω),?_⟩ (H.weakC av tB (by simp[aG];omega));have:=a8.snoc Ω c0 du;rwa[show q*20+20=(q+1)*20 by omega]at this
 ·have ao:((q:Int)*20)=(q*20:Nat):=Ω
  simp only[ix H,H.slc,H.ssc,iq,ao];refine H.doFn J (Sr H bs lk J (q*20) n Ω Ω) (fun a1 h=>by rw[h.1.length];exact J) (by simp[aP,aG,H.kdata J]) ?_;rintro a1 ⟨c0,du⟩;have tB:a1.length=n:=by rw[c0.length];exact J
  have e8:=a8.snoc Ω c0 du;simp;refine nu (fun(x:Nat×List α)=>⟨[(1,.int .i64 n),(2,.ptr (.loc 0) 0),(4,.int .i64 x.1)],(.loc 0,[.func g lc,.func b9 b2])::(S x.2).b,(S x.2).e,1,c2 (S l)⟩) (fun x=>1099511627776-x.1)
   (fun x=>x.2.length=n/\20<=x.1/\x.1<=2*n+20/\gu 0 n l x.2/\pk lt x.1 0 n x.2) (20,a1)
   (H.weakC av tB d6) ⟨tB,Ψ,Ψ,ar.trans (c0.mono Ω Ω),e8⟩ ?_
  rintro⟨z,US⟩ ⟨la,z2,z3,z4,z5⟩ _;simp only at la z2 z3 z4 z5;simp[Pv.look];((with_reducible repeat' first|refine aj ?_|simp[Pv.look]|((first|apply bJ|apply bM|apply bL)<;>intro h<;>try simp at h))<;>(try exact cc))
  ·refine nu (fun(x:Nat×List α)=>⟨[(1,.int .i64 n),(2,.ptr (.loc 0) 0),(4,.int .i64 z),(5,.int .i64 (x.1*(2*z):Nat)),(6,.int .i64 (x.1*(2*z)+2*z:Nat))],(.loc 0,[.func g lc,.func b9 b2])::(S x.2).b,(S x.2).e,1,c2 (S l)⟩) (fun x=>n+2*z-x.1*(2*z))
    (fun x=>x.2.length=n/\x.1*(2*z)<=n/\gu 0 n l x.2/\pk lt (2*z) 0 (x.1*(2*z)) x.2/\pk lt z (x.1*(2*z)) n x.2) (0,US)
    (H.weakC av la d6) ⟨la,Ψ,z4,fun i j x y J U ar=>by simp at ar,by simpa using z5⟩ ?_
   rintro⟨p,Dz⟩ ⟨eV,dP,Is,xB,EF⟩ _;simp only at eV dP Is xB EF;obtain⟨A,bg⟩:∃A,A=p*(2*z):=⟨_,rfl⟩;have FT:A=(2*p)*z:=by rw[bg,Nat.mul_comm 2 p,Nat.mul_assoc]
   have Km:(2*p+1)*z=A+z:=by rw[p2,<-FT,Nat.one_mul]
   have aei:(2*p+2)*z=A+2*z:=by rw[p2,<-FT]
   have z7:(p+1)*(2*z)=A+2*z:=by rw[p2,<-bg,Nat.one_mul]
   have kL:∀c,c<=A+z->c<=n->fe lt A c Dz:=fun c aq Ae=>by have:=pk.srt (q:=2*p) Ω EF (c:=c) (by rw[<-FT,bg];omega) (by rw[Km];exact aq) Ae;rwa[<-FT]at this
   have pM:∀c,c<=A+2*z->c<=n->fe lt (A+z) c Dz:=fun c aq Ae=>by have:=pk.srt (q:=2*p+1) Ω EF (c:=c) (by rw[Km,bg];omega) (by rw[aei];exact aq) Ae;rwa[Km]at this
   rw[<-bg]at dP xB EF;simp only[<-bg];simp[Pv.look];((with_reducible repeat' first|refine aj ?_|simp[Pv.look]|((first|apply bJ|apply bM|apply bL)<;>intro h<;>try simp at h))<;>(try exact cc))
   ·have bA:((A:Int)+z)=(A+z:Nat):=Ω
    have dr:((A:Int)+2*z)=(A+2*z:Nat):=Ω
    simp only[ix H,H.slc,H.ssc,iq,bA,dr];refine H.doFn eV (SA H bs (A+2*z-A) Dz A (A+z) (A+2*z) eV Ω Ω Ω Ω (kL _ Ω Ω) (pM _ Ω Ω)) (fun a1 h=>by rw[h.1.length];exact eV) (by simp[aP,aG,H.kdata eV]) ?_;rintro hd ⟨kW,pc⟩;have od:hd.length=n:=by rw[kW.length];exact eV
    simp;(with_reducible repeat' first|refine aj ?_|simp);refine bQ.whl (p+1,hd) (by simp only[z7,<-bg];omega) ⟨od,by simp only[z7];omega,Is.trans (kW.mono Ω Ω),?_,?_⟩ ?_
    ·simp only[z7];rw[bg]at xB kW pc;have:=xB.snoc Ω kW pc;rwa[<-bg]at this
    ·simp only[z7];exact EF.after kW Ω Ω
    ·simp only[z7];have aej:((p:Int)+1)*(2*(z:Int))=(A:Int)+2*z:=by have h:=eK (Nat.cast:Nat->Int) z7;push_cast at h;exact h
     exact H.weakC av od (by simp[aG,aej])
   ·have bA:((A:Int)+z)=(A+z:Nat):=Ω
    simp only[ix H,H.slc,H.ssc,iq,bA];refine H.doFn eV (SA H bs (n-A) Dz A (A+z) n eV Ω Ω Ω Ω (kL _ Ω Ω) (pM _ Ω Ω)) (fun a1 h=>by rw[h.1.length];exact eV) (by simp[aP,aG,H.kdata eV]) ?_;rintro hd ⟨kW,pc⟩;have od:hd.length=n:=by rw[kW.length];exact eV
    simp;((with_reducible repeat' first|refine aj ?_|simp|((first|apply bJ|apply bM|apply bL)<;>intro h<;>try simp at h))<;>(try exact cc));refine bQ.whl (2*z,hd) d7 ⟨od,by simp;omega,by simp;omega,Is.trans (kW.mono Ω Ω),?_⟩ (H.weakC av od (by simp[aG];omega));rw[bg]at xB kW pc;exact xB.snoc Ω kW pc
   ·refine bQ.whl (2*z,Dz) d7 ⟨eV,by simp;omega,by simp;omega,Is,?_⟩ (H.weakC av eV (by simp[aG];omega));have b8:=kL n Ω Ω;rw[bg]at xB b8;exact xB.snoc Ω (.refl _) b8
  ·refine H.ret av la (.inr rfl) ?_;refine⟨rfl,US,rfl,z4,fun i j x y J U ar=>z5 i j x y J U ar ?_⟩;rw[Nat.div_eq_of_lt Ω,Nat.div_eq_of_lt Ω]
end
section
open Go Go.Pv Go.Sort Go.RowKit
theorem afA{w:World}{base:Nat}{e:gP}{sz:Nat}{v:Value}{n:Nat}{us:List Value}(h:w.ownsRow base e sz v n us)(aC:v≠ .slice none 0 0):
  ∃g cap,v= .slice (some ⟨g,0,none⟩) n cap/\g<w.heap.size/\cap<=maxLen/\n<=cap/\us.length=n*sz/\Holds id w g 0 us.toArray:=by
 rcases h.2 with⟨p8,_⟩|⟨g,cap,cur,rfl,ab,aX,ay,hm,ag,aM⟩
 ·exact absurd p8 aC
 ·have bs:g<w.heap.size:=by
   rcases Nat.lt_or_ge g w.heap.size with b4|b4
   ·exact b4
   ·rw[Array.getElem?_eq_none b4]at aX;cases aX
  refine⟨g,cap,rfl,bs,hm,ay,h.1,fun j af=>?_⟩;have jB:j<us.length:=by simpa using af
  have av:=h.1;refine⟨?_,by simp[World.frozen?,aX]⟩;have ao:(cur.toList.take (n*sz))[j]? =us[j]?:=by rw[aM]
  rw[List.getElem?_take,if_pos Ω,um,cf jB]at ao;simp only[World.cell?,aX,Nat.zero_add];simp only[lD,gO,if_false];rw[ao];simp[getElem!_pos,jB]
theorem ajQ{w:World}{base:Nat}{e:gP}{sz g n cap q:Nat}{us:List Value}{F:Array Value}(h:w.ownsRow base e sz (.slice (some ⟨g,0,none⟩) n cap) n us)(gm:F.size=n*sz):
  (putRow id (Sort.ahead w q) g 0 F).ownsRow base e sz (.slice (some ⟨g,0,none⟩) n cap) n F.toList:=by
 rcases h.2 with⟨p8,_⟩|⟨ff,Cf,cur,p8,ab,aX,ay,hm,ag,aM⟩
 ·cases p8
 ·injection p8 with ao _ bA;injection ao with ao;injection ao with ao;subst ao;subst bA;refine⟨by simpa using gm,.inr ⟨g,cap,putCells id 0 F cur,rfl,ab,?_,ay,hm,by simpa[putCells]using ag,?_⟩⟩
  ·simp[putRow,mapBlock,Sort.ahead,Array.getElem?_modify,aX,onCells]
  ·have hle:n*sz<=cur.size:=by rw[ag];exact Nat.mul_le_mul_right _ ay
   apply List.ext_getElem?;intro j;rw[List.getElem?_take,um,um];by_cases af:j<n*sz
   ·have ae4:j<cur.size:=Ω
    simp only[if_pos af,putCells,Array.getElem?_mapIdx,Array.getElem?_eq_getElem ae4,oH];rw[if_pos Ω];simp[getElem!_pos,show j<F.size by omega]
   ·simp[af];omega
end
end Go.Proofs.YtohaalphocaebaaGreatDoor
namespace Go.Pv
section
open Go Go.RowKit Go.Lib Go.Sort Go.Proofs.YtohaalphocaebaaGreatDoor
theorem Uv{S:aL->Prop}:∀{l:List ai},aP S l↔∀x∈l,aG S x
 |[]=>by simp[aP]
 |x::r=>by simp only[aP,Uv (l:=r),fD,forall_eq_or_imp]
theorem Uo{α:Type}{s:cS}{l:List (aL×α)}:kQ s l↔∀k,(look k l).isSome->inObs s k:=by
 refine⟨fun h k ad=>AL h k ad,fun h=>?_⟩;have:∀a1:List (aL×α),(∀x∈a1,inObs s x.1)->kQ s a1:=by
  intro a1;induction a1 with
  |nil=>intro _;trivial
  |cons x r bU=>obtain⟨k,x⟩:=x;exact fun h=>⟨h (k,x) Ψ,bU fun y aH=>h y (by simp[aH])⟩
 exact this l fun x ae=>h x.1 (vm (x:=x.2) ae)
theorem M9{w:World}{Z:bc}{sz:Nat}:∀{xs:List ai} {us:List Value} {i:Nat} {p:ai},dB w Z sz xs us->xs[i]? =some p->∃u,(us.drop (i*sz)).take sz=u.cells.toList/\bd w Z p u/\u.cells.size=sz/\∀c∈u.cells.toList,c.oneCell'=true
 |[],_,_,_,_,bK=>by simp at bK
 |x::xs,us,0,p,h,bK=>by simp only[dB]at h;obtain⟨u,cm,rfl,⟨J,U,ar⟩,_⟩:=h;simp at bK;subst bK;refine⟨u,?_,J,U,ar⟩;simp only[Nat.zero_mul,List.drop_zero];rw[List.take_append_of_le_length (by simp[U])];exact hx (by simp[U])
 |x::xs,us,i+1,p,h,bK=>by simp only[dB]at h;obtain⟨u,cm,rfl,⟨J,U,ar⟩,b8⟩:=h;obtain⟨v,ao,aF⟩:=M9 (i:=i) b8 (by simpa using bK);refine⟨v,?_,aF⟩;rw[<-ao,Nat.succ_mul,Nat.add_comm,<-List.drop_drop];congr 2;rw[List.drop_append_of_le_length (by simp[U]),List.drop_of_length_le (by simp[U])];rfl
theorem Nt:∀(ba:List Value) (s:Nat) (F:Array Value),s+ba.length<=F.size->(setMany F s ba).toList=F.toList.take s++ba++F.toList.drop (s+ba.length)
 |[],s,F,h=>by simp[setMany]
 |v::r,s,F,h=>by
  simp only[l5]at h;rw[setMany,Nt r (s+1) _ d7];have bs:s<F.toList.length:=by simp;omega
  have ao:(F.setIfInBounds s v).toList=F.toList.set s v:=by simp
  rw[ao];have aF:(F.toList.set s v).take (s+1)=F.toList.take s++[v]:=by rw[List.take_succ,List.getElem?_set_self bs,List.take_set_of_le (eX _)];simp
  have bA:(F.toList.set s v).drop (s+1+r.length)=F.toList.drop (s+(v::r).length):=by rw[List.drop_set_of_lt Ω];congr 1;simp;omega
  rw[aF,bA];simp
theorem Zl(w:World):Sort.ahead w 0=w:=by simp[Sort.ahead]
theorem Sz{P:cL}(x3:Bool)(b9:Nat)(ae:∀args W,(callFunc b9 args).run P W=((EM x3 args).run P W).andThen fun v w'=>.ok (.value v) w')(e:gP)(ej:TypeInfo)(tA:P.info? e=some ej)(x8:(∀w,(Go.isAgg e).run P w= .ok true w)\/(ej.size=1/\∀w,(Go.isAgg e).run P w= .ok false w)){s:cS}(ag:dR s){K n el sz:Nat}(dS:ej.size=sz){xs:List ai}(ad:look (.obj K) s.e=some ⟨n,el,sz,some xs⟩)
  (i j:Nat) (hi:i<n) (af:j<n):bH P b9 [.int .i64 i,.int .i64 j,.row sz (.obj K) n,.cst (typeHandle P e)] s fun r ah=>r= .tuple []/\ah=⟨s.b,cA (.obj K) ⟨n,el,sz,some (ho xs i j)⟩ s.e⟩:=by
 subst dS;refine bH.sem ag.obj fun w Z ba k6 aJ=>?_;right;have s0:=aJ.slot 0;have s1:=aJ.slot 1;have s2:=aJ.slot 2;have s3:=aJ.slot 3;simp[kh,get,bd]at s0 s1 s2 s3;obtain⟨v,us,a6,bD,bY,c5⟩:=aJ.good.own (.obj K) _ ad;obtain⟨dc,oq,vu⟩:=c5 _ rfl;simp only at dc oq a6 bD;obtain⟨⟨g0,ZN,r5⟩,_,n',fa,ao,aF,bA⟩:=s2;rw[a6]at ao;simp only[dC,jM]at ao;obtain⟨rfl,rfl⟩:=ao;have aC:=bA rfl;have cK:v≠ .slice none 0 0:=by rw[<-aC,r5];simp
 obtain⟨g,cap,rfl,qZ,qg,aeV,CQ,CD⟩:=afA bD cK;have af0:ba= #[.int .i64 i,.int .i64 j,.slice (some ⟨g,0,none⟩) n cap,typeHandle P e]:=by
  have J:ba.size=4:=by simpa using k6
  apply Array.ext (by simpa using J);intro t U ar;simp at ar;rcases(by omega:t=0\/t=1\/t=2\/t=3)with rfl|rfl|rfl|rfl
  ·simpa[Array.getD,J]using s0
  ·simpa[Array.getD,J]using s1
  ·simpa[Array.getD,J]using aC
  ·simpa[Array.getD,J]using s3
 subst af0;obtain⟨p,bK⟩:∃p,xs[i]? =some p:=⟨_,cf Ω⟩;obtain⟨q,bF⟩:∃q,xs[j]? =some q:=⟨_,cf Ω⟩;obtain⟨u,jf,jJ,qC,zj⟩:=M9 oq bK;obtain⟨x,sW,zn,sX,Iu⟩:=M9 oq bF;have Tp:i*ej.size+ej.size<=n*ej.size:=by have:=Nat.mul_le_mul_right ej.size (show i+1<=n from hi);rwa[p2,Nat.one_mul]at this
 have Tq:j*ej.size+ej.size<=n*ej.size:=by have:=Nat.mul_le_mul_right ej.size (show j+1<=n from af);rwa[p2,Nat.one_mul]at this
 have cell:∀t v,us[t]? =some v->w.cell? ⟨g,t,none⟩=some v:=fun t v aM=>by obtain⟨J,U⟩:=fb.1 aM;have:=(CD t (by simpa using J)).1;simp at this;rw[this];simp[getElem!_pos,J,U]
 have FM:∀t,t<n*ej.size->w.frozen? ⟨g,t,none⟩=false:=fun t aM=>by have:=(CD t (by simpa[CQ]using aM)).2;simpa using this
 have run:(EM x3 #[.int .i64 i,.int .i64 j,.slice (some ⟨g,0,none⟩) n cap,typeHandle P e]).run P w= .ok (.tuple #[]) ((w.setCells g (0+i*ej.size) x.cells.toList).setCells g (0+j*ej.size) u.cells.toList):=by
  rcases x8 with x8|⟨FQ,x8⟩
  ·exact run_swap_cells (P:=P) x3 e ej tA x8 g 0 n cap i j hi af u.cells.toList x.cells.toList (by simp[qC]) (by simp[sX]) zj Iu w
     (fun k v aC=>by
      rw[<-jf,List.getElem?_take]at aC;split at aC
      ·rw[List.getElem?_drop]at aC;simpa using cell _ _ aC
      ·cases aC)
     (fun k v aC=>by
      rw[<-sW,List.getElem?_take]at aC;split at aC
      ·rw[List.getElem?_drop]at aC;simpa using cell _ _ aC
      ·cases aC)
     (fun k ad=>by simpa using FM (i*ej.size+k) Ω) (fun k ad=>by simpa using FM (j*ej.size+k) Ω)
  ·rw[FQ]at jf qC sW sX⊢;obtain⟨Fv,Kx⟩:∃c,u.cells.toList=[c]:=List.length_eq_one_iff.1 (by simpa using qC);obtain⟨pA,kI⟩:∃c,x.cells.toList=[c]:=List.length_eq_one_iff.1 (by simpa using sX);rw[Kx]at jf zj⊢;rw[kI]at sW Iu⊢;simp only[World.setCells,Nat.mul_one]at jf sW⊢;have SC:us[i]? =some Fv:=by have:=eK (·[0]?) jf;simpa using this
   have SE:us[j]? =some pA:=by have:=eK (·[0]?) sW;simpa using this
   have:=run_swap_one (P:=P) x3 e ej tA FQ x8 g 0 n cap i j hi af Fv pA (zj Fv Ψ) (Iu pA Ψ) w (by simpa using cell i Fv SC) (by simpa using cell j pA SE) (by simpa using FM i (by rw[FQ];omega)) (by simpa using FM j (by rw[FQ];omega));simpa using this
 have af2:putRow id w g 0 us.toArray=w:=putRow_self id w g 0 _ CD;have afT:us.toArray.size=n*ej.size:=by simpa using CQ
 have yw:w.setCells g (0+i*ej.size) x.cells.toList=putRow id w g 0 (setMany us.toArray (i*ej.size) x.cells.toList):=by have J:=setCells_putRow w g 0 x.cells.toList (i*ej.size) us.toArray (by simp[sX,CQ];exact Tp);rw[af2]at J;exact J
 obtain⟨ik,ny⟩:∃ik,ik=setMany us.toArray (i*ej.size) x.cells.toList:=⟨_,rfl⟩;have aep:ik.toList=us.take (i*ej.size)++x.cells.toList++us.drop (i*ej.size+ej.size):=by rw[ny,Nt _ _ _ (by simp[sX,CQ];exact Tp)];simp[sX]
 have Ko:ik.size=n*ej.size:=by rw[ny,size_setMany];exact afT
 have mS:(w.setCells g (0+i*ej.size) x.cells.toList).setCells g (0+j*ej.size) u.cells.toList=putRow id w g 0 (setMany ik (j*ej.size) u.cells.toList):=by rw[yw,<-ny,setCells_putRow w g 0 u.cells.toList (j*ej.size) ik (by simp[qC,Ko];exact Tq)]
 obtain⟨iz,CC⟩:∃iz,iz=setMany ik (j*ej.size) u.cells.toList:=⟨_,rfl⟩;have aeq:iz.toList=ik.toList.take (j*ej.size)++u.cells.toList++ik.toList.drop (j*ej.size+ej.size):=by rw[CC,Nt _ _ _ (by simp[qC,Ko];exact Tq)];simp[qC]
 have aer:iz.size=n*ej.size:=by rw[CC,size_setMany];exact Ko
 have eU:=HM oq bK zn sX Iu;rw[<-aep]at eU;have fP:=HM (i:=j) (q:=q) eU (by rw[List.getElem?_set];split;(rename_i e;subst e;rw[if_pos Ω]);exact bF) jJ qC zj;rw[<-aeq]at fP;have Gr:(xs.set i q).set j p=ho xs i j:=by simp[ho,bK,bF]
 rw[Gr]at fP;have hlen:(ho xs i j).length=n:=by simpa using dc
 have lO:=ajQ (q:=0) (F:=iz) bD aer;rw[Zl]at lO;obtain⟨kW,pc,_⟩:=aJ.setRowM (w':=putRow id w g 0 iz) ad rfl a6 (bl:=g) rfl (v':= .slice (some ⟨g,0,none⟩) n cap) rfl (xs':=ho xs i j) (us:=iz.toList) (.inl ⟨hlen,rfl⟩) rfl rfl rfl
  (fun t aM=>by simp[putRow,mapBlock,Array.getElem?_modify,ld aM]) (by simp[putRow,mapBlock]) (by rw[hlen];exact lO) fP
 refine⟨.tuple #[],putRow id w g 0 iz,?_,?_⟩
 ·rw[ae,run,mS,<-CC];rfl
 ·have gH:∀k,inObs ⟨s.b,cA (.obj K) ⟨n,el,ej.size,some (ho xs i j)⟩ s.e⟩ k↔inObs s k:=fun k=>by
   unfold inObs;simp only[ja];by_cases c4:aL.obj K=k
   ·subst c4;simp[ad]
   ·simp[c4]
  refine⟨_,_,_,_,.tuple [],⟨s.b,cA (.obj K) ⟨n,el,ej.size,some (ho xs i j)⟩ s.e⟩,rfl,kW,by simp[bd,cX],Uo.2 fun k mO=>(gH k).2 (.inl mO),Uo.2 fun k mO=>(gH k).2 (.inr mO),fun k cs aq=>⟨aq,(gH k).2 (.inl (by simp at aq;simp[aq])),j9 (fun k h=>(gH k).2 h) _ (ag.kb k cs aq)⟩,fun k o ax=>⟨by simpa[hlen]using ax,?_,fun ys aH=>?_⟩,⟨ag.obj.1,fun m=>?_⟩,by simp[aG,aP],rfl,rfl⟩
  ·exact(.inr (by simp at ax;simp[ax]))
  ·simp only[ja]at ax;split at ax
   ·cases ax;simp only[dC]at aH;subst aH;have Tl:=ag.ke _ _ ad xs rfl;refine j9 (fun k h=>(gH k).2 h) _ ?_;rw[Uv]at Tl⊢;exact fun z bf=>Tl z ((UR xs i j).mem_iff.1 bf)
   ·exact j9 (fun k h=>(gH k).2 h) _ (ag.ke k o ax ys aH)
  ·simp only[ja];simp[ag.obj.2 m]
theorem Sy{P:cL}(x3:Bool)(b9:Nat)(ae:∀args W,(callFunc b9 args).run P W=((EM x3 args).run P W).andThen fun v w'=>.ok (.value v) w')(e:gP)(ej:TypeInfo)(tA:P.info? e=some ej)(x8:∀w,(Go.isAgg e).run P w= .ok true w){s:cS}(ag:dR s){K n el sz:Nat}(dS:ej.size=sz){xs:List ai}(ad:look (.obj K) s.e=some ⟨n,el,sz,some xs⟩)
  (i j:Nat) (hi:i<n) (af:j<n):bH P b9 [.int .i64 i,.int .i64 j,.row sz (.obj K) n,.cst (typeHandle P e)] s fun r ah=>r= .tuple []/\ah=⟨s.b,cA (.obj K) ⟨n,el,sz,some (ho xs i j)⟩ s.e⟩:=Sz x3 b9 ae e ej tA (.inl x8) ag dS ad i j hi af
end
end Go.Pv
namespace Go.Proofs.YtohaalphocaebaaGreatDoor
section
open Go Go.RowKit Go.Lib Go.Sort Go.Pv
set_option maxRecDepth 100000 in
theorem alz(t e:gP)(i ej:TypeInfo)(hi:az.info? t=some i)(aN:i.desc= .slice e)(C4:az.packed t=false)(tA:az.info? e=some ej)(ke:Nat)(u2:∀w,(YN e).run az w= .ok ke w)
  (p:Option Addr) (n c:Nat) (ay:n<4611686018427387904) (f:Nat) (aR:az.funcs.findIdx? (·.name== "internal/reflectlite" ++ ".Swapper$" ++toString (swapperK n ej ke))=some f) (UN:Fn) (LG ra:Array Value) (w:World) (R:World->Prop)
  (bK:Calls az 161 #[.agg #[.func UN LG ra,.func (.func f) #[] (sliceBound az e ej ke p n c)],.int .i64 n] ((w.alloc (.cells #[.slice p n c] t)).alloc (.cells #[typeHandle az t,.pointer (some ⟨w.heap.size,0,none⟩),.int .u64 151] 150)) fun e w'=>e= .returned (.tuple #[])/\R w'):
  Calls az 138 #[.iface t (.slice p n c),.func UN LG ra] w fun e w'=>e= .returned (.tuple #[])/\R w':=by
 have aC:=run_valueOf_slice (P:=az) t e i hi aN p n c w;have ag:=fun w=>run_swapper_slice (P:=az) t e i ej hi aN tA ke u2 p n c f aR w;have av:=fun a w bk=>run_valueLen_slice (P:=az) t e i hi aN C4 a p n c w bk;unfold sliceBound at bK;generalize (if swapperK n ej ke<=2 then(#[]:Array Value)else #[.slice p n c,typeHandle az e])=B at ag bK;have aeY:az.globals.size=3:=by kernel_rfl
 simp only[typeHandle,aeY]at aC av bK;have Fz:∀args w,(callFunc 161 args).run az w= .ok (.enter 161 args) w:=enters_of Tryz.func161 ci rfl;go_enter Tryz.func138,Tryz.ntmps138;go_wp2;rw[run_callFunc_extern Tryz.func159 ci ci ci (e:=fun args=>anF (args.getD 0 (.tuple #[]))) ci,
  show Sem.run az ((fun args:Array Value=>anF (args.getD 0 (.tuple #[]))) #[.iface t (.slice p n c)]) w=_ from aC]
 simp only[Result.andThen];rw[Oper.upon_value];go_wp2;rw[run_callFunc_extern Tryz.func160 ci ci ci (e:=arZ "internal/reflectlite" (anG "Swapper")) ci,ag];simp only[Result.andThen];rw[Oper.upon_value];go_wp2;rw[run_callFunc_extern Tryz.func162 ci ci ci (e:=ar1 (anG "reflectlite.Value.Len" 0) ar0) ci,
  av _ _ Ψ]
 simp only[Result.andThen];rw[Oper.upon_value];go_wp2_with (go_at_fn 161;refine bK.mono ?_;rintro e w' ⟨rfl,bG⟩);go_end0;exact⟨rfl,bG⟩
theorem _root_.Go.Pv.Good.prMono{pr DX:Nat->Prop}{w:World}{Z:bc}{b:List (aL×List ai)}{e:List (aL×fN)}(h:Pv.Good pr w Z b e)(bK:∀bl,pr bl->fx Z ⟨b,e⟩ bl->DX bl):Pv.Good DX w Z b e:=by
 refine⟨h.alt,fun k cs ad=>?_,h.inj,fun g o aX=>?_,h.oinj,h.obx,h.one,h.otr⟩
 ·obtain⟨bl,us,el,f1,f2,f3⟩:=h.box k cs ad;exact⟨bl,us,el,f1,bK bl f2 (.inl ⟨k,by simp[ad],f1⟩),f3⟩
 ·obtain⟨v,us,f1,f2,f3,f4⟩:=h.own g o aX;exact⟨v,us,f1,f2,fun bl ab=>⟨bK bl (f3 bl ab).1 (.inr ⟨g,o.n,v,by simp[aX],f1,ab⟩),(f3 bl ab).2⟩,f4⟩
theorem SF(w:World)(hf gU:Obj):w.grownBy ((w.alloc hf).alloc gU) none:=by
 have J:w.heap.size<=(w.alloc hf).heap.size:=by simp
 have U:(w.alloc hf).heap.size<=((w.alloc hf).alloc gU).heap.size:=by simp
 exact⟨rfl,rfl,rfl,kn J U,fun k ad _=>(Below.heap_alloc _ gU k (Nat.lt_of_lt_of_le ad J)).trans (Below.heap_alloc w hf k ad)⟩
def dT{α:Type}(e:α->ai)(K B el sz:Nat)(l:List α):cS:=⟨[(.obj B,[.row sz (.obj K) l.length])],[(.obj K,⟨l.length,el,sz,some (l.map e)⟩)]⟩
section
variable {α:Type} {e:α->ai} (he:∀S x,aG S (e x)) {K B el sz:Nat}
include he
theorem agR(S:aL->Prop)(l:List α):aP S (l.map e):=by
 induction l with
 |nil=>simp[aP]
 |cons x r bU=>simp only[hk,aP];exact⟨he S x,bU⟩
theorem xL(l:List α):dR (dT e K B el sz l):=by unfold dT;refine dR.of ⟨by intro m;simp[Pv.look],by intro m;simp[Pv.look]⟩ d9 ?_;intro x ae xs hN;simp at ae;subst ae;simp at hN;subst hN;exact agR he _ l
omit he in
theorem xM(l a1:List α):Same (dT e K B el sz l) (dT e K B el sz a1):=by
 refine⟨fun k=>?_,fun k=>?_⟩
 ·simp only[dT,Pv.look];split<;>rfl
 ·simp only[dT,Pv.look];split<;>rfl
theorem adx(t:gP)(i ej:TypeInfo)(hi:az.info? t=some i)(aN:i.desc= .slice el)(C4:az.packed t=false)(tA:az.info? el=some ej)(ke:Nat)(u2:∀w,(YN el).run az w= .ok ke w)(pI:∀n,2<=n->swapperK n ej ke=9)
  (g:Nat) (lt:α->α->Bool) (bs:qJ lt) (l:List α) (av:l.length<=68719476736)
  (yj:∀a1:List α,a1.length=l.length->∀(i j:Nat) x y,a1[i]? =some x->a1[j]? =some y->bH az g [.int .i64 i,.int .i64 j,.ptr (.obj B) 0] (dT e K B el sz a1) fun r ah=>r= .bool (lt x y)/\ah=dT e K B el sz a1)
  (Ax:∀a1:List α,a1.length=l.length->∀i j:Nat,i<l.length->j<l.length->bH az 186 [.int .i64 i,.int .i64 j,.row sz (.obj K) l.length,.cst (typeHandle az el)] (dT e K B el sz a1) fun r ah=>r= .tuple []/\ah=dT e K B el sz (ho a1 i j)):
  bH az 138 [.iface t (.row sz (.obj K) l.length),.func g [.ptr (.obj B) 0]] (dT e K B el sz l) fun r ah=>r= .tuple []/\∃a1,ah=dT e K B el sz a1/\a1.Perm l/\a1.Pairwise fun x y=>lt y x=false:=by
 have CN:az.funcs.findIdx? (·.name== "internal/reflectlite" ++ ".Swapper$" ++toString 1)=some 178:=by kernel_rfl
 have uX:az.funcs.findIdx? (·.name== "internal/reflectlite" ++ ".Swapper$" ++toString 2)=some 179:=by kernel_rfl
 have KD:az.funcs.findIdx? (·.name== "internal/reflectlite" ++ ".Swapper$" ++toString 9)=some 186:=by kernel_rfl
 have K6:∃f b2,az.funcs.findIdx? (·.name== "internal/reflectlite" ++ ".Swapper$" ++toString (swapperK l.length ej ke))=some f/\(b2=(if swapperK l.length ej ke<=2 then []else [ai.row sz (.obj K) l.length,.cst (typeHandle az el)]))/\
   bH az 161 [eY g f [.ptr (.obj B) 0] b2,.int .i64 l.length] (dT e K B el sz l) fun r ah=>r= .tuple []/\∃a1,ah=dT e K B el sz a1/\gu 0 l.length l a1/\fe lt 0 l.length a1:=by
  have eA:=fun a1=>xL (K:=K) (B:=B) (el:=el) (sz:=sz) he a1;rcases(by omega:l.length=0\/l.length=1\/2<=l.length)with bE|J|U
  ·refine⟨178,[],by rw[bE];exact CN,by rw[bE];rfl,Kh (lt:=lt) ⟨eA,fun ka hd _ _=>xM ka hd,fun a1 _=>by simp[aP,aG,inObs,dT,Pv.look],fun a1 _=>by simp[aP],by simp[ey,dv],rfl,av,fun a1 h=>yj a1 h,fun a1 _ U i j hi=>Ω⟩ bs l rfl⟩
  ·refine⟨179,[],by rw[J];exact uX,by rw[J];rfl,Kh (lt:=lt) ⟨eA,fun ka hd _ _=>xM ka hd,fun a1 _=>by simp[aP,aG,inObs,dT,Pv.look],fun a1 _=>by simp[aP],by simp[ey,dv],rfl,av,fun a1 h=>yj a1 h,fun a1 _ U i j hi af=>Ω⟩ bs l rfl⟩
  ·refine⟨186,_,by rw[pI _ U];exact KD,rfl,?_⟩;rw[pI _ U];simp only[show¬((9:Nat)<=2)from by decide,if_false];exact Kh (lt:=lt) ⟨eA,fun ka hd _ _=>xM ka hd,fun a1 _=>by simp[aP,aG,inObs,dT,Pv.look],fun a1 _=>by simp[aP,aG,inObs,dT,Pv.look],by simp[ey,dv],by simp[ey,dv],av,fun a1 h=>yj a1 h,fun a1 h _ i j hi af=>Ax a1 h i j hi af⟩ bs l rfl
 obtain⟨f,b2,aR,K2,da⟩:=K6;intro w Z ba aX ae aJ;have qj:=cZ.start (xL he l).obj aX ae aJ;have KY:=aJ;simp only[cX,bd]at aJ;obtain⟨v0,vs1,hv0,⟨u,rfl,⟨b,cap,rfl⟩,ir,n',fa,ao,aF,bA⟩,v1,vs2,hv1,⟨ra,rfl,q1⟩,rfl⟩:=aJ;have k6:ba= #[.iface t (.slice (some ⟨b,0,none⟩) l.length cap),.func (.func g) #[] ra]:=by apply Array.ext';rw[hv0,hv1]
 subst k6;have pL:∃fn,az.funcs[(138:Nat)]? =some fn/\fn.body.isSome=true/\(fn.name== "runtime.NumGoroutine")=false:=⟨_,Tryz.func138,by kernel_rfl,by kernel_rfl⟩;refine .inl ⟨pL,?_⟩;obtain⟨dP,mS⟩:∃dP,dP=(w.alloc (.cells #[.slice (some ⟨b,0,none⟩) l.length cap] t)).alloc (.cells #[typeHandle az t,.pointer (some ⟨w.heap.size,0,none⟩),.int .u64 151] 150):=⟨_,rfl⟩;have j6:w.grownBy dP none:=by rw[mS];exact SF _ _ _
 have KZ:=qj.grown j6;have k5:lF w Z dP Z:=⟨fun b o bg=>⟨bg,Fs j6 (aX.alt b o bg)⟩,fun _ _ _ h=>h,fun _ n u _ h=>⟨n,u,h,.inl ⟨rfl,rfl⟩⟩,fun b o bg=>xf (j6.block b (aX.alt b o bg) Ψ),fun _ _ _ _ h=>h⟩;have qg:Pv.Good (fx Z (dT e K B el sz l)) dP Z (dT e K B el sz l).b (dT e K B el sz l).e:=KZ.good.prMono fun bl _ h=>h;have lr:=HR k5 KY;simp only[cX]at lr;obtain⟨a0,Zw,ts,C6,bB,Zx,ln,afI,rfl⟩:=lr;simp at ts;obtain⟨rfl,rfl⟩:=ts;simp at ln;subst ln;have K1:bd dP Z (.row sz (.obj K) l.length) (.slice (some ⟨b,0,none⟩) l.length cap):=by simp only[bd]at C6;obtain⟨u,hu,h⟩:=C6;simp at hu;obtain⟨_,rfl⟩:=hu;simp only[bd];exact h
 have jE:cX dP Z b2 (sliceBound az el ej ke (some ⟨b,0,none⟩) l.length cap).toList:=by
  unfold sliceBound;rw[K2];split
  ·simp[cX]
  ·simp only[cX];exact⟨_,_,rfl,K1,_,_,rfl,by simp[bd],rfl⟩
 have uS:cX dP Z [eY g f [.ptr (.obj B) 0] b2,.int .i64 l.length] (#[.agg #[.func (.func g) #[] ra,.func (.func f) #[] (sliceBound az el ej ke (some ⟨b,0,none⟩) l.length cap)],.int .i64 l.length]:Array Value).toList:=by simp only[cX,eY];refine⟨_,_,rfl,?_,_,_,rfl,by simp[bd],rfl⟩;simp only[bd,ds];exact⟨_,rfl,_,_,rfl,⟨⟨ra,rfl,HR k5 q1⟩,rfl⟩,_,_,rfl,⟨⟨_,rfl,jE⟩,rfl⟩,rfl⟩
 have KA:=da dP Z _ qg ae uS;have Fz:∀args w,(callFunc 161 args).run az w= .ok (.enter 161 args) w:=enters_of Tryz.func161 ci rfl;rcases KA with⟨_,aq⟩|⟨v,w',aq,_⟩
 ·have KO:=alz t el i ej hi aN C4 tA ke u2 (some ⟨b,0,none⟩) l.length cap Ω f aR (.func g) #[] ra w
   (fun w'=> ∃ah bn,(∃a1,ah=dT e K B el sz a1/\gu 0 l.length l a1/\fe lt 0 l.length a1)/\Pv.Good (fun bl=>fx Z (dT e K B el sz l) bl\/dP.heap.size<=bl) w' bn ah.b ah.e/\pF bn ah/\jc ah/\qI ⟨dP,Z,fx Z (dT e K B el sz l),0,c2 (dT e K B el sz l)⟩ w' bn) (by
    rw[<-mS];refine aq.mono ?_;rintro e w' ⟨v,r,ah,bn,rfl,⟨rfl,bF⟩,wD,a8,b8,de,dX⟩;simp only[bd,cX]at wD;obtain⟨us,rfl,q3⟩:=wD;have:us= #[]:=by apply Array.ext';simpa using q3
    subst this;exact⟨rfl,ah,bn,bF,a8,b8,de,dX⟩)
  refine KO.mono ?_;rintro e w' ⟨rfl,ah,bn,⟨a1,rfl,Gq,Aw⟩,a8,b8,de,dX⟩;refine⟨.tuple #[],.tuple [],_,bn,rfl,⟨rfl,a1,rfl,Gq.perm,?_⟩,by simp[bd,cX],a8.prMono fun bl h _=>?_,b8,de,⟨dX.os.trans j6.os,dX.tape.trans j6.tape,dX.output.trans j6.output,kn j6.size dX.size,fun k ad hm=>?_,fun b o bg=>?_,fun b o bg=>?_,dX.obj,dX.obn,dX.row,dX.obr,dX.trd,fun k j b ab=>⟨(dX.trb k j b ab).1.imp id (fun h=>kn j6.size h),(dX.trb k j b ab).2⟩,dX.trn,fun b o bg=>(dX.sh b o bg).trans (k5.sh b o bg)⟩⟩
  ·have yk:=Gq.length;rw[<-yk]at Aw;exact Aw.pairwise
  ·rcases h with h|h
   ·exact .inl h
   ·exact .inr (kn j6.size h)
  ·rw[dX.block k (Nat.lt_of_lt_of_le ad j6.size) hm];exact j6.block k ad Ψ
  ·obtain⟨aU,bp⟩:=dX.keep b o bg;exact⟨aU,bp.trans (k5.A b o bg).2⟩
  ·rcases dX.fresh b o bg with h|h|h
   ·exact .inl h
   ·exact .inr (.inl h)
   ·exact .inr (.inr (kn j6.size h))
 ·rw[Fz]at aq;cases aq
end
end
end Go.Proofs.YtohaalphocaebaaGreatDoor
namespace Go.Proofs
section
open Go.Shelf
def Tryz.lays6_ren:Go.Shelf.Ren:=⟨fun|6=>147|10=>159|11=>160|12=>162|13=>169|14=>170|24=>194|25=>195|26=>187|27=>196|28=>197|29=>198|30=>199|31=>200|32=>201|33=>202|34=>209|35=>210|36=>211|37=>212|38=>213|39=>218|n=>n,fun|20=>20|26=>138|35=>150|0=>0|37=>152|3=>3|41=>117|44=>156|49=>181|51=>170|4=>4|54=>183|53=>182|58=>161|5=>5|9=>9|60=>190|64=>194|66=>197|67=>198|17=>17|32=>147|33=>148|82=>227|12=>12|75=>220|76=>221|77=>222|78=>223|79=>224|80=>225|n=>n,fun|n=>n⟩
theorem Tryz.lays6:Go.Proofs.LaysGg.n6 az Tryz.lays6_ren:={
 mixed:=by kernel_rfl
 f6:=Tryz.func147.trans (eK some ci)
 f10:=Tryz.func159.trans (eK some ci)
 f11:=Tryz.func160.trans (eK some ci)
 f12:=Tryz.func162.trans (eK some ci)
 f13:=Tryz.func169.trans (eK some ci)
 f14:=Tryz.func170.trans (eK some ci)
 f24:=Tryz.func194.trans (eK some ci)
 f25:=Tryz.func195.trans (eK some ci)
 f26:=Tryz.func187.trans (eK some ci)
 f27:=Tryz.func196.trans (eK some ci)
 f28:=Tryz.func197.trans (eK some ci)
 f29:=Tryz.func198.trans (eK some ci)
 f30:=Tryz.func199.trans (eK some ci)
 f31:=Tryz.func200.trans (eK some ci)
 f32:=Tryz.func201.trans (eK some ci)
 f33:=Tryz.func202.trans (eK some ci)
 f34:=Tryz.func209.trans (eK some ci)
 f35:=Tryz.func210.trans (eK some ci)
 f36:=Tryz.func211.trans (eK some ci)
 f37:=Tryz.func212.trans (eK some ci)
 f38:=Tryz.func213.trans (eK some ci)
 f39:=Tryz.func218.trans (eK some ci)
 t0:=Tryz.underlying0
 a0:=Tryz.isAgg0
 z0:=Tryz.sizeOf0
 v0:=Tryz.zeroValue0
 i0:=by kernel_rfl
 t3:=Tryz.underlying3
 a3:=Tryz.isAgg3
 z3:=Tryz.sizeOf3
 v3:=Tryz.zeroValue3
 i3:=by kernel_rfl
 t4:=Tryz.underlying4
 a4:=Tryz.isAgg4
 z4:=Tryz.sizeOf4
 v4:=Tryz.zeroValue4
 i4:=by kernel_rfl
 t5:=Tryz.underlying5
 a5:=Tryz.isAgg5
 z5:=Tryz.sizeOf5
 v5:=Tryz.zeroValue5
 i5:=by kernel_rfl
 t9:=Tryz.underlying9
 a9:=Tryz.isAgg9
 z9:=Tryz.sizeOf9
 v9:=Tryz.zeroValue9
 i9:=by kernel_rfl
 t12:=Tryz.underlying12
 a12:=Tryz.isAgg12
 z12:=Tryz.sizeOf12
 v12:=Tryz.zeroValue12
 i12:=by kernel_rfl
 t17:=Tryz.underlying17
 a17:=Tryz.isAgg17
 z17:=Tryz.sizeOf17
 v17:=Tryz.zeroValue17
 i17:=by kernel_rfl
 t20:=Tryz.underlying20
 a20:=Tryz.isAgg20
 z20:=Tryz.sizeOf20
 v20:=Tryz.zeroValue20
 i20:=by kernel_rfl
 t26:=Tryz.underlying138
 a26:=Tryz.isAgg138
 z26:=Tryz.sizeOf138
 v26:=Tryz.zeroValue138
 i26:=by kernel_rfl
 t32:=Tryz.underlying147
 a32:=Tryz.isAgg147
 z32:=Tryz.sizeOf147
 v32:=Tryz.zeroValue147
 i32:=by kernel_rfl
 t33:=Tryz.underlying148
 a33:=Tryz.isAgg148
 z33:=Tryz.sizeOf148
 v33:=Tryz.zeroValue148
 i33:=by kernel_rfl
 t35:=Tryz.underlying150
 a35:=Tryz.isAgg150
 z35:=Tryz.sizeOf150
 v35:=Tryz.zeroValue150
 i35:=by kernel_rfl
 t37:=Tryz.underlying152
 a37:=Tryz.isAgg152
 z37:=Tryz.sizeOf152
 v37:=Tryz.zeroValue152
 i37:=by kernel_rfl
 t41:=Tryz.underlying117
 a41:=Tryz.isAgg117
 z41:=Tryz.sizeOf117
 v41:=Tryz.zeroValue117
 i41:=by kernel_rfl
 t44:=Tryz.underlying156
 a44:=Tryz.isAgg156
 z44:=Tryz.sizeOf156
 v44:=Tryz.zeroValue156
 i44:=by kernel_rfl
 t49:=Tryz.underlying181
 a49:=Tryz.isAgg181
 z49:=Tryz.sizeOf181
 v49:=Tryz.zeroValue181
 i49:=by kernel_rfl
 t51:=Tryz.underlying170
 a51:=Tryz.isAgg170
 z51:=Tryz.sizeOf170
 v51:=Tryz.zeroValue170
 i51:=by kernel_rfl
 t53:=Tryz.underlying182
 a53:=Tryz.isAgg182
 z53:=Tryz.sizeOf182
 v53:=Tryz.zeroValue182
 i53:=by kernel_rfl
 t54:=Tryz.underlying183
 a54:=Tryz.isAgg183
 z54:=Tryz.sizeOf183
 v54:=Tryz.zeroValue183
 i54:=by kernel_rfl
 t58:=Tryz.underlying161
 a58:=Tryz.isAgg161
 z58:=Tryz.sizeOf161
 v58:=Tryz.zeroValue161
 i58:=by kernel_rfl
 t60:=Tryz.underlying190
 a60:=Tryz.isAgg190
 z60:=Tryz.sizeOf190
 v60:=Tryz.zeroValue190
 i60:=by kernel_rfl
 t64:=Tryz.underlying194
 a64:=Tryz.isAgg194
 z64:=Tryz.sizeOf194
 v64:=Tryz.zeroValue194
 i64:=by kernel_rfl
 t66:=Tryz.underlying197
 a66:=Tryz.isAgg197
 z66:=Tryz.sizeOf197
 v66:=Tryz.zeroValue197
 i66:=by kernel_rfl
 t67:=Tryz.underlying198
 a67:=Tryz.isAgg198
 z67:=Tryz.sizeOf198
 v67:=Tryz.zeroValue198
 i67:=by kernel_rfl
 t75:=Tryz.underlying220
 a75:=Tryz.isAgg220
 z75:=Tryz.sizeOf220
 v75:=Tryz.zeroValue220
 i75:=by kernel_rfl
 t76:=Tryz.underlying221
 a76:=Tryz.isAgg221
 z76:=Tryz.sizeOf221
 v76:=Tryz.zeroValue221
 i76:=by kernel_rfl
 t77:=Tryz.underlying222
 a77:=Tryz.isAgg222
 z77:=Tryz.sizeOf222
 v77:=Tryz.zeroValue222
 i77:=by kernel_rfl
 t78:=Tryz.underlying223
 a78:=Tryz.isAgg223
 z78:=Tryz.sizeOf223
 v78:=Tryz.zeroValue223
 i78:=by kernel_rfl
 t79:=Tryz.underlying224
 a79:=Tryz.isAgg224
 z79:=Tryz.sizeOf224
 v79:=Tryz.zeroValue224
 i79:=by kernel_rfl
 t80:=Tryz.underlying225
 a80:=Tryz.isAgg225
 z80:=Tryz.sizeOf225
 v80:=Tryz.zeroValue225
 i80:=by kernel_rfl
 t82:=Tryz.underlying227
 a82:=Tryz.isAgg227
 z82:=Tryz.sizeOf227
 v82:=Tryz.zeroValue227
 i82:=by kernel_rfl}
end
end Go.Proofs
namespace Go.Proofs.YtohaalphocaebaaGreatDoor
section
open Go Go.RowKit Go.Lib Go.Pv Go.Proofs
theorem ZG(n:Nat)(h:n<1099511627776):Lib.bitLen n<=1000:=by
 have:∀f x,bitLenAux f x<=f:=by
  intro f;induction f with
  |zero=>intro x;simp[bitLenAux]
  |succ f bU=>
   intro x;rw[bitLenAux];split
   ·omega
   ·have:=bU (x/2);omega
 have:=this 64 n;unfold Lib.bitLen;omega
theorem ajU{α:Type}[Inhabited α]{lt:α->α->Bool}{l:List α}{cl:Array α}(h:Sort.PermIn 0 l.length l.toArray cl)(ag:Sort.SortedIn lt 0 l.length cl):cl.toList.Perm l/\cl.toList.Pairwise fun x y=>lt y x=false:=by
 obtain⟨la,_,z3⟩:=h;have dS:cl.size=l.length:=by simpa using la
 have ao:cl.extract 0 l.length=cl:=by rw[<-dS];simp
 have aF:l.toArray.extract 0 l.length=l.toArray:=by simp
 rw[ao,aF]at z3;refine⟨by simpa using z3,?_⟩;rw[pg];intro i j hi af lM;have J:=ag i j Ω lM (by simpa[dS]using af);have tz:i<cl.size:=by simpa using hi
 have jB:j<cl.size:=by simpa using af
 rw[getElem!_pos cl i tz,getElem!_pos cl j jB]at J;simpa using J
section
variable {α:Type} {e:α->ai} (he:∀S x,aG S (e x)) {K B el sz:Nat}
include he
theorem Sm[Inhabited α](SL:K≠901/\K≠902)(SJ:B≠901/\B≠902)(t:gP)(i ej:TypeInfo)(hi:az.info? t=some i)(aN:i.desc= .slice el)(C4:az.packed t=false)(tA:az.info? el=some ej)(ke:Nat)(u2:∀w,(YN el).run az w= .ok ke w)(pI:∀n,2<=n->swapperK n ej ke=9)
  (g:Nat) (lt:α->α->Bool) (bs:Sort.SWO lt) (l:List α) (av:l.length<=68719476736)
  (yj:∀a1:List α,a1.length=l.length->∀(i j:Nat) x y,a1[i]? =some x->a1[j]? =some y->bH az g [.int .i64 i,.int .i64 j,.ptr (.obj B) 0] (dT e K B el sz a1) fun r ah=>r= .bool (lt x y)/\ah=dT e K B el sz a1)
  (Ax:∀a1:List α,a1.length=l.length->∀i j:Nat,i<l.length->j<l.length->bH az 186 [.int .i64 i,.int .i64 j,.row sz (.obj K) l.length,.cst (typeHandle az el)] (dT e K B el sz a1) fun r ah=>r= .tuple []/\ah=dT e K B el sz (ho a1 i j)):
  bH az 147 [.iface t (.row sz (.obj K) l.length),.func g [.ptr (.obj B) 0]] (dT e K B el sz l) fun r ah=>r= .tuple []/\∃a1,ah=dT e K B el sz a1/\a1.Perm l/\a1.Pairwise fun x y=>lt y x=false:=by
 have CN:az.funcs.findIdx? (·.name== "internal/reflectlite" ++ ".Swapper$" ++toString 1)=some 178:=by kernel_rfl
 have uX:az.funcs.findIdx? (·.name== "internal/reflectlite" ++ ".Swapper$" ++toString 2)=some 179:=by kernel_rfl
 have KD:az.funcs.findIdx? (·.name== "internal/reflectlite" ++ ".Swapper$" ++toString 9)=some 186:=by kernel_rfl
 have yp:sx (dT e K B el sz) 901:=fun l=>⟨by simp[dT,Pv.look,SJ.1],by simp[dT,Pv.look,SL.1]⟩;have yq:sx (dT e K B el sz) 902:=fun l=>⟨by simp[dT,Pv.look,SJ.2],by simp[dT,Pv.look,SL.2]⟩;have e8:=ZG l.length Ω;have K6:∃f b2,az.funcs.findIdx? (·.name== "internal/reflectlite" ++ ".Swapper$" ++toString (swapperK l.length ej ke))=some f/\(b2=(if swapperK l.length ej ke<=2 then []else [ai.row sz (.obj K) l.length,.cst (typeHandle az el)]))/\
   bH az 170 [eY g f [.ptr (.obj B) 0] b2,.int .i64 0,.int .i64 l.length,.int .i64 (Lib.bitLen l.length)] (dT e K B el sz l) fun r ah=>r= .tuple []/\∃a1,ah=dT e K B el sz a1/\a1.Perm l/\a1.Pairwise fun x y=>lt y x=false:=by
  have eA:=fun a1=>xL (K:=K) (B:=B) (el:=el) (sz:=sz) he a1;have key:∀{b9:Nat} {b2:List ai},e7 (dT e K B el sz) l.length g b9 [.ptr (.obj B) 0] b2 lt->bH az 170 [eY g b9 [.ptr (.obj B) 0] b2,.int .i64 0,.int .i64 l.length,.int .i64 (Lib.bitLen l.length)] (dT e K B el sz l) fun r ah=>r= .tuple []/\∃a1,ah=dT e K B el sz a1/\a1.Perm l/\a1.Pairwise fun x y=>lt y x=false:=by intro b9 b2 H;have:=adS H yp yq bs l.length l.toArray Ψ 0 l.length (Lib.bitLen l.length) Ω Ω (eX _) Ω (.inl rfl);simp only[Int.ofNat_zero,Int.natCast_zero,Int.cast_ofNat_Int]at this;refine bH.mono this ?_;rintro r ah ⟨a6,cl,bD,bY,c5⟩;obtain⟨c0,du⟩:=ajU bY c5;exact⟨a6,cl.toList,bD,c0,du⟩
  rcases(by omega:l.length=0\/l.length=1\/2<=l.length)with bE|J|U
  ·refine⟨178,[],by rw[bE];exact CN,by rw[bE];rfl,key ⟨eA,fun ka hd _ _=>xM ka hd,fun a1 _=>by simp[aP,aG,inObs,dT,Pv.look],fun a1 _=>by simp[aP],by simp[ey,dv],rfl,av,fun a1 h=>yj a1 h,fun a1 _ U i j hi=>Ω⟩⟩
  ·refine⟨179,[],by rw[J];exact uX,by rw[J];rfl,key ⟨eA,fun ka hd _ _=>xM ka hd,fun a1 _=>by simp[aP,aG,inObs,dT,Pv.look],fun a1 _=>by simp[aP],by simp[ey,dv],rfl,av,fun a1 h=>yj a1 h,fun a1 _ U i j hi af=>Ω⟩⟩
  ·refine⟨186,_,by rw[pI _ U];exact KD,rfl,?_⟩;rw[pI _ U];simp only[show¬((9:Nat)<=2)from by decide,if_false];exact key ⟨eA,fun ka hd _ _=>xM ka hd,fun a1 _=>by simp[aP,aG,inObs,dT,Pv.look],fun a1 _=>by simp[aP,aG,inObs,dT,Pv.look],by simp[ey,dv],by simp[ey,dv],av,fun a1 h=>yj a1 h,fun a1 h _ i j hi af=>Ax a1 h i j hi af⟩
 obtain⟨f,b2,aR,K2,da⟩:=K6;intro w Z ba aX ae aJ;have qj:=cZ.start (xL he l).obj aX ae aJ;have KY:=aJ;simp only[cX,bd]at aJ;obtain⟨v0,vs1,hv0,⟨u,rfl,⟨b,cap,rfl⟩,ir,n',fa,ao,aF,bA⟩,v1,vs2,hv1,⟨ra,rfl,q1⟩,rfl⟩:=aJ;have k6:ba= #[.iface t (.slice (some ⟨b,0,none⟩) l.length cap),.func (.func g) #[] ra]:=by apply Array.ext';rw[hv0,hv1]
 subst k6;have pL:∃fn,az.funcs[(147:Nat)]? =some fn/\fn.body.isSome=true/\(fn.name== "runtime.NumGoroutine")=false:=⟨_,Tryz.func147,by kernel_rfl,by kernel_rfl⟩;refine .inl ⟨pL,?_⟩;obtain⟨dP,mS⟩:∃dP,dP=sliceWorld az Tryz.lays6_ren t (some ⟨b,0,none⟩) l.length cap w:=⟨_,rfl⟩;have j6:w.grownBy dP none:=by rw[mS];unfold sliceWorld;exact SF _ _ _
 have KZ:=qj.grown j6;have k5:lF w Z dP Z:=⟨fun b o bg=>⟨bg,Fs j6 (aX.alt b o bg)⟩,fun _ _ _ h=>h,fun _ n u _ h=>⟨n,u,h,.inl ⟨rfl,rfl⟩⟩,fun b o bg=>xf (j6.block b (aX.alt b o bg) Ψ),fun _ _ _ _ h=>h⟩;have qg:Pv.Good (fx Z (dT e K B el sz l)) dP Z (dT e K B el sz l).b (dT e K B el sz l).e:=KZ.good.prMono fun bl _ h=>h;have lr:=HR k5 KY;simp only[cX]at lr;obtain⟨a0,Zw,ts,C6,bB,Zx,ln,afI,rfl⟩:=lr;simp at ts;obtain⟨rfl,rfl⟩:=ts;simp at ln;subst ln;have K1:bd dP Z (.row sz (.obj K) l.length) (.slice (some ⟨b,0,none⟩) l.length cap):=by simp only[bd]at C6;obtain⟨u,hu,h⟩:=C6;simp at hu;obtain⟨_,rfl⟩:=hu;simp only[bd];exact h
 have jE:cX dP Z b2 (sliceBound az el ej ke (some ⟨b,0,none⟩) l.length cap).toList:=by
  unfold sliceBound;rw[K2];split
  ·simp[cX]
  ·simp only[cX];exact⟨_,_,rfl,K1,_,_,rfl,by simp[bd],rfl⟩
 have uS:cX dP Z [eY g f [.ptr (.obj B) 0] b2,.int .i64 0,.int .i64 l.length,.int .i64 (Lib.bitLen l.length)] (#[.agg #[.func (.func g) #[] ra,.func (.func f) #[] (sliceBound az el ej ke (some ⟨b,0,none⟩) l.length cap)],.int .i64 0,.int .i64 l.length,.int .i64 (Lib.bitLen l.length)]:Array Value).toList:=by simp only[cX,eY];refine⟨_,_,rfl,?_,_,_,rfl,by simp[bd],_,_,rfl,by simp[bd],_,_,rfl,by simp[bd],rfl⟩;simp only[bd,ds];exact⟨_,rfl,_,_,rfl,⟨⟨ra,rfl,HR k5 q1⟩,rfl⟩,_,_,rfl,⟨⟨_,rfl,jE⟩,rfl⟩,rfl⟩
 have KA:=da dP Z _ qg ae uS;have Fz:∀args w,(callFunc 170 args).run az w= .ok (.enter 170 args) w:=enters_of Tryz.func170 ci rfl;rcases KA with⟨_,aq⟩|⟨v,w',aq,_⟩
 ·have KO:=Any.sort_Slice_of_pdq Tryz.lays6 t el i ej hi aN C4 tA ke u2 (some ⟨b,0,none⟩) l.length cap Ω f aR (.func g) #[] ra w
   (fun w'=> ∃ah bn,(∃a1,ah=dT e K B el sz a1/\a1.Perm l/\a1.Pairwise fun x y=>lt y x=false)/\Pv.Good (fun bl=>fx Z (dT e K B el sz l) bl\/dP.heap.size<=bl) w' bn ah.b ah.e/\pF bn ah/\jc ah/\qI ⟨dP,Z,fx Z (dT e K B el sz l),0,c2 (dT e K B el sz l)⟩ w' bn) (by
    rw[<-mS];refine aq.mono ?_;rintro e w' ⟨v,r,ah,bn,rfl,⟨rfl,bF⟩,wD,a8,b8,de,dX⟩;simp only[bd,cX]at wD;obtain⟨us,rfl,q3⟩:=wD;have:us= #[]:=by apply Array.ext';simpa using q3
    subst this;exact⟨rfl,ah,bn,bF,a8,b8,de,dX⟩)
  refine KO.mono ?_;rintro e w' ⟨rfl,ah,bn,⟨a1,rfl,Gq,Aw⟩,a8,b8,de,dX⟩;refine⟨.tuple #[],.tuple [],_,bn,rfl,⟨rfl,a1,rfl,Gq,Aw⟩,by simp[bd,cX],a8.prMono fun bl h _=>?_,b8,de,⟨dX.os.trans j6.os,dX.tape.trans j6.tape,dX.output.trans j6.output,kn j6.size dX.size,fun k ad hm=>?_,fun b o bg=>?_,fun b o bg=>?_,dX.obj,dX.obn,dX.row,dX.obr,dX.trd,fun k j b ab=>⟨(dX.trb k j b ab).1.imp id (fun h=>kn j6.size h),(dX.trb k j b ab).2⟩,dX.trn,fun b o bg=>(dX.sh b o bg).trans (k5.sh b o bg)⟩⟩
  ·rcases h with h|h
   ·exact .inl h
   ·exact .inr (kn j6.size h)
  ·rw[dX.block k (Nat.lt_of_lt_of_le ad j6.size) hm];exact j6.block k ad Ψ
  ·obtain⟨aU,bp⟩:=dX.keep b o bg;exact⟨aU,bp.trans (k5.A b o bg).2⟩
  ·rcases dX.fresh b o bg with h|h|h
   ·exact .inl h
   ·exact .inr (.inl h)
   ·exact .inr (.inr (kn j6.size h))
 ·rw[Fz]at aq;cases aq
end
end
section
open Go Go.Pv Go.Lib
abbrev xK(l:List bo):cS:=dT bo.e 814 815 56 2 l
theorem Vm:∀(S:aL->Prop) (x:bo),aG S x.e:=fun S x=>by simp
theorem IF(l:List bo):dR (xK l):=xL Vm l
theorem ahb:Sort.SWO (hU fi):=by
 refine⟨fun x=>?_,fun x y z J U=>?_,fun x y z J U=>?_⟩
 ·simp only[hU,gC];have:=lY.refl x;omega
 ·simp only[hU,e6]at*;exact lY.ltr J Ω
 ·simp only[hU,gC]at*;have ao:=lY.neg x y;have aF:=lY.neg y z;have bA:=lY.neg x z;have:=lY.tr z y x Ω Ω;omega
theorem ads(l:List bo)(i j:Nat)(x y:bo)(av:l.length<=68719476736)(hi:l[i]? =some x)(af:l[j]? =some y):bH az 150 [.int .i64 i,.int .i64 j,.ptr (.obj 815) 0] (xK l) fun r ah=>r= .bool (hU fi x y)/\ah=xK l:=by have ag:=IF l;obtain⟨mi,hL⟩:=fb.1 hi;obtain⟨dZ,oc⟩:=fb.1 af;unfold xK dT at ag⊢;refine bH.mk mixed ki aa9 ahQ Ψ ag.obj fun aT cI=>?_;unfold Ph;simp[mi,dZ,hL,oc];(with_reducible repeat' first|refine aj ?_|refine aD (BK _ _) ?_|refine aE (BK _ _) ?_|simp[mi,dZ,hL,oc]);refine cO.at _ (.inl rfl) ag (Same.refl _) aK aK ?_;simp[cT,V8,aW,aY,aV]
noncomputable def Tryz.maT:TypeInfo:=(az.info? 26).get ci
noncomputable def Tryz.maE:TypeInfo:=(az.info? 56).get ci
theorem Tryz.maK(n:Nat)(U:2<=n):Lib.swapperK n Tryz.maE 25=9:=by
 have a:Tryz.maE.hasPointers=true:=by kernel_rfl
 have b:Tryz.maE.bytes=24:=by kernel_rfl
 have c:(n==0)=false:=by simp;omega
 have d:(n==1)=false:=by simp;omega
 simp[Lib.swapperK,a,b,c,d]
theorem UQ{α β:Type}(f:α->β)(l:List α)(i j:Nat):(ho l i j).map f=ho (l.map f) i j:=by
 unfold ho;simp only[List.getElem?_map];cases l[i]? with
 |none=>simp
 |some x=>
  cases l[j]? with
  |none=>simp
  |some y=>simp[List.map_set]
theorem ad4(l:List bo)(av:l.length<=68719476736):bH az 147 [.iface 26 (.row 2 (.obj 814) l.length),.func 150 [.ptr (.obj 815) 0]] (xK l) fun r ah=>r= .tuple []/\ah=xK (ox fi l):=by
 refine(Sm Vm (K:=814) (B:=815) (sz:=2) (by decide) (by decide) 26 Tryz.maT Tryz.maE ci ci ci ci 25 (fun _=>by kernel_rfl) Tryz.maK 150 (hU fi) ahb l av (fun a1 h i j x y hi af=>ads a1 i j x y Ω hi af) (fun a1 h i j hi af=>?_)).mono ?_
 ·have:=Sy (P:=az) false 186 (fun args W=>run_callFunc_extern Tryz.func186 ci ci ci (e:=EM false) ci args W)
   56 Tryz.maE ci (fun _=>by kernel_rfl) (IF a1) (K:=814) (n:=l.length) (el:=56) (sz:=2) ci (xs:=a1.map bo.e) (by simp[dT,Pv.look,h]) i j hi af
  refine this.mono ?_;rintro r ah ⟨rfl,rfl⟩;refine⟨rfl,?_⟩;simp[dT,cA,UQ,h]
 ·rintro r ah ⟨rfl,a1,rfl,J,U⟩;exact⟨rfl,by rw[Xy lY J U]⟩
def oo(l:List bo):List ai:= .hdm l.length (List.range l.length)::l.flatMap fun m=>[m.e,.bool true]
def lf(m:bo)(l:List bo):List bo:=if m∈l then l else l++[m]
theorem agM(a b:bo):q7 (.a [false,true]) a.e b.e=some (decide (a=b)):=by simp only[bo.e,q7,kq,if_true,oH];congr 1;rw[p1];cases a;cases b;simp
theorem agN(a:bo):vf (.a [false,true]) a.e=true:=by simp[bo.e,vf,kq,-IU]
theorem Vq(m:bo):∀l:List bo,sw (.a [false,true]) m.e (.bool true) (l.flatMap fun m=>[m.e,.bool true])=some (if m∈l then some (l.flatMap fun m=>[m.e,.bool true])else none)
 |[]=>rfl
 |a::l=>by
  simp only[List.flatMap_cons,bO,bS,sw,agM];by_cases h:m=a
  ·subst h;simp
  ·have b4:decide (m=a)=false:=by simp[h]
   rw[b4];simp only[Vq m l];by_cases hm:m∈l
   ·simp[hm]
   ·simp[hm,h]
@[simp]theorem aqM(m:bo)(l:List bo):nK (.a [false,true]) m.e (.bool true) (oo l)=some (oo (lf m l)):=by
 simp only[oo,nK,agN,Bool.true_eq_false,reduceCtorEq,if_false,Vq,lf];by_cases h:m∈l
 ·simp[h]
 ·simp[h,List.range_succ]
end
section
open Go Go.Pv
@[simp]theorem AO(S:aL->Prop)(l:List bo):aP S (oo l)=True:=by
 refine eq_true ?_;unfold oo;have:∀l:List bo,aP S (l.flatMap fun m=>[m.e,ai.bool true]):=fun l=>by
  induction l with
  |nil=>simp[aP]
  |cons x r bU=>simp only[List.flatMap_cons,bO,bS,aP,agS,aG,true_and];exact bU
 simp only[aP,aG,true_and];exact this l
@[simp]theorem aqt:[ai.hdm 0 []]=oo []:=rfl
def oK(tag:List UInt8)(l:List bo):cS:=⟨[(.obj 811,[.str tag]),(.obj 812,oo l),(.obj 813,[.gmap (.obj 812)])],[]⟩
theorem EW(tag:List UInt8)(l:List bo):dR (oK tag l):=by unfold oK;refine dR.of ⟨by intro m;simp[Pv.look],by intro m;simp[Pv.look]⟩ d9 Ψ
theorem IG(tag:List UInt8)(l a1:List bo):Same (oK tag l) (oK tag a1):=Same.keys (by simp[oK]) (by simp[oK])
theorem adr(tag:List UInt8)(v:Int)(l:List bo):bH az 149 [.int .i64 v,.ptr (.obj 813) 0,.ptr (.obj 811) 0] (oK tag l) fun r ah=>r= .tuple []/\ah=oK tag (lf ⟨v,tag⟩ l):=by have ag:=EW tag l;have fF:=EW tag (lf ⟨v,tag⟩ l);have ei:=IG tag l (lf ⟨v,tag⟩ l);unfold oK at ag fF ei⊢;refine bH.mk mixed ki aa8 ahP Ψ ag.obj fun aT cI=>?_;unfold Pg;simp;refine cO.at _ (.inr rfl) fF ei aK aK ?_;simp[cT,V7,aW,aY,aV]
end
section
open Go Go.Pv Go.Lib
abbrev vO(l:List b6):cS:=dT b6.e 803 804 59 2 l
theorem Ul:∀(S:aL->Prop) (x:b6),aG S x.e:=fun S x=>by simp
theorem EU(l:List b6):dR (vO l):=xL Ul l
def wX(x y:b6):Bool:=decide (x.v<y.v)
theorem aha:Sort.SWO wX:=⟨fun x=>by simp[wX],fun x y z J U=>by simp[wX]at*;omega,fun x y z J U=>by simp[wX]at*;omega⟩
theorem adt(l:List b6)(i j:Nat)(x y:b6)(av:l.length<=68719476736)(hi:l[i]? =some x)(af:l[j]? =some y):bH az 148 [.int .i64 i,.int .i64 j,.ptr (.obj 804) 0] (vO l) fun r ah=>r= .bool (wX x y)/\ah=vO l:=by have ag:=EU l;obtain⟨mi,hL⟩:=fb.1 hi;obtain⟨dZ,oc⟩:=fb.1 af;unfold vO dT at ag⊢;refine bH.mk mixed ki aba ahR Ψ ag.obj fun aT cI=>?_;unfold Pj;simp[mi,dZ,hL,oc];(with_reducible repeat' first|refine aj ?_|simp);refine cO.at _ (.inl rfl) ag (Same.refl _) aK aK ?_;simp[cT,V9,aW,aY,aV,wX]
noncomputable def Tryz.vkT:TypeInfo:=(az.info? 25).get ci
noncomputable def Tryz.vkE:TypeInfo:=(az.info? 59).get ci
theorem Tryz.vkK(n:Nat)(U:2<=n):Lib.swapperK n Tryz.vkE 25=9:=by
 have a:Tryz.vkE.hasPointers=false:=by kernel_rfl
 have b:Tryz.vkE.bytes=16:=by kernel_rfl
 have c:(n==0)=false:=by simp;omega
 have d:(n==1)=false:=by simp;omega
 simp[Lib.swapperK,a,b,c,d]
theorem ag9{α β:Type}(f:α->β)(l:List α)(i j:Nat):(ho l i j).map f=ho (l.map f) i j:=by
 unfold ho;simp only[List.getElem?_map];cases l[i]? with
 |none=>simp
 |some x=>
  cases l[j]? with
  |none=>simp
  |some y=>simp[List.map_set]
theorem Sx(l:List b6)(av:l.length<=68719476736):bH az 147 [.iface 25 (.row 2 (.obj 803) l.length),.func 148 [.ptr (.obj 804) 0]] (vO l) fun r ah=>r= .tuple []/\∃a1,ah=vO a1/\a1.Perm l/\a1.Pairwise fun x y=>wX y x=false:=by
 refine(Sm Ul (K:=803) (B:=804) (sz:=2) (by decide) (by decide) 25 Tryz.vkT Tryz.vkE ci ci ci ci 25 (fun _=>by kernel_rfl) Tryz.vkK 148 wX aha l av (fun a1 h i j x y hi af=>adt a1 i j x y Ω hi af) (fun a1 h i j hi af=>?_));have:=Sy (P:=az) false 186 (fun args W=>run_callFunc_extern Tryz.func186 ci ci ci (e:=EM false) ci args W)
  59 Tryz.vkE ci (fun _=>by kernel_rfl) (EU a1) (K:=803) (n:=l.length) (el:=59) (sz:=2) ci (xs:=a1.map b6.e) (by simp[dT,Pv.look,h]) i j hi af
 refine this.mono ?_;rintro r ah ⟨rfl,rfl⟩;refine⟨rfl,?_⟩;simp[dT,cA,ag9,h]
end
section
open Go Go.Pv
def gb(o:Option (List b6)):ai:= .tuple [.slice 2 .no ((o.getD []).map b6.e),.bool o.isSome]
@[simp]theorem aqe(S:aL->Prop)(o:Option (List b6)):aG S (gb o)=True:=by simp[gb]
theorem X3{l:List b6}(h:gT l):bZ az 54 [.slice 2 .no (l.map b6.e)] (.bool true):=by have:=X2 l;simpa only[h,decide_true]using this
theorem N0{t:T}(h:t.fit=true):bZ az 89 [t.e] (.bool true):=by have:=amA t;rwa[h]at this
theorem amk{s:List ak}(ag:eN s){l:List b6}(av:gT l)(t:T)(aM:t.fit=true)(k:Int):
  bZ az 98 [.slice 5 .no (s.map ak.e),.slice 2 .no (l.map b6.e),t.e,.int .i64 k] (gb (if(k=2\/k=3)/\(t.ap (bh s)).size<=5000 then jk l (t.ap (bh s)) k else none)):=by
 have yk:=q6 av;have c7:=p0 ag;have dJ:=N0 aM;have dg:=X3 av;have fq:=xz s t ag.len ag.sol.asc ag.fit;generalize ae:t.ap (bh s)=x at fq⊢;generalize dk:(if(k=2\/k=3)/\x.size<=5000 then jk l x k else none)=O;by_cases ad:k=2\/k=3;rotate_left
 ·have gy:(k !=2)=true:=by simp;omega
  have jC:(k !=3)=true:=by simp;omega
  rw[if_neg (fun h=>ad h.1)]at dk;rw[<-dk];refine bz ki rT sA fun aT=>?_;unfold qP;simp;(with_reducible repeat' first|refine aj ?_|refine aD c7 ?_|refine aE c7 ?_|refine aD dJ ?_|refine aE dJ ?_|refine aD dg ?_|refine aE dg ?_|simp[gy,jC]);simp[bu,kg,aW,aY,aV];simp[gb]
 by_cases bf:x.size<=5000;rotate_left
 ·rw[if_neg (fun h=>bf h.2)]at dk;rw[<-dk];rw[if_neg bf,ij bf]at fq;refine bz ki rT sA fun aT=>?_;unfold qP;simp;rcases ad with rfl|rfl;all_goals(with_reducible repeat' first|refine aj ?_|refine aD c7 ?_|refine aE c7 ?_|refine aD dJ ?_|refine aE dJ ?_|refine aD dg ?_|refine aE dg ?_|refine aD fq ?_|refine aE fq ?_|simp)
  all_goals simp[bu,kg,aW,aY,aV]
  all_goals simp[gb]
 rw[if_pos ⟨ad,bf⟩]at dk;rw[if_pos bf,gD bf]at fq;have q0:(k !=2)=true->(k !=3)=false:=fun h=>by simp at h⊢;omega
 have u1:((k !=2)=false)\/((k !=2)=true/\(k !=3)=false):=by
  rcases ad with rfl|rfl
  ·left;rfl
  ·right;exact⟨rfl,rfl⟩
 clear q0;cases x with
 |var n=>
  have dU:O=match iZ l n with|some bI=>if bI=k then some l else none|none=>some (lT ⟨n,k⟩ l):=by rw[<-dk];rfl
  refine bz ki rT sA fun aT=>?_;unfold qP;simp;rcases u1 with bF|⟨bF,kK⟩
  ·(with_reducible repeat' first|refine aj ?_|refine aD c7 ?_|refine aE c7 ?_|refine aD dJ ?_|refine aE dJ ?_|refine aD dg ?_|refine aE dg ?_|refine aD fq ?_|refine aE fq ?_|simp[bF]);refine dW [3,10,12,55,56] (fun i (_:Unit)=>[(57,.int .i64 i)]) l.length (fun i _=> ∀j y,j<i->l[j]? =some y->y.v≠n) () bV (fun j y af=>Ω) (fun _ af _=>?_) (fun i _ hi af _=>?_)
   ·have aX:iZ l n=none:=yD.2 fun y aH=>by obtain⟨m,hm,e⟩:=nX aH;exact af m y hm (by rw[cf hm,e])
    rw[aX]at dU;simp only at dU;simp;(with_reducible repeat' first|refine aj ?_|simp);all_goals first|(refine⟨by unfold lim;omega,?_⟩)|skip
    have key:=Sx (l++[⟨n,k⟩]) d7;have eA:=EU (l++[⟨n,k⟩]);have hlen:(l++[(⟨n,k⟩:b6)]).length=l.length+1:=by simp
    unfold vO dT at key eA;rw[hlen,List.map_append,hk,qG]at key eA;refine cW.ob key eA aK aK (by simp[inObs,Pv.look]) ?_;rintro r ah ⟨rfl,a1,rfl,J,U⟩;have tB:a1=lT ⟨n,k⟩ l:=Um (J.trans ((List.perm_append_comm (l₁:=l) (l₂:=[⟨n,k⟩])).trans (Lm ⟨n,k⟩ l).symm)) (Gw av.asc (yD.1 aX)) U;subst tB;refine⟨Same.keys Ψ Ψ,?_⟩;rw[dU];simp[cb];(with_reducible repeat' first|refine aj ?_|simp);simp[bu,kg,aW,aY,aV];simp[gb]
   ·obtain⟨b,ab,cw⟩:=ec hi;by_cases nD:b.v=n
    ·have aX:iZ l n=some b.k:=by rw[<-nD];exact Du av.asc (ed ab)
     rw[aX]at dU;simp only at dU;by_cases oR:b.k=k
     ·rw[if_pos oR]at dU;rw[dU];have ya:(b.k !=k)=false:=by simp[oR]
      have r6:(b.v==n)=true:=by simp[nD]
      simp[hi,cw];(with_reducible repeat' first|refine aj ?_|simp[cw,hi,ya,r6,oR,nD]);simp[bu,kg,aW,aY,aV];simp[gb]
     ·rw[if_neg oR]at dU;rw[dU];have ya:(b.k !=k)=true:=by simp[oR]
      have r6:(b.v==n)=true:=by simp[nD]
      simp[hi,cw];(with_reducible repeat' first|refine aj ?_|simp[cw,hi,ya,r6,oR,nD]);simp[bu,kg,aW,aY,aV];simp[gb]
    ·have r6:(b.v==n)=false:=by simp[nD]
     simp[hi,cw];(with_reducible repeat' first|refine aj ?_|simp[cw,hi,r6,nD]);exact bQ.rng () hi (fun j y jB aH=>by
      rcases(by omega:j<i\/j=i)with h|rfl
      ·exact af j y h aH
      ·rw[ab]at aH;cases aH;exact nD) bV
  ·(with_reducible repeat' first|refine aj ?_|refine aD c7 ?_|refine aE c7 ?_|refine aD dJ ?_|refine aE dJ ?_|refine aD dg ?_|refine aE dg ?_|refine aD fq ?_|refine aE fq ?_|simp[bF,kK]);refine dW [3,10,12,55,56] (fun i (_:Unit)=>[(57,.int .i64 i)]) l.length (fun i _=> ∀j y,j<i->l[j]? =some y->y.v≠n) () bV (fun j y af=>Ω) (fun _ af _=>?_) (fun i _ hi af _=>?_)
   ·have aX:iZ l n=none:=yD.2 fun y aH=>by obtain⟨m,hm,e⟩:=nX aH;exact af m y hm (by rw[cf hm,e])
    rw[aX]at dU;simp only at dU;simp;(with_reducible repeat' first|refine aj ?_|simp);all_goals first|(refine⟨by unfold lim;omega,?_⟩)|skip
    have key:=Sx (l++[⟨n,k⟩]) d7;have eA:=EU (l++[⟨n,k⟩]);have hlen:(l++[(⟨n,k⟩:b6)]).length=l.length+1:=by simp
    unfold vO dT at key eA;rw[hlen,List.map_append,hk,qG]at key eA;refine cW.ob key eA aK aK (by simp[inObs,Pv.look]) ?_;rintro r ah ⟨rfl,a1,rfl,J,U⟩;have tB:a1=lT ⟨n,k⟩ l:=Um (J.trans ((List.perm_append_comm (l₁:=l) (l₂:=[⟨n,k⟩])).trans (Lm ⟨n,k⟩ l).symm)) (Gw av.asc (yD.1 aX)) U;subst tB;refine⟨Same.keys Ψ Ψ,?_⟩;rw[dU];simp[cb];(with_reducible repeat' first|refine aj ?_|simp);simp[bu,kg,aW,aY,aV];simp[gb]
   ·obtain⟨b,ab,cw⟩:=ec hi;by_cases nD:b.v=n
    ·have aX:iZ l n=some b.k:=by rw[<-nD];exact Du av.asc (ed ab)
     rw[aX]at dU;simp only at dU;by_cases oR:b.k=k
     ·rw[if_pos oR]at dU;rw[dU];have ya:(b.k !=k)=false:=by simp[oR]
      have r6:(b.v==n)=true:=by simp[nD]
      simp[hi,cw];(with_reducible repeat' first|refine aj ?_|simp[cw,hi,ya,r6,oR,nD]);simp[bu,kg,aW,aY,aV];simp[gb]
     ·rw[if_neg oR]at dU;rw[dU];have ya:(b.k !=k)=true:=by simp[oR]
      have r6:(b.v==n)=true:=by simp[nD]
      simp[hi,cw];(with_reducible repeat' first|refine aj ?_|simp[cw,hi,ya,r6,oR,nD]);simp[bu,kg,aW,aY,aV];simp[gb]
    ·have r6:(b.v==n)=false:=by simp[nD]
     simp[hi,cw];(with_reducible repeat' first|refine aj ?_|simp[cw,hi,r6,nD]);exact bQ.rng () hi (fun j y jB aH=>by
      rcases(by omega:j<i\/j=i)with h|rfl
      ·exact af j y h aH
      ·rw[ab]at aH;cases aH;exact nD) bV
 |nil=>
  have dU:O=if T.nil.kind=k then some l else none:=by rw[<-dk];rfl
  by_cases hA:T.nil.kind=k
  ·rw[if_pos hA]at dU;rw[dU];refine bz ki rT sA fun aT=>?_;unfold qP;simp;simp at hA;rcases u1 with bF|⟨bF,kK⟩
   ·((with_reducible repeat' first|refine aj ?_|refine aD c7 ?_|refine aE c7 ?_|refine aD dJ ?_|refine aE dJ ?_|refine aD dg ?_|refine aE dg ?_|refine aD fq ?_|refine aE fq ?_|simp[bF,hA]|((first|apply bJ|apply bM|apply bL)<;>intro h<;>try simp at h))<;>(try exact cc));all_goals simp[bu,kg,aW,aY,aV]
    all_goals simp[gb]
   ·((with_reducible repeat' first|refine aj ?_|refine aD c7 ?_|refine aE c7 ?_|refine aD dJ ?_|refine aE dJ ?_|refine aD dg ?_|refine aE dg ?_|refine aD fq ?_|refine aE fq ?_|simp[bF,kK,hA]|((first|apply bJ|apply bM|apply bL)<;>intro h<;>try simp at h))<;>(try exact cc));all_goals simp[bu,kg,aW,aY,aV]
    all_goals simp[gb]
  ·rw[if_neg hA]at dU;rw[dU];refine bz ki rT sA fun aT=>?_;unfold qP;simp;simp at hA;rcases u1 with bF|⟨bF,kK⟩
   ·((with_reducible repeat' first|refine aj ?_|refine aD c7 ?_|refine aE c7 ?_|refine aD dJ ?_|refine aE dJ ?_|refine aD dg ?_|refine aE dg ?_|refine aD fq ?_|refine aE fq ?_|simp[bF,hA]|((first|apply bJ|apply bM|apply bL)<;>intro h<;>try simp at h))<;>(try exact cc));all_goals simp[bu,kg,aW,aY,aV]
    all_goals simp[gb]
   ·((with_reducible repeat' first|refine aj ?_|refine aD c7 ?_|refine aE c7 ?_|refine aD dJ ?_|refine aE dJ ?_|refine aD dg ?_|refine aE dg ?_|refine aD fq ?_|refine aE fq ?_|simp[bF,kK,hA]|((first|apply bJ|apply bM|apply bL)<;>intro h<;>try simp at h))<;>(try exact cc));all_goals simp[bu,kg,aW,aY,aV]
    all_goals simp[gb]
 |sym a=>
  have dU:O=if(T.sym a).kind=k then some l else none:=by rw[<-dk];rfl
  by_cases hA:(T.sym a).kind=k
  ·rw[if_pos hA]at dU;rw[dU];refine bz ki rT sA fun aT=>?_;unfold qP;simp;simp at hA;rcases u1 with bF|⟨bF,kK⟩
   ·((with_reducible repeat' first|refine aj ?_|refine aD c7 ?_|refine aE c7 ?_|refine aD dJ ?_|refine aE dJ ?_|refine aD dg ?_|refine aE dg ?_|refine aD fq ?_|refine aE fq ?_|simp[bF,hA]|((first|apply bJ|apply bM|apply bL)<;>intro h<;>try simp at h))<;>(try exact cc));all_goals simp[bu,kg,aW,aY,aV]
    all_goals simp[gb]
   ·((with_reducible repeat' first|refine aj ?_|refine aD c7 ?_|refine aE c7 ?_|refine aD dJ ?_|refine aE dJ ?_|refine aD dg ?_|refine aE dg ?_|refine aD fq ?_|refine aE fq ?_|simp[bF,kK,hA]|((first|apply bJ|apply bM|apply bL)<;>intro h<;>try simp at h))<;>(try exact cc));all_goals simp[bu,kg,aW,aY,aV]
    all_goals simp[gb]
  ·rw[if_neg hA]at dU;rw[dU];refine bz ki rT sA fun aT=>?_;unfold qP;simp;simp at hA;rcases u1 with bF|⟨bF,kK⟩
   ·((with_reducible repeat' first|refine aj ?_|refine aD c7 ?_|refine aE c7 ?_|refine aD dJ ?_|refine aE dJ ?_|refine aD dg ?_|refine aE dg ?_|refine aD fq ?_|refine aE fq ?_|simp[bF,hA]|((first|apply bJ|apply bM|apply bL)<;>intro h<;>try simp at h))<;>(try exact cc));all_goals simp[bu,kg,aW,aY,aV]
    all_goals simp[gb]
   ·((with_reducible repeat' first|refine aj ?_|refine aD c7 ?_|refine aE c7 ?_|refine aD dJ ?_|refine aE dJ ?_|refine aD dg ?_|refine aE dg ?_|refine aD fq ?_|refine aE fq ?_|simp[bF,kK,hA]|((first|apply bJ|apply bM|apply bL)<;>intro h<;>try simp at h))<;>(try exact cc));all_goals simp[bu,kg,aW,aY,aV]
    all_goals simp[gb]
 |num a=>
  have dU:O=if(T.num a).kind=k then some l else none:=by rw[<-dk];rfl
  by_cases hA:(T.num a).kind=k
  ·rw[if_pos hA]at dU;rw[dU];refine bz ki rT sA fun aT=>?_;unfold qP;simp;simp at hA;rcases u1 with bF|⟨bF,kK⟩
   ·((with_reducible repeat' first|refine aj ?_|refine aD c7 ?_|refine aE c7 ?_|refine aD dJ ?_|refine aE dJ ?_|refine aD dg ?_|refine aE dg ?_|refine aD fq ?_|refine aE fq ?_|simp[bF,hA]|((first|apply bJ|apply bM|apply bL)<;>intro h<;>try simp at h))<;>(try exact cc));all_goals simp[bu,kg,aW,aY,aV]
    all_goals simp[gb]
   ·((with_reducible repeat' first|refine aj ?_|refine aD c7 ?_|refine aE c7 ?_|refine aD dJ ?_|refine aE dJ ?_|refine aD dg ?_|refine aE dg ?_|refine aD fq ?_|refine aE fq ?_|simp[bF,kK,hA]|((first|apply bJ|apply bM|apply bL)<;>intro h<;>try simp at h))<;>(try exact cc));all_goals simp[bu,kg,aW,aY,aV]
    all_goals simp[gb]
  ·rw[if_neg hA]at dU;rw[dU];refine bz ki rT sA fun aT=>?_;unfold qP;simp;simp at hA;rcases u1 with bF|⟨bF,kK⟩
   ·((with_reducible repeat' first|refine aj ?_|refine aD c7 ?_|refine aE c7 ?_|refine aD dJ ?_|refine aE dJ ?_|refine aD dg ?_|refine aE dg ?_|refine aD fq ?_|refine aE fq ?_|simp[bF,hA]|((first|apply bJ|apply bM|apply bL)<;>intro h<;>try simp at h))<;>(try exact cc));all_goals simp[bu,kg,aW,aY,aV]
    all_goals simp[gb]
   ·((with_reducible repeat' first|refine aj ?_|refine aD c7 ?_|refine aE c7 ?_|refine aD dJ ?_|refine aE dJ ?_|refine aD dg ?_|refine aE dg ?_|refine aD fq ?_|refine aE fq ?_|simp[bF,kK,hA]|((first|apply bJ|apply bM|apply bL)<;>intro h<;>try simp at h))<;>(try exact cc));all_goals simp[bu,kg,aW,aY,aV]
    all_goals simp[gb]
 |pair a b=>
  have dU:O=if(T.pair a b).kind=k then some l else none:=by rw[<-dk];rfl
  by_cases hA:(T.pair a b).kind=k
  ·rw[if_pos hA]at dU;rw[dU];refine bz ki rT sA fun aT=>?_;unfold qP;simp;simp at hA;rcases u1 with bF|⟨bF,kK⟩
   ·((with_reducible repeat' first|refine aj ?_|refine aD c7 ?_|refine aE c7 ?_|refine aD dJ ?_|refine aE dJ ?_|refine aD dg ?_|refine aE dg ?_|refine aD fq ?_|refine aE fq ?_|simp[bF,hA]|((first|apply bJ|apply bM|apply bL)<;>intro h<;>try simp at h))<;>(try exact cc));all_goals simp[bu,kg,aW,aY,aV]
    all_goals simp[gb]
   ·((with_reducible repeat' first|refine aj ?_|refine aD c7 ?_|refine aE c7 ?_|refine aD dJ ?_|refine aE dJ ?_|refine aD dg ?_|refine aE dg ?_|refine aD fq ?_|refine aE fq ?_|simp[bF,kK,hA]|((first|apply bJ|apply bM|apply bL)<;>intro h<;>try simp at h))<;>(try exact cc));all_goals simp[bu,kg,aW,aY,aV]
    all_goals simp[gb]
  ·rw[if_neg hA]at dU;rw[dU];refine bz ki rT sA fun aT=>?_;unfold qP;simp;simp at hA;rcases u1 with bF|⟨bF,kK⟩
   ·((with_reducible repeat' first|refine aj ?_|refine aD c7 ?_|refine aE c7 ?_|refine aD dJ ?_|refine aE dJ ?_|refine aD dg ?_|refine aE dg ?_|refine aD fq ?_|refine aE fq ?_|simp[bF,hA]|((first|apply bJ|apply bM|apply bL)<;>intro h<;>try simp at h))<;>(try exact cc));all_goals simp[bu,kg,aW,aY,aV]
    all_goals simp[gb]
   ·((with_reducible repeat' first|refine aj ?_|refine aD c7 ?_|refine aE c7 ?_|refine aD dJ ?_|refine aE dJ ?_|refine aD dg ?_|refine aE dg ?_|refine aD fq ?_|refine aE fq ?_|simp[bF,kK,hA]|((first|apply bJ|apply bM|apply bL)<;>intro h<;>try simp at h))<;>(try exact cc));all_goals simp[bu,kg,aW,aY,aV]
    all_goals simp[gb]
def iF(o:Option (List bo)):ai:= .tuple [.slice 2 .no ((o.getD []).map bo.e),.bool o.isSome]
@[simp]theorem aqg(S:aL->Prop)(o:Option (List bo)):aG S (iF o)=True:=by simp[iF]
theorem X5{l:List bo}(h:jb l):bZ az 55 [.slice 2 .no (l.map bo.e)] (.bool true):=by have:=X4 l;simpa only[h,decide_true]using this
theorem amn{s:List UInt8}(h:iv s=true):bZ az 109 [.str s] (.bool true):=by have:=ui s;rwa[h]at this
def DA(l:List bo):List ai:=l.flatMap fun m=>[m.e,.bool true]
theorem UU(l:List bo):oo l= .hdm l.length (List.range l.length)::DA l:=rfl
theorem LZ(b:Nat):∀(n:Nat) (l:List bo),na b (List.range' n l.length) (DA l)=(if n<=b then(l[b-n]?).map fun x=>.tuple [x.e,.bool true]else none)
 |n,[]=>by simp[na,DA]
 |n,x::r=>by
  have e:DA (x::r)=x.e:: .bool true::DA r:=rfl;simp only[l5,List.range'_succ,e,na];by_cases h:n=b
  ·subst h;simp
  ·rw[if_neg h,LZ b (n+1) r];by_cases U:n<=b
   ·rw[if_pos U,if_pos Ω];have:b-n=(b-(n+1))+1:=Ω
    rw[this];simp
   ·rw[if_neg U,if_neg Ω]
@[simp]theorem aq0(l:List bo):hV (oo l)=false:=rfl
@[simp]theorem aq7(m:aL)(l:List bo):y2 m (oo l)=some (cn l.length [] m):=rfl
theorem ahl(f:aL->Option (List ai))(fp mk:aL)(n:Nat)(seen:List Nat)(b:Nat)(l:List bo)(x:bo)(hi:f fp=some (cn n (seen++[b]) mk))(hm:f mk=some (oo l))(ay:n=l.length)(ae:l[b]? =some x):pQ f (.ptr fp 0)=some (True,.tuple [x.e,.bool true]):=by subst ay;simp only[U6,hi,hm,cn,UU,List.getLast?_append,List.getLast?_singleton,Option.some_or,List.range_eq_range',LZ,Nat.zero_le,if_true,Nat.sub_zero,Option.map_map];simp[ae]
theorem aai{st:bm}{d:Nat}{K:bm->Prop}{fp mk:aL}{n:Nat}{seen:List Nat}{l:List bo}(hi:Pv.look fp st.b=some (cn n seen mk))(hm:Pv.look mk st.b=some (oo l))(ay:n=l.length)
  (J:(∀b,b<l.length->b∈seen)->K {st with t:=Pv.put d (.tuple [.bool false]) st.t}) (U:∀b x,l[b]? =some x->b∉seen->K {st with t:=Pv.put d (.tuple [.bool true,x.e,.bool true]) st.t,b:=cA fp (cn n (seen++[b]) mk) st.b}):
  tl st d (.ptr fp 0) K:=by
 subst ay;simp only[tl,hi,cn,hm,UU,Mb,and_self,true_and];refine⟨fun h=>J fun b ab=>h b (by simpa using ab),fun b k v ym ab=>?_⟩;rw[List.range_eq_range',LZ]at ym;simp only[Nat.zero_le,if_true,Nat.sub_zero,gk,ai.tuple.injEq,xE,and_true]at ym;obtain⟨x,ao,aF,bA⟩:=ym;subst aF bA;exact U b x ao ab
theorem ahg{m x:bo}{l:List bo}:x∈lf m l↔x=m\/x∈l:=by
 unfold lf;split
 ·constructor
  ·exact .inr
  ·rintro(rfl|h)<;>assumption
 ·simp[or_comm]
theorem Zg{m:bo}{l:List bo}(h:l.Nodup):(lf m l).Nodup:=by
 unfold lf;split
 ·exact h
 ·rw[List.nodup_append];exact⟨h,Ψ,fun a bk b ab=>by simp at ab;subst ab;intro e;subst e;contradiction⟩
theorem Zf(m:bo)(l:List bo):(lf m l).length<=l.length+1:=by unfold lf;split<;>simp
theorem adj(s:List UInt8)(t:T):∀l:List bo,(t.fold (fun v l=>lf ⟨v,s⟩ l) l).length<=l.length+t.size:=by
 induction t with
 |var n=>intro l;simp only[T.fold,T.size];exact Zf _ _
 |pair a b dM dN=>intro l;simp only[T.fold,T.size];have:=dM l;have:=dN (a.fold (fun v l=>lf ⟨v,s⟩ l) l);omega
 |_=>intro l;simp[T.fold,T.size]
theorem adk(s:List UInt8)(t:T):∀{l:List bo},l.Nodup->(t.fold (fun v l=>lf ⟨v,s⟩ l) l).Nodup:=by
 induction t with
 |var n=>intro l h;exact Zg h
 |pair a b dM dN=>intro l h;exact dN (dM h)
 |_=>intro l h;exact h
theorem ahh(s:List UInt8)(t:T)(x:bo):∀{l:List bo},x∈t.fold (fun v l=>lf ⟨v,s⟩ l) l↔x∈l\/(x.s=s/\t.occ x.v=true):=by
 induction t with
 |var n=>
  intro l;simp only[T.fold,ahg,T.occ,dL];constructor
  ·rintro(rfl|h)
   ·exact .inr ⟨rfl,rfl⟩
   ·exact .inl h
  ·rintro(h|⟨J,U⟩)
   ·exact .inr h
   ·left;cases x;simp at J U;subst J U;rfl
 |pair a b dM dN=>
  intro l;simp only[T.fold,dN,dM,T.occ,l4];constructor
  ·rintro((h|h)|h)
   ·exact .inl h
   ·exact .inr ⟨h.1,.inl h.2⟩
   ·exact .inr ⟨h.1,.inr h.2⟩
  ·rintro(h|⟨J,U|U⟩)
   ·exact .inl (.inl h)
   ·exact .inl (.inr ⟨J,U⟩)
   ·exact .inr ⟨J,U⟩
 |_=>intro l;simp[T.fold,T.occ]
def agu(M:List bo)(k:Nat)(st:bm):Prop:=∃(seen:List Nat) (xs:List bo),seen.Nodup/\(∀b∈seen,b<M.length)/\k=M.length-seen.length/\xs=seen.filterMap (fun b=>M[b]?)/\xs.length=seen.length/\st=⟨[(15,.ptr (.obj 815) 0),(63,.ptr (.loc 2) 0)],[(.obj 812,oo M),(.loc 2,cn M.length seen (.obj 812)),(.obj 815,[.row 2 (.obj 814) xs.length])],[(.obj 814,⟨xs.length,56,2,some (xs.map bo.e)⟩)],3,[.obj 815,.obj 814,.obj 813,.obj 812,.obj 811]⟩
theorem amj{s:List ak}(ag:eN s){l:List bo}(av:jb l)(yk:l.length<=68719470000)(t:T)(aM:t.fit=true){g:List UInt8}(aX:iv g=true):
  bZ az 100 [.slice 5 .no (s.map ak.e),.slice 2 .no (l.map bo.e),t.e,.str g] (iF (if(t.ap (bh s)).size<=5000 then j3 l (t.ap (bh s)) g else none)):=by
 have c7:=p0 ag;have dJ:=N0 aM;have ea:=X5 av;have h4:=amn aX;have fq:=xz s t ag.len ag.sol.asc ag.fit;generalize ae:t.ap (bh s)=x at fq⊢;generalize dk:(if x.size<=5000 then j3 l x g else none)=O;by_cases bf:x.size<=5000;rotate_left
 ·rw[if_neg bf]at dk;rw[<-dk];rw[if_neg bf,ij bf]at fq;refine bz ki JR Mh fun aT=>?_;unfold Fb;simp;(with_reducible repeat' first|refine aj ?_|refine aD c7 ?_|refine aE c7 ?_|refine aD dJ ?_|refine aE dJ ?_|refine aD ea ?_|refine aE ea ?_|refine aD h4 ?_|refine aE h4 ?_|refine aD fq ?_|refine aE fq ?_|simp);simp[bu,Hn,aW,aY,aV];simp[iF]
 rw[if_pos bf]at dk;rw[if_pos bf,gD bf]at fq;have AM:=Yc g x;cases cu:x.has g;rotate_left
 ·rw[cu]at AM;have dU:O=none:=by rw[<-dk];unfold j3;rw[cu];rfl
  rw[dU];refine bz ki JR Mh fun aT=>?_;unfold Fb;simp;(with_reducible repeat' first|refine aj ?_|refine aD c7 ?_|refine aE c7 ?_|refine aD dJ ?_|refine aE dJ ?_|refine aD ea ?_|refine aE ea ?_|refine aD h4 ?_|refine aE h4 ?_|refine aD fq ?_|refine aE fq ?_|refine aD AM ?_|refine aE AM ?_|simp);simp[bu,Hn,aW,aY,aV];simp[iF]
 rw[cu]at AM;refine bz ki JR Mh fun aT=>?_;unfold Fb;simp;(with_reducible repeat' first|refine aj ?_|refine aD c7 ?_|refine aE c7 ?_|refine aD dJ ?_|refine aE dJ ?_|refine aD ea ?_|refine aE ea ?_|refine aD h4 ?_|refine aE h4 ?_|refine aD fq ?_|refine aE fq ?_|refine aD AM ?_|refine aE AM ?_|simp);have CZ:l.Nodup:=hF.nodup lY av.asc;have hN:∀xs:List bo,xs.Perm (x.fold (fun v l=>lf ⟨v,g⟩ l) l)->O=some (ox fi xs):=fun xs bK=>by
  rw[<-dk];refine IP cu ?_ fun y=>?_
  ·have J:=NC lY xs;have U:(ox fi xs).Nodup:=(((xh fi xs).trans bK).nodup_iff).2 (adk g x CZ);exact(J.and U).imp fun{a b} h=>by have:=mt (lY.zero a b).1 h.2;omega
  ·rw[((xh fi xs).trans bK).mem_iff,ahh]
 have hlen:(x.fold (fun v l=>lf ⟨v,g⟩ l) l).length<=68719475000:=by have:=adj g x l;omega
 rw[show jX []=oo []from rfl];refine hQ (fun i (_:Unit)=>⟨[(7,.ptr (.obj 811) 0),(10,.ptr (.loc 1) 0),(12,.ptr (.obj 813) 0),(49,.slice 2 .no (l.map bo.e)),(50,.int .i64 l.length),(51,.int .i64 i)],[(.obj 811,[.str g]),(.loc 1,[.int .i64 x.kind,.int .i64 x.int,.str x.name,.slice 4 .no (x.args.map T.e)]),(.obj 812,oo (l.take i)),(.obj 813,[.gmap (.obj 812)])],[],2,[.obj 813,.obj 812,.obj 811]⟩) l.length (fun _ _=>True) () bV trivial (fun _ _ _=>?_) (fun i _ hi _ _=>?_)
 ·rw[l6];simp;(with_reducible repeat' first|refine aj ?_|simp);have key:=Kb (oK g) (EW g) (IG g) 149 [.ptr (.obj 813) 0,.ptr (.obj 811) 0] (by intro a;simp[inObs,oK,Pv.look,aP,aG]) Ψ (fun v l=>lf ⟨v,g⟩ l) (fun v a=>adr g v a) x l;refine cW.ob key (EW g l) (by unfold oK;exact aK) (by unfold oK;exact aK) (by simp[inObs,oK,Pv.look]) ?_;rintro r ah ⟨rfl,rfl⟩;refine⟨IG g _ _,?_⟩;unfold oK;generalize gJ:x.fold (fun v l=>lf ⟨v,g⟩ l) l=M at hN hlen⊢;simp[cb];(with_reducible repeat' first|refine aj ?_|simp);refine n5 (agu M) M.length _ ⟨by simp[fresh,aP,aG,cn,inObs,Pv.look,AO],en (by simp[fresh,aP,aG,cn,inObs,Pv.look,AO]),eo (by simp[fresh,aP,aG,dV,inObs,Pv.look,AO]),Ψ⟩ ⟨[],[],Ψ,Ψ,Ψ,Ψ,Ψ,rfl⟩ ?_;rintro k st ⟨seen,xs,aN,bs,ad,TR,oY,rfl⟩ jT cI;clear jT cI;have hle:=H3 aN bs;simp;refine aai (mk:= .obj 812) (seen:=seen) (l:=M) Ψ Ψ rfl (fun k3=>?_) (fun b y aH ab=>?_)
  ·have wB:=Nr aN bs k3;rw[<-TR]at wB;have dG:=hN xs wB;simp;(with_reducible repeat' first|refine aj ?_|simp);have key:=ad4 xs Ω;have eA:=IF xs;unfold xK dT at key eA;refine cW.ob key eA aK aK (by simp[inObs,Pv.look]) ?_;rintro r ah ⟨rfl,rfl⟩;refine⟨Same.keys Ψ Ψ,?_⟩;rw[dG];simp[cb];(with_reducible repeat' first|refine aj ?_|simp);simp[bu,Hn,aW,aY,aV];simp[iF]
  ·have Ao:∀f:aL->Option (List ai),f (.loc 2)=some (cn M.length (seen++[b]) (.obj 812))->f (.obj 812)=some (oo M)->pQ f (.ptr (.loc 2) 0)=some (True,.tuple [y.e,.bool true]):=fun f J U=>ahl f (.loc 2) (.obj 812) M.length seen b M y J U rfl aH;have e8:b<M.length:=(fb.1 aH).1;have qk:=Ns aN bs e8 ab;simp[Ao];(with_reducible repeat' first|refine aj ?_|simp[Ao]);all_goals first|(refine⟨by unfold lim;omega,?_⟩)|skip
   have yh:∀S:aL->Prop,aP S (xs.map bo.e++[y.e])=True:=fun S=>by
    have e:xs.map bo.e++[y.e]=(xs++[y]).map bo.e:=by simp
    rw[e];simp[-List.map_append]
   refine bQ.next (M.length-(seen.length+1)) Ω ⟨seen++[b],xs++[y],Mf aN ab,(by simp;intro c aq;rcases aq with aq|rfl;exact bs c aq;exact e8),Ψ,by rw[List.filterMap_append,<-TR];simp[aH],by simp[oY],rfl⟩ ⟨by simp[fresh,aP,aG,cn,inObs,Pv.look,AO,yh],en (by simp[fresh,aP,aG,cn,inObs,Pv.look,AO,yh]),eo (by simp[fresh,aP,aG,dV,inObs,Pv.look,AO,yh]),Ψ⟩
 ·obtain⟨b,ab,cw⟩:=ec hi;have j8:lf b (l.take i)=l.take (i+1):=by
   have J:b∉l.take i:=fun h=>by
    obtain⟨j,af,e⟩:=nX h;have jB:j<i:=by simp at af;omega
    rw[List.getElem_take]at e;have:=(List.nodup_iff_pairwise_ne.1 CZ);exact(pg.1 this j i Ω hi jB) (by rw[e,cw])
   rw[List.take_succ,ab];simp[lf,J]
  exact gN
def PA:C:=(aa [bq 4 false] (.seq (aa [I 7 0,cz 8 7,cd 9 0] (e5 10 9 8 (.seq (.block 1 (aa [cy 11 5 7 9,a7 12 5 11,c1 6 hT,bN 5 6 12] (aa [aI 13 0 1 6,aw 14 1 13,I 15 1,br 16 .geq 14 15,I 17 16,au 17 false (gI 18 1 4 6),au 17 false (a7 19 4 18),ys 17 false (.bsl 20 4 36 [.t 19]),au 17 false (cR 21 88 20),bW 17 false 22 1,au 17 false (br 23 .gtr 21 22),c6 24 17 23] (aZ 24 (aa [bq 4 false] .ret) .skip)))) (.region [aS 25 .add 9 1,I 9 25])))) (aa [bq 4 true] .ret)))
@[simp] def akl:List bX:=[.tmp 4]
def Py:C:=(aa [cd 2 0] (.seq (aa [I 6 0,cR 7 87 6,cJ 8 7] (aZ 8 (aa [cd 2 (-1)] .ret) .skip)) (aa [cN (.alloc 3 (some 831) (.int .i64 0)),cN (.store 1 (.t 3) (eF 0))] (.seq (aa [I 9 0,cz 10 9,cd 11 0] (e5 12 11 10 (.seq (.block 1 (aa [cy 13 4 9 11,a7 14 4 13,c1 5 dd,bN 4 5 14] (.region [a7 15 4 5,bR 16 (.mkf 135 [.t 3]),ch 17 107 15 16]))) (.region [aS 18 .add 11 1,I 11 18])))) (aa [aw 19 1 3,I 2 19] .ret)))))
@[simp] def aki:List bX:=[.tmp 2]
def Pt:C:=(aa [e4 4 2,bq 5 false] (.seq (aa [I 11 0,cR 12 53 11,cJ 13 12,I 14 13,bW 14 false 15 1,au 14 false (cR 16 54 15),au 14 false (cJ 17 16),c6 18 14 17] (aZ 18 (aa [e4 4 2,bq 5 false] .ret) .skip)) (aa [eE 19 2 59 [],I 6 19] (.seq (.seq (.fg false 6 (.region [I 20 1,cz 21 20,cd 22 0])) (e5 23 22 21 (.seq (.block 1 (aa [cy 24 2 20 22,a7 25 2 24,cN (.alloc 8 none (.agg [.int .i64 0,.int .i64 0])),bN 2 8 25] (.seq (.drawn true 42 [I 27 0,I 28 6,aI 29 0 1 8,aw 30 1 29,cR 31 28 30,aI 32 1 1 8,aw 33 1 32,dj 34 98 [.t 27,.t 28,.t 31,.t 33],I 26 34,cC 35 0 26,cC 36 1 26,I 9 35,I 10 36]) (.seq (aa [I 37 10,cJ 38 37] (aZ 38 (aa [e4 4 2,bq 5 false] .ret) .skip)) (.region [I 39 9,I 6 39]))))) (.region [aS 40 .add 22 1,I 22 40])))) (aa [I 41 6,I 4 41,bq 5 true] .ret)))))
@[simp] def MC:List bX:=[.tmp 4,.tmp 5]
def Pu:C:=(aa [e4 4 2,bq 5 false] (.seq (aa [I 11 0,cR 12 53 11,cJ 13 12,I 14 13,bW 14 false 15 1,au 14 false (cR 16 55 15),au 14 false (cJ 17 16),c6 18 14 17] (aZ 18 (aa [e4 4 2,bq 5 false] .ret) .skip)) (aa [eE 19 2 56 [],I 6 19] (.seq (.seq (.fg false 6 (.region [I 20 1,cz 21 20,cd 22 0])) (e5 23 22 21 (.seq (.block 1 (aa [cy 24 2 20 22,a7 25 2 24,cN (.alloc 8 none (.agg [.int .i64 0,.str []])),bN 2 8 25] (.seq (.drawn true 42 [I 27 0,I 28 6,aI 29 0 1 8,aw 30 1 29,cR 31 28 30,aI 32 1 1 8,aw 33 1 32,dj 34 100 [.t 27,.t 28,.t 31,.t 33],I 26 34,cC 35 0 26,cC 36 1 26,I 9 35,I 10 36]) (.seq (aa [I 37 10,cJ 38 37] (aZ 38 (aa [e4 4 2,bq 5 false] .ret) .skip)) (.region [I 39 9,I 6 39]))))) (.region [aS 40 .add 22 1,I 22 40])))) (aa [I 41 6,I 4 41,bq 5 true] .ret)))))
@[simp] def MD:List bX:=[.tmp 4,.tmp 5]
def Pq:C:=(aa [e4 2 1] (.seq (aa [I 12 0,cz 13 12,cd 14 0] (e5 15 14 13 (.seq (.block 1 (aa [cy 16 1 12 14,aw 17 1 16,I 4 17] (aa [I 18 4,cR 19 53 18,cJ 20 19] (aZ 20 (aa [e4 2 1] .ret) .skip)))) (.region [aS 21 .add 14 1,I 14 21])))) (aa [cN (.bslm 22 (some 821) 1 23 []),I 23 0,cN (.appm 24 none 1 23 (.t 22) (.t 23)),cN (.alloc 5 (some 822) (.slice 1 .nil [])),bN 1 5 24] (aa [aw 25 1 5,bR 26 (.mkif 24 (.t 25)),bR 27 (.mkf 139 [.t 5]),ch 28 138 26 27] (aa [eE 29 1 23 [],I 6 29] (.seq (aa [aw 30 1 5,cz 31 30,cd 32 0] (.block 2 (.loop (aa [br 33 .lss 32 31] (.seq (aZ 33 .skip (.exit 2)) (.seq (.block 3 (aa [I 34 32,cy 35 1 30 32,aw 36 1 35,I 7 34,I 8 36] (.seq (aa [I 37 7,aS 38 .gtr 37 0,I 39 38,au 39 true (aw 40 1 5),bW 39 true 41 7,au 39 true (aS 42 .sub 41 1),au 39 true (cy 43 1 40 42),au 39 true (aw 44 1 43),bW 39 true 45 8,au 39 true (ch 46 140 44 45),au 39 true (aS 47 .eql 46 0),dq 48 39 47] (aZ 48 (.exit 3) .skip)) (aa [bq 9 true] (.seq (aa [aw 49 1 5,cz 50 49,cd 51 0] (.block 4 (.loop (aa [br 52 .lss 51 50] (.seq (aZ 52 .skip (.exit 4)) (.seq (.block 5 (aa [cy 53 1 49 51,aw 54 1 53,I 11 54] (aa [I 55 11,I 56 8,ch 57 140 55 56,aS 58 .neq 57 0,I 59 58,bW 59 true 60 11,bW 59 true 61 8,au 59 true (ch 62 141 60 61),dq 63 59 62] (aZ 63 (.region [bq 9 false]) .skip)))) (.region [aS 64 .add 51 1,I 51 64]))))))) (aa [I 65 9] (aZ 65 (.region [I 66 6,I 67 8,cR 68 91 67,eE 69 1 23 [.t 68],hj 70 1 23 66 69,I 6 70]) .skip))))))) (.region [aS 71 .add 32 1,I 32 71]))))))) (aa [I 72 6,I 2 72] .ret)))))))
@[simp] def ake:List bX:=[.tmp 2]
def Jc:C:=(.region [aw 3 1 1,I 4 0,aS 5 .add 4 1,bR 6 (.max2 (.t 3) (.t 5)),bN 1 1 6])
@[simp] def MF:List bX:=[]
def Pr:C:=(aa [bq 5 false] (.seq (.drawn true 16 [aw 6 1 2,I 7 0,cy 8 1 6 7,aw 9 1 8,aw 10 1 2,I 11 1,cy 12 1 10 11,aw 13 1 12,ch 14 140 9 13,aS 15 .lss 14 0,I 5 15]) .ret))
@[simp] def Wd:List bX:=[.tmp 5]
def xu:List (Nat×dz):=[
 (3,⟨1,8,.int .i64,.int .i64 0⟩),
 (9,⟨1,16,.str,.str []⟩),
 (23,⟨1,24,.slice 54,.slice 5 .nil []⟩),
 (24,⟨1,24,.slice 23,.slice 1 .nil []⟩),
 (25,⟨1,24,.slice 59,.slice 2 .nil []⟩),
 (26,⟨1,24,.slice 56,.slice 2 .nil []⟩),
 (34,⟨1,24,.slice 36,.slice 4 .nil []⟩),
 (36,⟨4,56,.struct [(0,3),(1,3),(2,9),(3,34)],.agg [.int .i64 0,.int .i64 0,.str [],.slice 4 .nil []]⟩),
 (54,⟨5,64,.struct [(0,3),(1,36)],.agg [.int .i64 0,.int .i64 0,.int .i64 0,.str [],.slice 4 .nil []]⟩),
 (56,⟨2,24,.struct [(0,3),(1,9)],.agg [.int .i64 0,.str []]⟩),
 (59,⟨2,16,.struct [(0,3),(1,3)],.agg [.int .i64 0,.int .i64 0]⟩)]
theorem xx:fI az xu=true:=by kernel_rfl
theorem ah7:b7 xu PA akl 2 Tryz.f56=true:=by kernel_rfl
theorem abq:az.funcs[(56:Nat)]? =some Tryz.f56:=Tryz.func56
theorem ah5:b7 xu Py aki 1 Tryz.f88=true:=by kernel_rfl
theorem abo:az.funcs[(88:Nat)]? =some Tryz.f88:=Tryz.func88
theorem ah1:b7 xu Pt MC 2 Tryz.f92=true:=by kernel_rfl
theorem abk:az.funcs[(92:Nat)]? =some Tryz.f92:=Tryz.func92
theorem ah2:b7 xu Pu MD 2 Tryz.f93=true:=by kernel_rfl
theorem abl:az.funcs[(93:Nat)]? =some Tryz.f93:=Tryz.func93
theorem ahY:b7 xu Pq ake 1 Tryz.f96=true:=by kernel_rfl
theorem abh:az.funcs[(96:Nat)]? =some Tryz.f96:=Tryz.func96
theorem VD:b7 xu Jc MF 2 Tryz.f135=true:=by kernel_rfl
theorem RT:az.funcs[(135:Nat)]? =some Tryz.f135:=Tryz.func135
theorem ahZ:b7 xu Pr Wd 3 Tryz.f139=true:=by kernel_rfl
theorem abi:az.funcs[(139:Nat)]? =some Tryz.f139:=Tryz.func139
def T9(s:List ak)(l:List b6)(i:Nat)(a:List b6):Prop:=gT a/\fU s (l.drop i) a=fU s l []
theorem X6{s:List ak}(ag:eN s){l:List b6}(av:gT l):bZ az 92 [.slice 5 .no (s.map ak.e),.slice 2 .no (l.map b6.e)] (gb (fU s l [])):=by
 have yk:=q6 av;have c7:=p0 ag;have dg:=X3 av;refine bz xx abk ah1 fun aT=>?_;unfold Pt;simp;(with_reducible repeat' first|refine aj ?_|refine aD c7 ?_|refine aE c7 ?_|refine aD dg ?_|refine aE dg ?_|simp);refine dW [0,20,21] (fun i (a:List b6)=>[(6,.slice 2 .no (a.map b6.e)),(22,.int .i64 i)]) l.length (T9 s l) [] bV ⟨⟨Ψ,Ψ⟩,rfl⟩ (fun a af _=>?_) (fun i a hi af _=>?_)
 ·obtain⟨_,af⟩:=af;rw[List.drop_length]at af;simp only[fU]at af;rw[<-af];simp;(with_reducible repeat' first|refine aj ?_|simp);simp[bu,MC,aW,aY,aV];simp[gb]
 ·obtain⟨bk,af⟩:=af;obtain⟨b,ab,cw⟩:=ec hi;have oQ:=av.at' b (ed ab);rw[kX hi,cw]at af;simp only[fU]at af;have fB:=amk ag bk (.var b.v) (by simp[T.fit,T.ok,T.size,oQ.1]) b.k;have bf:((T.var b.v).ap (bh s)).size<=5000:=Ek ag b.v;rw[if_pos ⟨oQ.2,bf⟩,show(T.var b.v).ap (bh s)=bh s b.v from rfl]at fB;simp[hi,cw];cases dU:jk a (bh s b.v) b.k with
  |none=>rw[dU]at af fB;simp only at af;rw[<-af];simp only[gb]at fB;(with_reducible repeat' first|refine aj ?_|refine aD (jg _) ?_|refine aE (jg _) ?_|refine aD fB ?_|refine aE fB ?_|simp[cw,hi]);simp[bu,MC,aW,aY,aV];simp[gb]
  |some bj=>rw[dU]at af fB;simp only[gb]at fB;(with_reducible repeat' first|refine aj ?_|refine aD (jg _) ?_|refine aE (jg _) ?_|refine aD fB ?_|refine aE fB ?_|simp[cw,hi]);exact bQ.rng bj hi ⟨E2 bk (zc ag oQ.1) oQ.2 dU,af⟩ bV
def Ua(s:List ak)(G:List (List UInt8))(l:List bo)(i:Nat)(a:List bo):Prop:=jb a/\kU G a/\fQ s (l.drop i) a=fQ s l []
theorem X7{s:List ak}(ag:eN s){l:List bo}(av:jb l){G:List (List UInt8)}(jS:G.length<=687000)(aX:kU G l):bZ az 93 [.slice 5 .no (s.map ak.e),.slice 2 .no (l.map bo.e)] (iF (fQ s l [])):=by
 have hlen:∀{a:List bo},jb a->kU G a->a.length<=68719470000:=fun J U=>by have:=DC J U;omega
 have yk:=hlen av aX;have c7:=p0 ag;have dg:=X5 av;refine bz xx abl ah2 fun aT=>?_;unfold Pu;simp;(with_reducible repeat' first|refine aj ?_|refine aD c7 ?_|refine aE c7 ?_|refine aD dg ?_|refine aE dg ?_|simp);refine dW [0,20,21] (fun i (a:List bo)=>[(6,.slice 2 .no (a.map bo.e)),(22,.int .i64 i)]) l.length (Ua s G l) [] bV ⟨⟨Ψ,by simp[hF]⟩,fun x ae=>by simp at ae,rfl⟩ (fun a af _=>?_) (fun i a hi af _=>?_)
 ·obtain⟨_,_,af⟩:=af;rw[List.drop_length]at af;simp only[fQ]at af;rw[<-af];simp;(with_reducible repeat' first|refine aj ?_|simp);simp[bu,MD,aW,aY,aV];simp[iF]
 ·obtain⟨bk,Db,af⟩:=af;obtain⟨b,ab,cw⟩:=ec hi;have oQ:=av.at' b (ed ab);have Kv:=aX b (ed ab);rw[kX hi,cw]at af;simp only[fQ]at af;have fB:=amj ag bk (hlen bk Db) (.var b.v) (by simp[T.fit,T.ok,T.size,oQ.1]) oQ.2;have bf:((T.var b.v).ap (bh s)).size<=5000:=Ek ag b.v;rw[if_pos bf,show(T.var b.v).ap (bh s)=bh s b.v from rfl]at fB;simp[hi,cw];cases dU:j3 a (bh s b.v) b.s with
  |none=>rw[dU]at af fB;simp only at af;rw[<-af];simp only[iF]at fB;(with_reducible repeat' first|refine aj ?_|refine aD (jg _) ?_|refine aE (jg _) ?_|refine aD fB ?_|refine aE fB ?_|simp[cw,hi]);simp[bu,MD,aW,aY,aV];simp[iF]
  |some bj=>rw[dU]at af fB;simp only[iF]at fB;(with_reducible repeat' first|refine aj ?_|refine aD (jg _) ?_|refine aE (jg _) ?_|refine aD fB ?_|refine aE fB ?_|simp[cw,hi]);exact bQ.rng bj hi ⟨E3 bk (zc ag oQ.1) oQ.2 dU,B3 Db Kv dU,af⟩ bV
end
section
open Go Go.Pv Go.Lib
def cM(d:List ak):ai:= .slice 5 .no (d.map ak.e)
@[simp]theorem ap8(S:aL->Prop)(d:List ak):aG S (cM d)=True:=by simp[cM]
@[simp]theorem aoo(d:List ak):cells (cM d)=[cM d]:=rfl
@[simp]theorem arq(d:List ak):eO (cM d)=true:=rfl
@[simp]theorem arM(d:List ak):ey (cM d)=cM d:=by simp[cM]
theorem Rv:∀(S:aL->Prop) (x:List ak),aG S (cM x):=fun S x=>by simp
theorem LD(S:aL->Prop):∀l:List (List ak),aP S (l.map cM)
 |[]=>by simp[aP]
 |x::xs=>by simp[aP,LD S xs]
@[simp]theorem UC(S:aL->Prop)(l:List (List ak)):aP S (l.map cM)=True:=eq_true (LD S l)
@[simp]theorem NI:∀l:List (List ak),dv (l.map cM)=l.map cM
 |[]=>rfl
 |x::xs=>by simp[dv,NI xs]
def lJ(d:List dF):ai:= .slice 5 .no (d.map dF.e)
@[simp]theorem aop(d:List dF):cells (lJ d)=[lJ d]:=rfl
@[simp]theorem ars(d:List dF):eO (lJ d)=true:=rfl
theorem JE(d:List ak):lJ (d.map ak.b)=cM d:=by simp only[lJ,cM,qu]
theorem JF(l:List (List ak)):(l.map fun d=>d.map ak.b).map lJ=l.map cM:=by rw[List.map_map];exact List.map_congr_left fun d _=>JE d
@[simp]theorem ap9(S:aL->Prop)(d:List dF):aG S (lJ d)=True:=by simp[lJ]
@[simp]theorem arN(d:List dF):ey (lJ d)=lJ d:=by simp[lJ]
theorem UD(S:aL->Prop):∀l:List (List dF),aP S (l.map lJ)
 |[]=>by simp[aP]
 |x::xs=>by simp[aP,UD S xs]
@[simp]theorem ap3(S:aL->Prop)(l:List (List dF)):aP S (l.map lJ)=True:=eq_true (UD S l)
abbrev ux(l:List (List ak)):cS:=dT cM 821 822 23 1 l
theorem IB(l:List (List ak)):dR (ux l):=xL Rv l
theorem adu(l:List (List ak))(av:l.length<=68719476736)(i j:Nat)(x y:List ak)(hi:l[i]? =some x)(af:l[j]? =some y):bH az 139 [.int .i64 i,.int .i64 j,.ptr (.obj 822) 0] (ux l) fun r ah=>r= .bool (hU eu x y)/\ah=ux l:=by have ag:=IB l;obtain⟨mi,hL⟩:=fb.1 hi;obtain⟨dZ,oc⟩:=fb.1 af;have aU:bZ az 140 [cM x,cM y] (.int .i64 (eu x y)):=Iq x y;unfold ux dT at ag⊢;refine bH.mk mixed xx abi ahZ Ψ ag.obj fun aT cI=>?_;unfold Pr;simp[mi,dZ,hL,oc];(with_reducible repeat' first|refine aj ?_|refine aD aU ?_|refine aE aU ?_|simp[mi,dZ,hL,oc]);refine cO.at _ (.inl rfl) ag (Same.refl _) aK aK ?_;simp[cT,Wd,aW,aY,aV,hU]
noncomputable def Tryz.dsT:TypeInfo:=(az.info? 24).get ci
noncomputable def Tryz.dsE:TypeInfo:=(az.info? 23).get ci
theorem Tryz.dsK(n:Nat)(U:2<=n):Lib.swapperK n Tryz.dsE 23=9:=by
 have a:Tryz.dsE.hasPointers=true:=by kernel_rfl
 have b:Tryz.dsE.bytes=24:=by kernel_rfl
 have c:(n==0)=false:=by simp;omega
 have d:(n==1)=false:=by simp;omega
 simp[Lib.swapperK,a,b,c,d]
theorem ad2(l:List (List ak))(av:l.length<=68719476736):bH az 138 [.iface 24 (.row 1 (.obj 821) l.length),.func 139 [.ptr (.obj 822) 0]] (ux l) fun r ah=>r= .tuple []/\ah=ux (ox eu l):=by
 refine(adx Rv (K:=821) (B:=822) (sz:=1) 24 Tryz.dsT Tryz.dsE ci ci ci ci 23 (fun _=>by kernel_rfl) Tryz.dsK 139 (hU eu) lX.ltOk l av (fun a1 h i j x y hi af=>adu a1 Ω i j x y hi af) (fun a1 h i j hi af=>?_)).mono ?_
 ·have:=Sz (P:=az) false 186 (fun args W=>run_callFunc_extern Tryz.func186 ci ci ci (e:=EM false) ci args W)
   23 Tryz.dsE ci (.inr ⟨by kernel_rfl,fun _=>by kernel_rfl⟩) (IB a1) (K:=821) (n:=l.length) (el:=23) (sz:=1) ci (xs:=a1.map cM) (by simp[dT,Pv.look,h]) i j hi af
  refine this.mono ?_;rintro r ah ⟨rfl,rfl⟩;refine⟨rfl,?_⟩;simp[dT,cA,UQ,h]
 ·rintro r ah ⟨rfl,a1,rfl,J,U⟩;exact⟨rfl,by rw[Xy lX J U]⟩
end
section
open Go Go.Pv
theorem AS{α:Type}{s:List α}{i:Nat}{t:α}(h:s[i]? =some t):s.drop i=t::s.drop (i+1):=by obtain⟨hi,e⟩:=fb.1 h;rw[kX hi,e]
def qw(L:List (List ak))(a:List (List ak))(e:List ak):List (List ak):=if iY L e=true then ku eu e a else a
theorem L8{L:List (List ak)}:∀(xs:List (List ak)) {a:List (List ak)},hF eu a->hF eu (xs.foldl (qw L) a)
 |[],_,h=>h
 |x::xs,a,h=>L8 xs (a:=qw L a x) (by unfold qw;split<;>first|exact Lj lX h|exact h)
theorem Vi{L:List (List ak)}{x:List ak}:∀(xs:List (List ak)) {a:List (List ak)},x∈xs.foldl (qw L) a↔x∈a\/(x∈xs/\iY L x=true)
 |[],a=>by simp
 |y::xs,a=>by
  rw[List.foldl_cons,Vi xs,fD];unfold qw;by_cases ad:iY L y=true
  ·rw[if_pos ad,GZ lX];constructor
   ·rintro((rfl|h)|h)
    ·exact .inr ⟨.inl rfl,ad⟩
    ·exact .inl h
    ·exact .inr ⟨.inr h.1,h.2⟩
   ·rintro(h|⟨rfl|J,U⟩)
    ·exact .inl (.inr h)
    ·exact .inl (.inl rfl)
    ·exact .inr ⟨J,U⟩
  ·rw[if_neg ad];constructor
   ·rintro(h|h)
    ·exact .inl h
    ·exact .inr ⟨.inr h.1,h.2⟩
   ·rintro(h|⟨rfl|J,U⟩)
    ·exact .inl h
    ·exact absurd U ad
    ·exact .inr ⟨J,U⟩
theorem Vh{L:List (List ak)}:∀(xs a:List (List ak)),(xs.foldl (qw L) a).length<=a.length+xs.length
 |[],a=>by simp
 |y::xs,a=>by
  have J:=Vh (L:=L) xs (qw L a y);have U:(qw L a y).length<=a.length+1:=by
   unfold qw;split
   ·exact Ll _ _
   ·omega
  simp only[List.foldl_cons,l5];omega
theorem ahy(L:List (List ak)):jY L=L.foldl (qw L) []:=Vf (L8 L (by simp[hF])) fun x=>by rw[Vi];simp
def yB(L:List (List ak))(i:Nat)(a:List (List ak)):Prop:=a=(L.take i).foldl (qw L) []
theorem yB.step{L:List (List ak)}{i:Nat}{a:List (List ak)}(h:yB L i a){e:List ak}(he:L[i]? =some e):yB L (i+1) (qw L a e):=by rw[yB,ng he,List.foldl_append,h];rfl
def wT(e d:List ak):Bool:=decide (d=e)|| !nJ d e
def qn(L:List (List ak))(e:List ak)(j:Nat)(k:Bool):Prop:=k=(L.take j).all (wT e)
theorem qn.step{L:List (List ak)}{e:List ak}{j:Nat}{k:Bool}(h:qn L e j k){d:List ak}(aN:L[j]? =some d):qn L e (j+1) (k&&wT e d):=by rw[qn,ng aN,List.all_append,h];simp
def GA(a:List (List ak))(e:List ak)(k:Nat):Prop:=k<=a.length/\∀c,a[k]? =some c->0<=eu c e
theorem GA.fin{a:List (List ak)}{e:List ak}{k:Nat}(h:GA a e k)(bk:hF eu a)(aq:∀d,0<k->a[k-1]? =some d->eu d e<0):ku eu e a=if(match a[k]? with|some y=>decide (eu y e=0)|none=>false)=true then a else a.take k++e::a.drop k:=
 (Lk lX e a k (fun i c hi iS=>by
  have ad:=h.1;obtain⟨d,aN⟩:∃d,a[k-1]? =some d:=⟨_,cf Ω⟩;have J:=aq d Ω aN;rcases Nat.lt_or_ge i (k-1)with U|U
  ·have tz:=(fb.1 iS);have lp:=(fb.1 aN);have:=pg.1 bk i (k-1) tz.1 lp.1 U;rw[tz.2,lp.2]at this;exact lX.ltr this Ω
  ·have:i=k-1:=Ω
   subst this;rw[aN]at iS;cases iS;exact J) h.2 h.1).trans (by cases a[k]?<;>rfl)
theorem Un(L:List (List ak))(e:List ak):iY L e=L.all (wT e):=rfl
theorem Xx{l:List (List ak)}{x:List ak}:x∈ox eu l↔x∈l:=(xh eu l).mem_iff
theorem ahx(l:List (List ak)):jY l=(cP none (ox eu l)).filter (iY (ox eu l)):=by have h:iY l=iY (ox eu l):=funext fun e=>agL (fun x=>Xx.symm) e;rw[jY,h];rfl
def mW(s:List (List ak))(i:Nat)(acc:List (List ak)):Prop:=acc++(cP (if i=0 then none else s[i-1]?) (s.drop i)).filter (iY s)=(cP none s).filter (iY s)
def iI:bP:=⟨0,[],[],[],[]⟩
noncomputable def sK(s:bP):bP:=match fU s.b s.k []with
 |none=>iI
 |some k=>match fQ s.b s.m []with
  |none=>iI
  |some m=>match fG s.b k (m.filter (jG k)) s.d with
   |none=>iI
   |some L=>⟨s.n,s.b,jY L,k,m.filter (jG k)⟩
theorem Nu{s ah:bP}(h:gq s=some ah):sK s=ah:=by
 unfold gq at h;unfold sK;cases J:fU s.b s.k []with
 |none=>rw[J]at h;cases h
 |some k=>
  rw[J]at h;simp only at h⊢;cases U:fQ s.b s.m []with
  |none=>rw[U]at h;cases h
  |some m=>
   rw[U]at h;simp only at h⊢;cases ar:fG s.b k (m.filter (jG k)) s.d with
   |none=>rw[ar]at h;cases h
   |some L=>
    rw[ar]at h;simp only at h⊢;split at h
    ·cases h;rfl
    ·cases h
theorem Ze{k:List b6}(ad:gT k)(v:Int):(jk k (.var v) 2).isSome=(iZ k v !=some 3):=by
 unfold jk;simp only;cases h:iZ k v with
 |none=>simp
 |some x=>have:=(ad.at' _ (Ly h)).2;simp only at this;rcases this with rfl|rfl<;>simp
theorem Zm{k:List b6}(bk:k.Pairwise fun x y=>x.v<y.v)(v:Int):(k.any fun x=>x.v==v&&x.k==3)=(iZ k v==some 3):=by
 rw[p1,List.any_eq_true,dL];constructor
 ·rintro⟨x,ae,h⟩;simp only[cE,dL]at h;have:=Du bk ae;rw[h.1,h.2]at this;exact this
 ·intro h;exact⟨_,Ly h,Ψ⟩
theorem LJ{b:List ak}{k:List b6}{m:List bo}{d:List ak}{r:List (List ak)}(h:mgu b (gY d)=none):fG b k m (d::r)=fG b k m r:=by rw[fG,h]
theorem LI{b:List ak}{k:List b6}{m:List bo}{d x:List ak}{r:List (List ak)}(h:mgu b (gY d)=some x)(ad:fU x k []=none\/fQ x m []=none):fG b k m (d::r)=fG b k m r:=by rw[fG,h];simp only[if_pos ad]
theorem LH{b:List ak}{k:List b6}{m:List bo}{d x:List ak}{r:List (List ak)}(h:mgu b (gY d)=some x)(ad:¬(fU x k []=none\/fQ x m []=none))(ay:eG b x=[]):fG b k m (d::r)=none:=by rw[fG,h];simp only[if_neg ad,if_pos ay]
theorem LK{b:List ak}{k:List b6}{m:List bo}{d x:List ak}{r:List (List ak)}(h:mgu b (gY d)=some x)(ad:¬(fU x k []=none\/fQ x m []=none))(ay:eG b x≠[]):fG b k m (d::r)=(fG b k m r).map (eG b x:: ·):=by rw[fG,h];simp only[if_neg ad,if_neg ay]
def qo(b:List ak)(k:List b6)(m:List bo)(D:List (List ak))(i:Nat)(a:List (List ak)):Prop:=a.length<=i/\(∀x∈a,eN x)/\(fG b k m (D.drop i)).map (a++ ·)=fG b k m D
def fm(n:Int):T->Bool
 | .var v=>decide (v<n)
 | .pair a b=>fm n a&&fm n b
 |_=>true
theorem xP{n:Int}:∀{t:T},fm n t=true↔vQ t n
 | .var v=>by simp[fm,vQ,T.occ]
 | .pair a b=>by simp only[fm,cE,xP (t:=a),xP (t:=b),vQ,T.occ,l4];exact⟨fun h v aC=>aC.elim (h.1 v) (h.2 v),fun h=>⟨fun v aC=>h v (.inl aC),fun v aC=>h v (.inr aC)⟩⟩
 | .nil=>by simp[fm,vQ,T.occ]
 | .sym _=>by simp[fm,vQ,T.occ]
 | .num _=>by simp[fm,vQ,T.occ]
def k0(n:Int)(b:ak):Bool:=decide (b.v<n)&&fm n b.t
theorem vS{n:Int}{s:List ak}:s.all (k0 n)=true↔oM s n:=by simp[fM,k0,oM,xP]
def sU(v m:Int):Int:=if m<v+1 then v+1 else m
theorem Oe{n:Int}:∀(t:T) (m:Int),t.fold sU m<=n↔m<=n/\fm n t=true
 | .var v,m=>by simp only[T.fold,sU,fm,e6];split<;>omega
 | .pair a b,m=>by simp only[T.fold,Oe b,Oe a,fm,cE,and_assoc]
 | .nil,m=>by simp[T.fold,fm]
 | .sym _,m=>by simp[T.fold,fm]
 | .num _,m=>by simp[T.fold,fm]
def EE(v m:Int):Option Int:=if 0<=v/\v<=100000 then some (sU v m)else none
theorem Od:∀(t:T) (m:Int),t.ok=true->t.foldO EE m=some (t.fold sU m)
 | .var v,m,h=>by
  have:0<=v/\v<=100000:=by simpa[T.ok]using h
  simp[T.foldO,T.fold,EE,this]
 | .pair a b,m,h=>by
  have J:a.ok=true/\b.ok=true:=by simpa[T.ok]using h
  simp[T.foldO,T.fold,Od a m J.1,Od b _ J.2]
 | .nil,m,_=>rfl
 | .sym _,m,_=>rfl
 | .num _,m,_=>rfl
theorem mW.fst{s:List (List ak)}{t:List ak}{acc:List (List ak)}(h:mW s 0 acc)(aM:s[0]? =some t):mW s 1 (if iY s t=true then acc++[t]else acc):=by
 unfold mW at*;rw[AS aM]at h;have e:(if(1:Nat)=0 then none else s[1-1]?)=some t:=by simpa using aM
 have b4:acc++(t::cP (some t) (s.drop 1)).filter (iY s)=(cP none s).filter (iY s):=by rw[<-h];simp[cP]
 rw[e,<-b4];by_cases ad:iY s t=true<;>simp[ad]
theorem mW.eq{s:List (List ak)}{i:Nat}{t:List ak}{acc:List (List ak)}(h:mW s i acc)(hi:i≠0)(bK:s[i-1]? =some t)(aM:s[i]? =some t):mW s (i+1) acc:=by
 unfold mW at*;rw[if_neg hi,bK,AS aM]at h;have e:(if i+1=0 then none else s[i+1-1]?)=some t:=by rw[if_neg Ω];exact aM
 rw[e,<-h];simp[cP]
theorem mW.ne{s:List (List ak)}{i:Nat}{p t:List ak}{acc:List (List ak)}(h:mW s i acc)(hi:i≠0)(bK:s[i-1]? =some p)(aM:s[i]? =some t)(ay:¬p=t):mW s (i+1) (if iY s t=true then acc++[t]else acc):=by
 unfold mW at*;rw[if_neg hi,bK,AS aM]at h;have e:(if i+1=0 then none else s[i+1-1]?)=some t:=by rw[if_neg Ω];exact aM
 have aN:cP (some p) (t::s.drop (i+1))=t::cP (some t) (s.drop (i+1)):=by simp[cP,ay]
 rw[aN]at h;rw[e,<-h];by_cases ad:iY s t=true<;>simp[ad]
theorem alP(l:List (List ak)):(ox eu l).length=l.length:=(xh eu l).length_eq
theorem yE(S:aL->Prop)(l:List (List ak))(d:List ak):aP S (l.map cM++[cM d])=True:=by have:=LD S (l++[d]);rw[List.map_append]at this;exact eq_true this
theorem amv(l:List (List ak))(h0:∀d∈l,eN d):bZ az 96 [.slice 1 .no (l.map cM)] (.slice 1 .no ((jY l).map cM)):=by
 generalize bG:jY l=R;rw[ahx]at bG;refine bz xx abh ahY fun aT=>?_;unfold Pq;have ir:l.length<=68719476736:=by simp[gS,gg,gE,lim]at aT;omega
 simp;refine dW [0,12,13] (fun i (_:Unit)=>[(14,.int .i64 i)]) l.length (fun _ _=>True) () bV trivial (fun _ _ _=>?_) (fun i _ hi _ _=>?_);rotate_left
 ·obtain⟨e,he,KB⟩:=ec hi;have c7:bZ az 53 [cM e] (.bool true):=p0 (h0 e (ed he));exact gN
 simp;(with_reducible repeat' first|refine aj ?_|simp);all_goals first|(refine⟨by unfold lim;omega,?_⟩)|skip
 all_goals(with_reducible repeat' first|refine aj ?_|simp)
 refine cW.ob (ad2 l ir) (IB l) (by unfold ux dT;exact aK) (by unfold ux dT;exact aK) (by simp[inObs,dT,Pv.look]) ?_;rintro r ah ⟨rfl,rfl⟩;refine⟨xM _ _,?_⟩;obtain⟨s,Da⟩:∃s,s=ox eu l:=⟨_,rfl⟩;have qk:s.length=l.length:=by rw[Da];exact alP l
 have ag:∀d∈s,eN d:=fun d aN=>h0 d (by rw[Da,Xx]at aN;exact aN);rw[<-Da]at bG;rw[<-Da];clear Da;simp[ux,dT,cb];refine hQ (fun i (acc:List (List ak))=>⟨[(5,.ptr (.obj 822) 0),(6,.slice 1 (.own (.loc 0)) (acc.map cM)),(30,.row 1 (.obj 821) s.length),(31,.int .i64 s.length),(32,.int .i64 i)],[(.obj 822,[.row 1 (.obj 821) s.length])],[(.loc 0,⟨acc.length,23,1,none⟩),(.obj 821,⟨s.length,23,1,some (s.map cM)⟩)],1,[.obj 821,.obj 822]⟩) s.length (fun i acc=>acc.length<=i/\mW s i acc) [] bV ⟨Ψ,by simp[mW]⟩ (fun acc af _=>?_) (fun i acc hi af _=>?_)
 ·have af:=af.2;rw[mW,List.drop_length]at af;have:acc=R:=by rw[<-bG];simpa[cP]using af
  subst this;exact cD
 ·obtain⟨ao9,af⟩:=af;have mf:acc.length<=68719476735:=Ω
  obtain⟨t,sf,aM⟩:=ec hi;have da:=ag t (ed sf);have iE:bZ az 91 [cM t] (cM t):=Ya t da.len;have jW:(if iY s t=true then acc++[t]else acc).length<=acc.length+1:=by split<;>simp
  rcases Nat.eq_zero_or_pos i with rfl|fA
  ·have Ts:=af.fst sf;have fu:(if iY s t=true then acc++[t]else acc).length<=0+1/\mW s (0+1) (if iY s t=true then acc++[t]else acc):=⟨kn jW Ω,Ts⟩;clear af Ts sf;simp[hi,aM];(with_reducible repeat' first|refine aj ?_|simp[hi,aM]);refine dW [5,6,8,30,31,32,49,50] (fun j (b:Bool)=>[(9,.bool b),(51,.int .i64 j)]) s.length (qn s t) true bV (by simp[qn]) (fun keep af _=>?_) (fun j keep dZ af _=>?_)
   ·rw[qn,l6,<-Un]at af;rw[<-af]at fu;clear af;cases keep with
    |false=>simp only[gO,if_false]at fu;simp;((with_reducible repeat' first|refine aj ?_|simp|((first|apply bJ|apply bM|apply bL)<;>intro h<;>try simp at h))<;>(try exact cc));all_goals exact bQ.rng acc hi fu bV
    |true=>
     simp only[if_true]at fu;clear jW;simp;((with_reducible repeat' first|refine aj ?_|refine aD iE ?_|refine aE iE ?_|simp|((first|apply bJ|apply bM|apply bL)<;>intro h<;>try simp at h))<;>(try exact cc));all_goals first|(refine⟨by unfold lim;omega,?_⟩)|skip
     all_goals(with_reducible repeat' first|refine aj ?_|simp)
     all_goals exact bQ.rng (acc++[t]) hi fu ⟨by simp[fresh,aP,aG,cn,inObs,Pv.look,yE],en (by simp[fresh,aP,aG,cn,inObs,Pv.look,yE]),eo (by simp[fresh,aP,aG,dV,inObs,Pv.look,yE]),Ψ⟩
   ·obtain⟨d,aN,hdi⟩:=ec dZ;have ay:=af.step aN;have iX:=ag d (ed aN);have ea:bZ az 141 [cM d,cM t] (.bool (nJ d t)):=Yp d iX.len da;have o1:bZ az 140 [cM d,cM t] (.int .i64 (eu d t)):=Iq d t;clear af aN fu;by_cases q:eu d t=0
    ·rw[wT,gD ((lX.zero _ _).1 q),Bool.true_or,Bool.and_true]at ay;rw[q]at o1;simp[dZ,hdi];((with_reducible repeat' first|refine aj ?_|refine aD o1 ?_|refine aE o1 ?_|simp[dZ,hdi]|((first|apply bJ|apply bM|apply bL)<;>intro h<;>try simp at h))<;>(try exact cc));all_goals exact bQ.rng keep dZ ay bV
    ·rw[wT,ij (fun h=>q ((lX.zero _ _).2 h)),Bool.false_or]at ay;have ga:(eu d t !=0)=true:=by simp[q]
     cases aX:nJ d t
     ·rw[aX]at ay ea;simp only[Bool.not_false,Bool.and_true]at ay;simp[dZ,hdi];((with_reducible repeat' first|refine aj ?_|refine aD o1 ?_|refine aE o1 ?_|refine aD ea ?_|refine aE ea ?_|simp[dZ,hdi,q,ga]|((first|apply bJ|apply bM|apply bL)<;>intro h<;>try simp at h))<;>(try exact cc));all_goals exact bQ.rng keep dZ ay bV
     ·rw[aX]at ay ea;simp only[Bool.not_true,Bool.and_false]at ay;simp[dZ,hdi];((with_reducible repeat' first|refine aj ?_|refine aD o1 ?_|refine aE o1 ?_|refine aD ea ?_|refine aE ea ?_|simp[dZ,hdi,q,ga]|((first|apply bJ|apply bM|apply bL)<;>intro h<;>try simp at h))<;>(try exact cc));all_goals exact bQ.rng false dZ ay bV
  ·obtain⟨p,Au⟩:∃p,s[i-1]? =some p:=⟨_,cf Ω⟩;have ao:((i:Int)-1).toNat=i-1:=Ω
   have aF:∀h,(s[i-1]'h)=p:=fun h=>by rw[cf h]at Au;exact eJ Au
   have bA:¬i=0:=Ω
   have dr:i-1<s.length:=Ω
   have iV:(0:Int)<i:=Ω
   have gT:bZ az 140 [cM p,cM t] (.int .i64 (eu p t)):=Iq p t;by_cases Gl:p=t
   ·have fu:acc.length<=i+1/\mW s (i+1) acc:=⟨Ω,af.eq bA (by rw[Au,Gl]) sf⟩;rw[(lX.zero _ _).2 Gl]at gT;clear af sf Au;simp[hi,aM,ao,aF,dr,iV];((with_reducible repeat' first|refine aj ?_|refine aD gT ?_|refine aE gT ?_|simp[hi,aM,ao,aF,dr,fA,iV]|((first|apply bJ|apply bM|apply bL)<;>intro h<;>try simp at h))<;>(try exact cc));all_goals exact bQ.rng acc hi fu bV
   ·have fu:(if iY s t=true then acc++[t]else acc).length<=i+1/\mW s (i+1) (if iY s t=true then acc++[t]else acc):=⟨kn jW Ω,af.ne bA Au sf Gl⟩;have o4:¬eu p t=0:=fun h=>Gl ((lX.zero _ _).1 h);have V6:(eu p t==0)=false:=by simp[o4]
    clear af sf Au;simp[hi,aM,ao,aF,dr,iV];((with_reducible repeat' first|refine aj ?_|refine aD gT ?_|refine aE gT ?_|simp[hi,aM,ao,aF,dr,fA,iV,o4,V6]|((first|apply bJ|apply bM|apply bL)<;>intro h<;>try simp at h))<;>(try exact cc));refine dW [5,6,8,30,31,32,49,50] (fun j (b:Bool)=>[(9,.bool b),(51,.int .i64 j)]) s.length (qn s t) true bV (by simp[qn]) (fun keep af _=>?_) (fun j keep dZ af _=>?_)
    ·rw[qn,l6,<-Un]at af;rw[<-af]at fu;clear af;cases keep with
     |false=>simp only[gO,if_false]at fu;simp;((with_reducible repeat' first|refine aj ?_|simp|((first|apply bJ|apply bM|apply bL)<;>intro h<;>try simp at h))<;>(try exact cc));all_goals exact bQ.rng acc hi fu bV
     |true=>
      simp only[if_true]at fu;clear jW;simp;(with_reducible repeat' first|refine aj ?_|refine aD iE ?_|refine aE iE ?_|simp);all_goals first|(refine⟨by unfold lim;omega,?_⟩)|skip
      all_goals(with_reducible repeat' first|refine aj ?_|simp)
      all_goals exact bQ.rng (acc++[t]) hi fu ⟨by simp[fresh,aP,aG,cn,inObs,Pv.look,yE],en (by simp[fresh,aP,aG,cn,inObs,Pv.look,yE]),eo (by simp[fresh,aP,aG,dV,inObs,Pv.look,yE]),Ψ⟩
    ·obtain⟨d,aN,hdi⟩:=ec dZ;have ay:=af.step aN;have iX:=ag d (ed aN);have ea:bZ az 141 [cM d,cM t] (.bool (nJ d t)):=Yp d iX.len da;have o1:bZ az 140 [cM d,cM t] (.int .i64 (eu d t)):=Iq d t;clear af aN fu;by_cases q:eu d t=0
     ·rw[wT,gD ((lX.zero _ _).1 q),Bool.true_or,Bool.and_true]at ay;rw[q]at o1;simp[dZ,hdi];((with_reducible repeat' first|refine aj ?_|refine aD o1 ?_|refine aE o1 ?_|simp[dZ,hdi]|((first|apply bJ|apply bM|apply bL)<;>intro h<;>try simp at h))<;>(try exact cc));all_goals exact bQ.rng keep dZ ay bV
     ·rw[wT,ij (fun h=>q ((lX.zero _ _).2 h)),Bool.false_or]at ay;have ga:(eu d t !=0)=true:=by simp[q]
      cases aX:nJ d t
      ·rw[aX]at ay ea;simp only[Bool.not_false,Bool.and_true]at ay;simp[dZ,hdi];((with_reducible repeat' first|refine aj ?_|refine aD o1 ?_|refine aE o1 ?_|refine aD ea ?_|refine aE ea ?_|simp[dZ,hdi,q,ga]|((first|apply bJ|apply bM|apply bL)<;>intro h<;>try simp at h))<;>(try exact cc));all_goals exact bQ.rng keep dZ ay bV
      ·rw[aX]at ay ea;simp only[Bool.not_true,Bool.and_false]at ay;simp[dZ,hdi];((with_reducible repeat' first|refine aj ?_|refine aD o1 ?_|refine aE o1 ?_|refine aD ea ?_|refine aE ea ?_|simp[dZ,hdi,q,ga]|((first|apply bJ|apply bM|apply bL)<;>intro h<;>try simp at h))<;>(try exact cc));all_goals exact bQ.rng false dZ ay bV
theorem ann(l:List T)(h:∀t∈l,t.fit=true):bZ az 87 [.slice 4 .no (l.map T.e)] (.bool true):=by
 refine bz fJ abW aiD fun aT=>?_;unfold P6;have ir:l.length<=68719476736:=by simp[gS,gg,gE,lim]at aT;omega
 simp;refine dW [5,6] (fun i (_:Unit)=>[(7,.int .i64 i)]) l.length (fun _ _=>True) () bV trivial (fun _ _ _=>?_) (fun i _ hi _ _=>?_)
 ·exact cD
 ·obtain⟨t,aM,sf⟩:=ec hi;have dJ:=N0 (h t (ed aM));clear aM;exact gN
def iL(m:Int):cS:=⟨[(.obj 831,[.int .i64 m])],[]⟩
theorem vP(m:Int):dR (iL m):=by unfold iL;exact dR.of ⟨by intro m;simp[Pv.look],by intro m;simp[Pv.look]⟩ Ψ Ψ
theorem Y4(a b:Int):Same (iL a) (iL b):=Same.keys (by simp[iL]) (by simp[iL])
theorem adz(v m h5:Int)(h:EE v m=some h5):bH az 135 [.int .i64 v,.ptr (.obj 831) 0] (iL m) fun r ah=>r= .tuple []/\ah=iL h5:=by
 unfold EE at h;split at h;rotate_left
 ·cases h
 rename_i aC;cases h;have ag:=vP m;simp only[iL]at ag⊢;by_cases hm:m<v+1
 ·rw[sU,if_pos hm];refine bH.mk mixed xx RT VD Ψ ag.obj fun aT cI=>?_;unfold Jc;simp;(with_reducible repeat' first|refine aj ?_|simp[hm]);(refine cO.at (iL (v+1)) Ψ (by first|exact vP _|exact vP ‹_› _) (Same.keys (by simp[iL]) (by simp[iL])) (by simp only[iL,bO,bS];exact aK) (by simp only[iL,bO,bS];exact aK) ?_;simp[cT,MF,aW,aY,aV,inObs,Pv.look,iL])
 ·rw[sU,if_neg hm];refine bH.mk mixed xx RT VD Ψ ag.obj fun aT cI=>?_;unfold Jc;simp;(with_reducible repeat' first|refine aj ?_|simp[hm]);(refine cO.at (iL m) Ψ (by first|exact vP _|exact vP ‹_› _) (Same.keys (by simp[iL]) (by simp[iL])) (by simp only[iL,bO,bS];exact aK) (by simp only[iL,bO,bS];exact aK) ?_;simp[cT,MF,aW,aY,aV,inObs,Pv.look,iL])
def ED(l:List T):Int:=l.foldl (fun m t=>t.fold sU m) 0
def GB(l:List T)(i:Nat)(m:Int):Prop:=m=ED (l.take i)
theorem amB(l:List T)(h:∀t∈l,t.fit=true):bZ az 88 [.slice 4 .no (l.map T.e)] (.int .i64 (ED l)):=by
 have dJ:=ann l h;generalize bG:ED l=R;refine bz xx abo ah5 fun aT=>?_;unfold Py;have ir:l.length<=68719476736:=by simp[gS,gg,gE,lim]at aT;omega
 simp;(with_reducible repeat' first|refine aj ?_|refine aD dJ ?_|refine aE dJ ?_|simp);refine hQ (fun i (m:Int)=>⟨[(3,.ptr (.obj 831) 0),(9,.slice 4 .no (l.map T.e)),(10,.int .i64 l.length),(11,.int .i64 i)],[(.obj 831,[.int .i64 m])],[],0,[.obj 831]⟩) l.length (GB l) 0 bV rfl (fun m af _=>?_) (fun i m hi af _=>?_)
 ·rw[GB,l6,bG]at af;subst af;exact cD
 ·obtain⟨t,aM,sf⟩:=ec hi;have aeU:t.ok=true:=by have:=h t (ed aM);simp only[T.fit,cE]at this;exact this.1
  have ay:GB l (i+1) (t.fold sU m):=by rw[GB,ng aM,ED,List.foldl_append,af];rfl
  have key:=Kc iL vP Y4 135 [.ptr (.obj 831) 0] (fun a=>by simp[iL,inObs,Pv.look]) Ψ EE (fun v a bj h=>adz v a bj h) t m _ (Od t m aeU);clear af aM;simp[hi,sf];(with_reducible repeat' first|refine aj ?_|simp[sf,hi]);(refine cW.ob (key) (by first|exact vP _|exact vP ‹_› _) (by simp only[iL,bO,bS];exact aK) (by simp only[iL,bO,bS];exact aK) (by simp[inObs,Pv.look,iL]) ?_;rintro r ah ⟨rfl,rfl⟩;refine⟨(Same.keys (by simp[iL]) (by simp[iL])),?_⟩;simp[cb,iL]);(with_reducible repeat' first|refine aj ?_|simp);refine bQ.rng (t.fold sU m) hi ay ?_;exact bV
theorem X9{s:List ak}(ag:eN s){n:Int}(ay:0<=n):bZ az 56 [.slice 5 .no (s.map ak.e),.int .i64 n] (.bool (s.all (k0 n))):=by
 have qk:=ag.len;generalize bG:s.all (k0 n)=R;refine bz xx abq ah7 fun aT=>?_;unfold PA;simp;refine dW [1,7,8] (fun i (_:Unit)=>[(9,.int .i64 i)]) s.length (kM (k0 n) s) () bV (fun k b ad=>Ω) (fun _ af _=>?_) (fun i _ hi af _=>?_)
 ·have:R=true:=by rw[<-bG,fM];intro b ab;obtain⟨k,ad,e⟩:=nX ab;exact af k b ad (by rw[cf ad,e])
  rw[this];exact cD
 ·obtain⟨b,aC,gi⟩:=ec hi;have e1:k0 n b=false->R=false:=fun h=>by rw[<-bG,Bool.eq_false_iff];intro b4;rw[fM]at b4;rw[b4 b (ed aC)]at h;cases h
  have lU:=amB [b.t] (fun t aM=>by simp at aM;subst aM;exact ag.fit b (ed aC));have hle:=Oe (n:=n) b.t 0;rw[show ED [b.t]=b.t.fold sU 0 from rfl]at lU;simp only[hk,qG]at lU;generalize b.t.fold sU 0=m at lU hle;by_cases J:b.v<n
  ·have oa:¬n<=b.v:=Ω
   cases U:fm n b.t
   ·have ar:n<m:=by rw[U]at hle;simp at hle;omega
    rw[e1 (by simp[k0,U])];clear af aC hle;exact cD
   ·have ar:¬n<m:=by rw[U]at hle;simp[ay]at hle;omega
    have ha:=af.step aC (by simp[k0,J,U]);clear af aC hle;exact gN
  ·have oa:n<=b.v:=Ω
   rw[e1 (by simp[k0,J])];clear af aC hle;exact cD
def vT:C:=(aa [c8 1 0,bq 2 false] (.seq (aa [aI 11 0 1 1,aw 12 1 11,aS 13 .lss 12 0,I 14 13,au 14 false (aI 15 0 1 1),au 14 false (aw 16 1 15),au 14 false (aS 17 .gtr 16 100000),c6 18 14 17,I 19 18,au 19 false (aI 20 1 1 1),au 19 false (aw 21 1 20),au 19 false (cR 22 53 21),au 19 false (cJ 23 22),c6 24 19 23,I 25 24,au 25 false (aI 26 3 1 1),au 25 false (aw 27 1 26),au 25 false (cR 28 54 27),au 25 false (cJ 29 28),c6 30 25 29,I 31 30,au 31 false (aI 32 4 1 1),au 31 false (aw 33 1 32),au 31 false (cR 34 55 33),au 31 false (cJ 35 34),c6 36 31 35,I 37 36,au 37 false (aI 38 1 1 1),au 37 false (aw 39 1 38),au 37 false (aI 40 0 1 1),au 37 false (aw 41 1 40),au 37 false (ch 42 56 39 41),au 37 false (cJ 43 42),c6 44 37 43] (aZ 44 (aa [bq 2 false] .ret) .skip)) (.seq (aa [aI 45 2 1 1,aw 46 1 45,cz 47 46,cd 48 0] (e5 49 48 47 (.seq (.block 1 (aa [cy 50 1 46 48,aw 51 1 50,I 4 51] (aa [I 52 4,cR 53 53 52,cJ 54 53,I 55 54,bW 55 false 56 4,au 55 false (aI 57 0 1 1),au 55 false (aw 58 1 57),au 55 false (ch 59 56 56 58),au 55 false (cJ 60 59),c6 61 55 60] (aZ 61 (aa [bq 2 false] .ret) .skip)))) (.region [aS 62 .add 48 1,I 48 62])))) (.seq (aa [aI 63 3 1 1,aw 64 1 63,cz 65 64,cd 66 0] (.block 2 (.loop (aa [br 67 .lss 66 65] (.seq (aZ 67 .skip (.exit 2)) (.seq (.block 3 (aa [cy 68 2 64 66,a7 69 2 68,cN (.alloc 6 none (.agg [.int .i64 0,.int .i64 0])),bN 2 6 69] (aa [aI 70 0 1 6,aw 71 1 70,aI 72 0 1 1,aw 73 1 72,br 74 .geq 71 73] (aZ 74 (aa [bq 2 false] .ret) .skip)))) (.region [aS 75 .add 66 1,I 66 75]))))))) (.seq (aa [aI 76 4 1 1,aw 77 1 76,cz 78 77,cd 79 0] (.block 4 (.loop (aa [br 80 .lss 79 78] (.seq (aZ 80 .skip (.exit 4)) (.seq (.block 5 (aa [cy 81 2 77 79,a7 82 2 81,cN (.alloc 8 none (.agg [.int .i64 0,.str []])),bN 2 8 82] (aa [aI 83 0 1 8,aw 84 1 83,aI 85 0 1 1,aw 86 1 85,br 87 .geq 84 86] (aZ 87 (aa [bq 2 false] .ret) .skip)))) (.region [aS 88 .add 79 1,I 79 88]))))))) (aa [a7 90 5 1,cR 91 42 90,I 89 91,cC 92 0 89,cC 93 1 89,c1 9 kR,bN 5 9 92,I 10 93] (aa [I 94 10,I 95 94,au 95 true (a7 96 5 9),au 95 true (a7 97 5 1),au 95 true (ch 98 46 96 97),dq 99 95 98,I 2 99] .ret)))))))
@[simp] def akg:List bX:=[.tmp 2]
def Fi:C:=(aa [c8 1 0,c1 2 kR,bq 3 false] (aa [aI 26 1 1 1,aw 27 1 26,aI 28 3 1 1,aw 29 1 28,ch 30 92 27 29,I 25 30,cC 31 0 25,cC 32 1 25,I 4 31,I 5 32] (aa [aI 34 1 1 1,aw 35 1 34,aI 36 4 1 1,aw 37 1 36,ch 38 93 35 37,I 33 38,cC 39 0 33,cC 40 1 33,I 6 39,I 7 40] (.seq (aa [I 41 5,cJ 42 41,I 43 42,bW 43 false 44 7,au 43 false (cJ 45 44),c6 46 43 45] (aZ 46 (aa [hD 47 kR [],bN 5 2 47,bq 3 false] .ret) .skip)) (aa [cN (.mkmap 48 none),I 8 48] (.seq (aa [I 49 4,cz 50 49,cd 51 0] (e5 52 51 50 (.seq (.block 1 (aa [cy 53 2 49 51,a7 54 2 53,cN (.alloc 10 none (.agg [.int .i64 0,.int .i64 0])),bN 2 10 54] (aa [aI 55 1 1 10,aw 56 1 55,aS 57 .eql 56 3] (aZ 57 (.region [I 58 8,aI 59 0 1 10,aw 60 1 59,cN (.mput .i (.t 58) (.t 60) (.c (.bool true)))]) .skip)))) (.region [aS 61 .add 51 1,I 51 61])))) (aa [eE 62 2 56 [],I 11 62] (.seq (aa [I 63 6,cz 64 63,cd 65 0] (.block 2 (.loop (aa [br 66 .lss 65 64] (.seq (aZ 66 .skip (.exit 2)) (.seq (.block 3 (aa [cy 67 2 63 65,a7 68 2 67,cN (.alloc 13 none (.agg [.int .i64 0,.str []])),bN 2 13 68] (aa [I 69 8,aI 70 0 1 13,aw 71 1 70,bR 72 (.mget .i (.bool false) false (.t 69) (.t 71)),cJ 73 72] (aZ 73 (.region [I 74 11,a7 75 2 13,eE 76 2 56 [.t 75],hj 77 2 56 74 76,I 11 77]) .skip)))) (.region [aS 78 .add 65 1,I 65 78]))))))) (aa [eE 79 1 23 [],I 14 79] (.seq (aa [aI 80 2 1 1,aw 81 1 80,cz 82 81,cd 83 0] (.block 4 (.loop (aa [br 84 .lss 83 82] (.seq (aZ 84 .skip (.exit 4)) (.seq (.block 5 (aa [cy 85 1 81 83,aw 86 1 85,I 16 86] (aa [aI 88 1 1 1,aw 89 1 88,I 90 16,ch 91 94 89 90,I 87 91,cC 92 0 87,cC 93 1 87,I 17 92,I 18 93] (.seq (aa [I 94 18,cJ 95 94] (aZ 95 (.exit 5) .skip)) (aa [I 97 17,I 98 4,ch 99 92 97 98,I 96 99,cC 100 0 96,cC 101 1 96,I 19 100,I 20 101] (aa [I 103 17,I 104 11,ch 105 93 103 104,I 102 105,cC 106 0 102,cC 107 1 102,I 21 106,I 22 107] (.seq (aa [I 108 20,cJ 109 108,I 110 109,bW 110 false 111 22,au 110 false (cJ 112 111),c6 113 110 112] (aZ 113 (.exit 5) .skip)) (aa [aI 114 1 1 1,aw 115 1 114,I 116 17,ch 117 95 115 116,I 23 117] (.seq (aa [I 118 23,cz 119 118,aS 120 .eql 119 0] (aZ 120 (aa [hD 121 kR [],bN 5 2 121,bq 3 false] .ret) .skip)) (.region [I 122 14,I 123 23,eE 124 1 23 [.t 123],hj 125 1 23 122 124,I 14 125])))))))))) (.region [aS 126 .add 83 1,I 83 126]))))))) (aa [I 127 14,cR 128 96 127,I 24 128] (.seq (aa [I 129 24,cz 130 129,aS 131 .gtr 130 30] (aZ 131 (aa [hD 132 kR [],bN 5 2 132,bq 3 false] .ret) .skip)) (.seq (.drawn true 142 [aI 133 0 1 1,aw 134 1 133,aI 135 1 1 1,aw 136 1 135,cR 137 91 136,I 138 24,I 139 4,I 140 11,hD 141 kR [(0,1,(.t 134)),(1,1,(.t 137)),(2,1,(.t 138)),(3,1,(.t 139)),(4,1,(.t 140))],bN 5 2 141,bq 3 true]) .ret)))))))))))))
@[simp] def Bl:List bX:=[.cell 2 true 5,.tmp 3]
def xT:C:=(aa [c8 2 0,c8 3 1,bq 4 false] (.seq (aa [aI 8 0 1 2,aw 9 1 8,aI 10 0 1 3,aw 11 1 10,br 12 .neq 9 11,I 13 12,au 13 false (aI 14 1 1 2),au 13 false (aw 15 1 14),au 13 false (aI 16 1 1 3),au 13 false (aw 17 1 16),au 13 false (ch 18 99 15 17),au 13 false (cJ 19 18),c6 20 13 19,I 21 20,au 21 false (aI 22 2 1 2),au 21 false (aw 23 1 22),au 21 false (cz 24 23),au 21 false (aI 25 2 1 3),au 21 false (aw 26 1 25),au 21 false (cz 27 26),au 21 false (br 28 .neq 24 27),c6 29 21 28,I 30 29,au 30 false (aI 31 3 1 2),au 30 false (aw 32 1 31),au 30 false (cz 33 32),au 30 false (aI 34 3 1 3),au 30 false (aw 35 1 34),au 30 false (cz 36 35),au 30 false (br 37 .neq 33 36),c6 38 30 37,I 39 38,au 39 false (aI 40 4 1 2),au 39 false (aw 41 1 40),au 39 false (cz 42 41),au 39 false (aI 43 4 1 3),au 39 false (aw 44 1 43),au 39 false (cz 45 44),au 39 false (br 46 .neq 42 45),c6 47 39 46] (aZ 47 (aa [bq 4 false] .ret) .skip)) (.seq (aa [aI 48 2 1 2,aw 49 1 48,cz 50 49,cd 51 0] (e5 52 51 50 (.seq (.block 1 (aa [I 53 51,I 5 53] (.seq (.drawn true 103 [aI 54 2 1 2,aw 55 1 54,I 56 5,cy 57 1 55 56,aw 58 1 57,aI 59 2 1 3,aw 60 1 59,I 61 5,cy 62 1 60 61,aw 63 1 62,ch 64 99 58 63,cJ 65 64]) (aZ 65 (aa [bq 4 false] .ret) .skip)))) (.region [aS 66 .add 51 1,I 51 66])))) (.seq (aa [aI 67 3 1 2,aw 68 1 67,cz 69 68,cd 70 0] (.block 2 (.loop (aa [br 71 .lss 70 69] (.seq (aZ 71 .skip (.exit 2)) (.seq (.block 3 (aa [I 72 70,I 6 72] (.seq (.drawn true 103 [aI 73 3 1 2,aw 74 1 73,I 75 6,cy 76 2 74 75,a7 77 2 76,aI 78 3 1 3,aw 79 1 78,I 80 6,cy 81 2 79 80,a7 82 2 81,bR 83 (.beq true (some [false,false]) (.t 77) (.t 82))]) (aZ 83 (aa [bq 4 false] .ret) .skip)))) (.region [aS 84 .add 70 1,I 70 84]))))))) (.seq (aa [aI 85 4 1 2,aw 86 1 85,cz 87 86,cd 88 0] (.block 4 (.loop (aa [br 89 .lss 88 87] (.seq (aZ 89 .skip (.exit 4)) (.seq (.block 5 (aa [I 90 88,I 7 90] (.seq (.drawn true 103 [aI 91 4 1 2,aw 92 1 91,I 93 7,cy 94 2 92 93,a7 95 2 94,aI 96 4 1 3,aw 97 1 96,I 98 7,cy 99 2 97 98,a7 100 2 99,bR 101 (.beq true (some [false,true]) (.t 95) (.t 100))]) (aZ 101 (aa [bq 4 false] .ret) .skip)))) (.region [aS 102 .add 88 1,I 88 102]))))))) (aa [bq 4 true] .ret))))))
@[simp] def Hx:List bX:=[.tmp 4]
def If:List (Nat×dz):=[
 (3,⟨1,8,.int .i64,.int .i64 0⟩),
 (4,⟨1,1,.bool,.bool false⟩),
 (9,⟨1,16,.str,.str []⟩),
 (23,⟨1,24,.slice 54,.slice 5 .nil []⟩),
 (24,⟨1,24,.slice 23,.slice 1 .nil []⟩),
 (25,⟨1,24,.slice 59,.slice 2 .nil []⟩),
 (26,⟨1,24,.slice 56,.slice 2 .nil []⟩),
 (28,⟨5,104,.struct [(0,3),(1,23),(2,24),(3,25),(4,26)],.agg [.int .i64 0,.slice 5 .nil [],.slice 1 .nil [],.slice 2 .nil [],.slice 2 .nil []]⟩),
 (51,⟨1,8,.map 3 4,.junk⟩),
 (56,⟨2,24,.struct [(0,3),(1,9)],.agg [.int .i64 0,.str []]⟩),
 (59,⟨2,16,.struct [(0,3),(1,3)],.agg [.int .i64 0,.int .i64 0]⟩)]
theorem oz:fI az If=true:=by kernel_rfl
theorem yR:b7 If vT akg 1 Tryz.f22=true:=by kernel_rfl
theorem xV:az.funcs[(22:Nat)]? =some Tryz.f22:=Tryz.func22
theorem Mn:b7 If Fi Bl 1 Tryz.f42=true:=by kernel_rfl
theorem JX:az.funcs[(42:Nat)]? =some Tryz.f42:=Tryz.func42
theorem Ba:b7 If xT Hx 2 Tryz.f46=true:=by kernel_rfl
theorem zS:az.funcs[(46:Nat)]? =some Tryz.f46:=Tryz.func46
end
end Go.Proofs.YtohaalphocaebaaGreatDoor
