/- made by mk2.py: the code of the functions, and the checks against the program's own form. -/
import Derived.Sort.AssemblyPlain
import Derived.Sort.LotD5
import Derived.Test.YtohaalphocaebaaGreatDoorProg
import Derived.Lib.OwnBridge
import Derived.Shelf.GgSortMore.Stable
import Derived.Shelf.GgSortFunc.SmallK
import Derived.Shelf.GgSortFunc.Slice
import Derived.Ground.GgsProg
import Derived.Test.YtohaalphocaebaaGreatDoorX3
set_option linter.all false
set_option maxHeartbeats 4000000
set_option maxRecDepth 4000
open Array renaming getElem?_toList->u7
open BitVec renaming ofInt->mF
open Bool renaming and_eq_true->cr,eq_iff_iff->qz,false_eq_true->hg,or_eq_true->lP
open Go renaming Program->cK,TypeId->hh
open Go.Extern.ReflectliteSwapper renaming swap->FV,swapper->avr
open Go.Extern.ReflectliteValue renaming len->avs,method->avt,unpack->aq3,valueError->aq4
open Go.Extern.Rtype renaming kind->abJ
open Go.IntKind renaming bits->oH,i64->nT,signed->sc,u64->hG,wrap->tF
open Go.IntWalk renaming i64_in->nm
open Go.Proofs.Tryz renaming prog->aw
open List renaming all_eq_true->fV,cons_append->bP,drop_eq_getElem_cons->lu,getElem?_eq_getElem->cg,getElem?_eq_some_iff->fD,getElem_of_mem->oI,length_cons->mG,map_cons->gZ,map_nil->nn,mem_cons->fm,mem_cons_of_mem->pd,mem_of_getElem?->eF,mem_singleton->iS,nil_append->bU,pairwise_iff_getElem->pY,take_length->lQ,take_of_length_le->hl
open List.cons renaming injEq->yk
open Nat renaming add_mul->p0,le_refl->dZ,le_trans->ha,mul_le_mul_right->rh,strongRecOn->qA
open Ne renaming symm->lR
open Option renaming isSome_none->k1,map_eq_some_iff->gv,map_some->oK
open Option.some renaming inj->eZ,injEq->dE
open Prod.mk renaming injEq->j7
open _root_ renaming beq_iff_eq->dM,congrArg->eW,decide_eq_false->h0,decide_eq_false_iff_not->gD,decide_eq_true->hb,decide_eq_true_eq->eN
namespace Go.Proofs.YtohaalphocaebaaGreatDoor
section
open Go Go.Pv
structure fh {α:Type} (S:List α->cT) (n:Nat) (g cd:Nat) (lc ca:List aj) (lt:α->α->Bool):Prop where
 ok:∀l,dP (S l)
 same:∀l a6,l.length=n->a6.length=n->Same (S l) (S a6)
 klc:∀l,l.length=n->aO (inObs (S l)) lc
 ksc:∀l,l.length=n->aO (inObs (S l)) ca
 slc:dq lc=lc
 ssc:dq ca=ca
 le:n<=68719476736
 less:∀l,l.length=n->∀(i j:Nat) x y,l[i]? =some x->l[j]? =some y->bG aw g (.int .i64 i:: .int .i64 j::lc) (S l) fun r ah=>r= .bool (lt x y)/\ah=S l
 swap:∀l,l.length=n->2<=n->∀i j:Nat,i<n->j<n->bG aw cd (.int .i64 i:: .int .i64 j::ca) (S l) fun r ah=>r= .tuple []/\ah=S (hA l i j)
variable {α:Type} {S:List α->cT} {n g cd:Nat} {lc ca:List aj} {lt:α->α->Bool}
def e7(g cd:Nat)(lc ca:List aj):aj:= .agg [.func g lc,.func cd ca]
theorem L7(H:fh S n g cd lc ca lt)(l:List α)(av:l.length=n)(a b c:Nat)(asB:a+c<=b)(Vr:b+c<=n):
  bG aw 216 [e7 g cd lc ca,.int .i64 a,.int .i64 b,.int .i64 c] (S l) fun r ah=>r= .tuple []/\∃a6,ah=S a6/\gF a (b+c) l a6/\∀k,a6[k]? =l[tx a b c k]?:=by
 have af:=H.ok l;have au:∀l m,Pv.look (.loc m) (S l).b=none:=fun l=>(H.ok l).obj.1;have hu:∀l m cs,cB (.loc m) cs (S l).b=(S l).b++[(.loc m,cs)]:=fun l m cs=>kK (au l m);have ay:∀m,aL.loc m∉c5 (S l):=kD af.obj;have hle:=H.le;refine bG.mk mixed CB afp amg Ψ af.obj fun aQ cI=>?_;unfold SG;simp[e7,hu,ay,cV,au,H.slc,H.ssc];refine hI (fun i (lk:List α)=>⟨[(1,.int .i64 a),(2,.int .i64 b),(3,.int .i64 c),(4,.ptr (.loc 0) 0),(8,.int .i64 i)],[(.loc 0,[.func g lc,.func cd ca])]++(S lk).b,(S lk).e,1,c5 (S l)⟩) c (fun i lk=>lk.length=n/\gF a (b+c) l lk/\∀k,lk[k]? =l[tx a b i k]?) l
  (jn.obL af (Same.refl _) d6 (by simp[cV,au,aJ,aO,BX (H.klc l av),BX (H.ksc l av)]) aH aH) ⟨av,.refl _,fun k=>by simp[tx];split<;>(try split)<;>(try rfl)<;>(exfalso;omega)⟩ ?_ ?_
 ·rintro lk ⟨J,U,h3⟩ _;simp;refine cL.at (S lk) (.inr rfl) (H.ok lk) (H.same _ _ av J) aH aH ?_;simp[cM,Zk,aV,aY,aU];exact⟨lk,rfl,U,h3⟩
 ·rintro i lk hi ⟨J,U,h3⟩ _;have aq:((a:Int)+i)=(a+i:Nat):=Ω
  have aF:((b:Int)+i)=(b+i:Nat):=Ω
  simp[hi,cV,au,H.ssc];(with_reducible repeat' first|refine ak ?_|simp);rw[aq,aF];refine cQ.ob (H.swap lk J Ω (a+i) (b+i) Ω Ω) (H.ok lk) aH aH (by simp[H.ksc lk J]) ?_;rintro r ah ⟨rfl,rfl⟩;refine⟨H.same _ _ J (by simp[J]),?_⟩;simp[ht,jg,cb,au];(with_reducible repeat' first|refine ak ?_|simp);refine bR.rng (hA lk (a+i) (b+i)) hi ⟨by simp[J],.step U Ω Ω Ω Ω Ω Ω,fun k=>?_⟩ (jn.obL (L:=[(.loc 0,[.func g lc,.func cd ca])]) (H.ok _) (H.same _ _ av (by simp[J])) d6 (by simp[cV,au,aJ,aO,BX (H.klc (hA lk (a+i) (b+i)) (by simp[J])),BX (H.ksc (hA lk (a+i) (b+i)) (by simp[J]))]) aH aH);rw[BL _ _ _ _ Ω Ω,h3,h3,h3];have:tx a b (i+1) k=if k=a+i then tx a b i (b+i)else if k=b+i then tx a b i (a+i)else tx a b i k:=by
   simp only[tx];repeat' split
   all_goals omega
  rw[this];split
  ·rfl
  ·split<;>rfl
section
variable (H:fh S n g cd lc ca lt)
include H
theorem fh.loc{l:List α}(m:Nat):Pv.look (.loc m) (S l).b=none:=(H.ok l).obj.1 m
theorem fh.weak{l lk:List α}(av:l.length=n)(ae:lk.length=n){st:bn}{du:List (Nat×aj)}(aI:∀x∈du,Pv.get x.1 st.t=x.2/\aJ (mZ (S lk) 1) x.2)(bz:Pv.look (.loc 0) st.b=some [.func g lc,.func cd ca])
  (ad:∀k cs,Pv.look k (S lk).b=some cs->Pv.look k st.b=some cs) (he:∀k o,Pv.look k (S lk).e=some o->Pv.look k st.e=some o):
  jn (c5 (S l)) st ⟨du,(.loc 0,[.func g lc,.func cd ca])::(S lk).b,(S lk).e,1,c5 (S l)⟩:=
 jn.obL (L:=[(.loc 0,[.func g lc,.func cd ca])]) (H.ok _) (H.same _ _ av ae) aI (by simp[bz,aJ,aO,BX (H.klc lk ae),BX (H.ksc lk ae)]) ad he
theorem fh.weakC{l lk:List α}(av:l.length=n)(ae:lk.length=n){t du:List (Nat×aj)}{q:Nat}{o:List aL}(aI:∀x∈du,Pv.get x.1 t=x.2/\aJ (mZ (S lk) 1) x.2):
  jn (c5 (S l)) ⟨t,(.loc 0,[.func g lc,.func cd ca])::(S lk).b,(S lk).e,q,o⟩ ⟨du,(.loc 0,[.func g lc,.func cd ca])::(S lk).b,(S lk).e,1,c5 (S l)⟩:=
 H.weak av ae aI (by simp[Pv.look]) (fun k cs ab=>by
  cases k with
  |loc m=>rw[H.loc m]at ab;cases ab
  |obj m=>simpa[Pv.look]using ab) (fun _ _ ab=>ab)
theorem fh.call{lk:List α}(J:lk.length=n){f:Nat}{args:List aj}{R:aj->List α->Prop}(aN:bG aw f args (S lk) fun r ah=> ∃a6,ah=S a6/\R r a6)(bH:∀r a6,R r a6->a6.length=n)(ae:aO (inObs (S lk)) args){t:List (Nat×aj)}{D:List aj}{o:List aL}{d:Option Nat}{K:bn->Prop}
  (h:∀r a6,R r a6->K ⟨eS d r t,(.loc 0,D)::(S a6).b,(S a6).e,1,o++c5 (S a6)⟩):cQ aw f args ⟨t,(.loc 0,D)::(S lk).b,(S lk).e,1,o⟩ d K:=by
 refine cQ.ob aN (H.ok lk) (fun k cs ab=>?_) (fun _ _ ab=>ab) ae ?_
 ·cases k with
  |loc m=>rw[H.loc m]at ab;cases ab
  |obj m=>simpa[Pv.look]using ab
 ·rintro r ah ⟨a6,rfl,aM⟩;refine⟨H.same _ _ J (bH _ _ aM),?_⟩;have aq:cb (S lk).b ((.loc 0,D)::(S lk).b)=[(.loc 0,D)]:=by have:=jg (S lk).b [(aL.loc 0,D)] (S lk).b;rw[ht]at this;simpa[cb,H.loc]using this
  have aF:cb (S lk).e (S lk).e=[]:=ht _;have:=h _ _ aM;simp only[aq,aF];exact this
theorem fh.doSwap{lk:List α}(J:lk.length=n)(i j:Nat)(hi:i<n)(ag:j<n)(U:2<=n){t:List (Nat×aj)}{D:List aj}{o:List aL}{d:Option Nat}{K:bn->Prop}
  (h:K ⟨eS d (.tuple []) t,(.loc 0,D)::(S (hA lk i j)).b,(S (hA lk i j)).e,1,o++c5 (S (hA lk i j))⟩):cQ aw cd (.int .i64 i:: .int .i64 j::ca) ⟨t,(.loc 0,D)::(S lk).b,(S lk).e,1,o⟩ d K:=
 H.call J (R:=fun r a6=>r= .tuple []/\a6=hA lk i j) ((H.swap lk J U i j hi ag).mono fun r ah ⟨aq,aF⟩=>⟨_,aF,aq,rfl⟩) (fun r a6 ⟨_,e⟩=>by rw[e];simp[J]) (by simp[aJ,aO,H.ksc lk J]) (by rintro r a6 ⟨rfl,rfl⟩;exact h)
theorem fh.doLess{lk:List α}(J:lk.length=n)(i j:Nat){x y:α}(hi:lk[i]? =some x)(ag:lk[j]? =some y){t:List (Nat×aj)}{D:List aj}{o:List aL}{d:Option Nat}{K:bn->Prop}
  (h:K ⟨eS d (.bool (lt x y)) t,(.loc 0,D)::(S lk).b,(S lk).e,1,o++c5 (S lk)⟩):cQ aw g (.int .i64 i:: .int .i64 j::lc) ⟨t,(.loc 0,D)::(S lk).b,(S lk).e,1,o⟩ d K:=
 H.call J (R:=fun r a6=>r= .bool (lt x y)/\a6=lk) ((H.less lk J i j x y hi ag).mono fun r ah ⟨aq,aF⟩=>⟨_,aF,aq,rfl⟩) (fun r a6 ⟨_,e⟩=>by rw[e];exact J) (by simp[aJ,aO,H.klc lk J]) (by rintro r a6 ⟨rfl,rfl⟩;exact h)
theorem fh.doFn{lk:List α}(J:lk.length=n){f:Nat}{args:List aj}{R:List α->Prop}(aN:bG aw f args (S lk) fun r ah=>r= .tuple []/\∃a6,ah=S a6/\R a6)(bH:∀a6,R a6->a6.length=n)(ae:aO (inObs (S lk)) args){t:List (Nat×aj)}{D:List aj}{o:List aL}{d:Option Nat}{K:bn->Prop}
  (h:∀a6,R a6->K ⟨eS d (.tuple []) t,(.loc 0,D)::(S a6).b,(S a6).e,1,o++c5 (S a6)⟩):cQ aw f args ⟨t,(.loc 0,D)::(S lk).b,(S lk).e,1,o⟩ d K:=
 H.call J (R:=fun r a6=>r= .tuple []/\R a6) (aN.mono fun r ah ⟨aq,a6,aF,bB⟩=>⟨a6,aF,aq,bB⟩) (fun r a6 h=>bH a6 h.2) ae (by rintro r a6 ⟨rfl,aM⟩;exact h a6 aM)
theorem fh.kdata{lk:List α}(J:lk.length=n):aJ (inObs (S lk)) (e7 g cd lc ca):=by simp[e7,aJ,aO,H.klc lk J,H.ksc lk J]
theorem fh.ret{l lk:List α}(av:l.length=n)(J:lk.length=n){Q:aj->cT->Prop}{e:Exit}(he:e= .ret\/e= .normal){t:List (Nat×aj)}{D:List aj}{q:Nat}{o:List aL}(bE:Q (.tuple []) (S lk)):cL [] (S l) Q e ⟨t,(.loc 0,D)::(S lk).b,(S lk).e,q,o⟩:=by
 refine cL.at (S lk) he (H.ok lk) (H.same _ _ av J) (fun k cs ab=>?_) (fun _ _ ab=>ab) ?_
 ·cases k with
  |loc m=>rw[H.loc m]at ab;cases ab
  |obj m=>simpa[Pv.look]using ab
 ·simp[cM,aV,aU,aJ,aO,bE]
end
theorem iR(H:fh S n g cd lc ca lt):eb (e7 g cd lc ca)=e7 g cd lc ca:=by simp[e7,eb,dq,H.slc,H.ssc]
theorem iF:aj.agg [.func g lc,.func cd ca]=e7 g cd lc ca:=rfl
theorem ag3(H:fh S n g cd lc ca lt)(l:List α)(av:l.length=n)(a m b:Nat)(DE:a<m)(qR:m<b)(ad:b<=n):
  bG aw 207 [e7 g cd lc ca,.int .i64 a,.int .i64 m,.int .i64 b] (S l) fun r ah=>r= .tuple []/\∃a6,ah=S a6/\gF a b l a6/\∀k,a6[k]? =l[im a m b k]?:=by
 have af:=H.ok l;have au:∀l m,Pv.look (.loc m) (S l).b=none:=fun l=>(H.ok l).obj.1;have hu:∀l m cs,cB (.loc m) cs (S l).b=(S l).b++[(.loc m,cs)]:=fun l m cs=>kK (au l m);have ay:∀m,aL.loc m∉c5 (S l):=kD af.obj;have hle:=H.le;refine bG.mk mixed CB afm amd Ψ af.obj fun aQ cI=>?_;unfold SD;simp[e7,hu,ay,cV,au];(with_reducible repeat' first|refine ak ?_|simp[hu,ay,cV,au]);refine n2 (fun(x:(Nat×Nat)×List α)=>⟨[(2,.int .i64 m),(4,.ptr (.loc 0) 0),(8,.int .i64 x.1.1),(9,.int .i64 x.1.2)],(.loc 0,[.func g lc,.func cd ca])::(S x.2).b,(S x.2).e,1,c5 (S l)⟩) (fun x=>x.1.1+x.1.2)
  (fun x=>x.2.length=n/\0<x.1.1/\0<x.1.2/\a+x.1.1<=m/\m+x.1.2<=b/\gF a b l x.2/\∀k,l[im a m b k]? =x.2[im (m-x.1.1) m (m+x.1.2) k]?) ((m-a,b-m),l)
  (H.weak av av (by simp[aJ];omega) (by simp[cV,au]) aH aH) ⟨av,by simp;omega,by simp;omega,by simp;omega,by simp;omega,.refl _,fun k=>by simp[show m-(m-a)=a by omega,show m+(b-m)=b by omega]⟩ ?_
 rintro⟨⟨i,j⟩,lk⟩ ⟨J,hi,ag,gz,Hr,U,h3⟩ _;simp only at J hi ag gz Hr U h3;simp[Pv.look];((with_reducible repeat' first|refine ak ?_|simp[Pv.look]|((first|apply bJ|apply bM|apply bL)<;>intro h<;>try simp at h))<;>(try exact ck))
 ·have aq:((m:Int)-i)=(m-i:Nat):=Ω
  simp only[iR H,H.slc,H.ssc,aq,iF];refine H.doFn J (L7 H lk J (m-i) m j Ω Ω) (fun a6 h=>by rw[h.1.length];exact J) (by simp[aO,aJ,H.kdata J]) ?_;rintro a6 ⟨a1,bm⟩;have bW:a6.length=n:=by rw[a1.length];exact J
  simp;((with_reducible repeat' first|refine ak ?_|simp|((first|apply bJ|apply bM|apply bL)<;>intro h<;>try simp at h))<;>(try exact ck));refine bR.whl ((i-j,j),a6) d7 ⟨bW,by simp;omega,ag,by simp;omega,Hr,U.trans (a1.mono Ω Ω),fun k=>?_⟩ (H.weakC av bW (by simp[aJ];omega));rw[h3,bm];congr 1;simp only[im,tx];repeat' split
  all_goals omega
 ·have aq:((m:Int)-i)=(m-i:Nat):=Ω
  have aF:((m:Int)+j-i)=(m+j-i:Nat):=Ω
  simp only[iR H,H.slc,H.ssc,aq,aF,iF];refine H.doFn J (L7 H lk J (m-i) (m+j-i) i Ω Ω) (fun a6 h=>by rw[h.1.length];exact J) (by simp[aO,aJ,H.kdata J]) ?_;rintro a6 ⟨a1,bm⟩;have bW:a6.length=n:=by rw[a1.length];exact J
  simp;(with_reducible repeat' first|refine ak ?_|simp);refine bR.whl ((i,j-i),a6) d7 ⟨bW,hi,by simp;omega,gz,by simp;omega,U.trans (a1.mono Ω Ω),fun k=>?_⟩ (H.weakC av bW (by simp[aJ];omega));rw[h3,bm];congr 1;simp only[im,tx];repeat' split
  all_goals omega
 ·have aq:((m:Int)-i)=(m-i:Nat):=Ω
  simp only[iR H,H.slc,H.ssc,aq,iF];refine H.doFn J (L7 H lk J (m-i) m i Ω Ω) (fun a6 h=>by rw[h.1.length];exact J) (by simp[aO,aJ,H.kdata J]) ?_;rintro a6 ⟨a1,bm⟩;have bW:a6.length=n:=by rw[a1.length];exact J
  simp;refine H.ret av bW (.inr rfl) ⟨rfl,a6,rfl,U.trans (a1.mono Ω Ω),fun k=>?_⟩;rw[h3,bm];congr 1;simp only[im,tx];repeat' split
  all_goals omega
end
section
open Go Go.Pv
variable {α:Type} {S:List α->cT} {n g cd:Nat} {lc ca:List aj} {lt:α->α->Bool}
def vg(lt:α->α->Bool)(a b j:Nat)(l:List α):Prop:= ∀p q x y,a<=p->p<q->q<b->q≠j->l[p]? =some x->l[q]? =some y->lt y x=false
theorem vg.swap(bs:rj lt){a b j:Nat}{l:List α}(h:vg lt a b (j+1) l)(Vq:a<=j)(Hr:j+1<b)(ag:j+1<l.length){x y:α}(ab:l[j+1]? =some x)(aC:l[j]? =some y)(gV:lt x y=true):vg lt a b j (hA l (j+1) j):=by
 intro p q u v bF j0 bE asT hu az;rw[BL _ _ _ _ ag Ω]at hu az;rw[if_neg (by omega:¬(q=j))]at az;split at az
 ·rename_i e;subst e;rw[aC]at az;cases az;split at hu
  ·omega
  ·split at hu
   ·rw[ab]at hu;cases hu;exact bs.asym _ _ gV
   ·exact h p j u y bF Ω Ω Ω hu aC
 ·split at hu
  ·rename_i e;subst e;rw[aC]at hu;cases hu;exact h j q y v Vq Ω bE Ω aC az
  ·split at hu
   ·rename_i e;subst e;rw[ab]at hu;cases hu;exact h (p+1) q x v Ω Ω bE Ω ab az
   ·exact h p q u v bF j0 bE Ω hu az
theorem vg.done(bs:rj lt){a b j:Nat}{l:List α}(h:vg lt a b (j+1) l)(Vq:a<=j)(Hr:j+1<b){x y:α}(ab:l[j+1]? =some x)(aC:l[j]? =some y)(gV:lt x y=false):fs lt a b l:=by
 intro p q u v bF j0 bE hu az;by_cases e:q=j+1
 ·subst e;rw[ab]at az;cases az;by_cases aF:p=j
  ·subst aF;rw[aC]at hu;cases hu;exact gV
  ·exact bs.ntr _ _ _ (h p j u y bF Ω Ω Ω hu aC) gV
 ·exact h p q u v bF j0 bE e hu az
theorem vg.first{a b:Nat}{l:List α}(h:vg lt a b a l):fs lt a b l:=fun p q u v bF j0 bE hu az=>h p q u v bF j0 bE Ω hu az
theorem fs.but{a b:Nat}{l:List α}(h:fs lt a b l):vg lt a (b+1) b l:=fun p q u v bF j0 bE MM hu az=>h p q u v bF j0 Ω hu az
theorem UX(H:fh S n g cd lc ca lt)(bs:rj lt)(l:List α)(av:l.length=n)(a b:Nat)(oa:a<=b)(ad:b<=n):
  bG aw 187 [e7 g cd lc ca,.int .i64 a,.int .i64 b] (S l) fun r ah=>r= .tuple []/\∃a6,ah=S a6/\gF a b l a6/\fs lt a b a6:=by
 have af:=H.ok l;have au:∀l m,Pv.look (.loc m) (S l).b=none:=fun l=>(H.ok l).obj.1;have hu:∀l m cs,cB (.loc m) cs (S l).b=(S l).b++[(.loc m,cs)]:=fun l m cs=>kK (au l m);have ay:∀m,aL.loc m∉c5 (S l):=kD af.obj;have hle:=H.le;refine bG.mk mixed CB Us Yn Ψ af.obj fun aQ cI=>?_;unfold KZ;simp[e7,hu,ay,cV,au];(with_reducible repeat' first|refine ak ?_|simp[hu,ay,cV,au]);refine n2 (fun(x:Nat×List α)=>⟨[(1,.int .i64 a),(2,.int .i64 b),(3,.ptr (.loc 0) 0),(6,.int .i64 x.1)],(.loc 0,[.func g lc,.func cd ca])::(S x.2).b,(S x.2).e,1,c5 (S l)⟩) (fun x=>b+1-x.1)
  (fun x=>x.2.length=n/\a<x.1/\x.1<=b+1/\(x.1<=b\/x.1=a+1)/\gF a b l x.2/\fs lt a x.1 x.2) (a+1,l)
  (H.weak av av d6 (by simp[cV,au]) aH aH) ⟨av,Ψ,by simp;omega,.inr rfl,.refl _,fun i j x y J U h3=>by simp at h3;omega⟩ ?_
 rintro⟨i,lk⟩ ⟨J,oc,Ba,uo,U,h3⟩ _;simp only at J oc Ba uo U h3;simp;((with_reducible repeat' first|refine ak ?_|simp|((first|apply bJ|apply bM|apply bL)<;>intro h<;>try simp at h))<;>(try exact ck))
 ·refine n2 (fun(x:Nat×List α)=>⟨[(1,.int .i64 a),(2,.int .i64 b),(3,.ptr (.loc 0) 0),(6,.int .i64 i),(7,.int .i64 x.1)],(.loc 0,[.func g lc,.func cd ca])::(S x.2).b,(S x.2).e,1,c5 (S l)⟩) (fun x=>x.1)
   (fun x=>x.2.length=n/\a<=x.1/\x.1<=i/\gF a b l x.2/\vg lt a (i+1) x.1 x.2) (i,lk)
   (H.weakC av J d6) ⟨J,by simp;omega,Ψ,U,fs.but h3⟩ ?_
  rintro⟨j,Ex⟩ ⟨aS,ajW,aka,bf,b4⟩ _;simp only at aS ajW aka bf b4;simp[Pv.look];((with_reducible repeat' first|refine ak ?_|simp[Pv.look]|((first|apply bJ|apply bM|apply bL)<;>intro h<;>try simp at h))<;>(try exact ck))
  ·obtain⟨dJ,rfl⟩:∃dJ,j=dJ+1:=⟨j-1,Ω⟩;obtain⟨x,ab⟩:∃x,Ex[dJ+1]? =some x:=⟨_,cg Ω⟩;obtain⟨y,aC⟩:∃y,Ex[dJ]? =some y:=⟨_,cg Ω⟩;have aq:(((dJ+1:Nat):Int)-1)=(dJ:Nat):=Ω
   rw[H.slc,aq];refine H.doLess aS (dJ+1) dJ ab aC ?_;simp;cases gV:lt x y with
   |true=>
    simp[Pv.look];(with_reducible repeat' first|refine ak ?_|simp[Pv.look]);have bB:((dJ:Int)+1)=(dJ+1:Nat):=Ω
    rw[H.ssc,bB];refine H.doSwap aS (dJ+1) dJ Ω Ω Ω ?_;simp;(with_reducible repeat' first|refine ak ?_|simp);refine bR.whl (dJ,hA Ex (dJ+1) dJ) Ψ ⟨by simp[aS],by simp;omega,by simp;omega,.step bf Ω Ω Ω Ω Ω Ω,b4.swap bs Ω Ω Ω ab aC gV⟩ (H.weakC av (by simp[aS]) d6)
   |false=>simp;((with_reducible repeat' first|refine ak ?_|simp|((first|apply bJ|apply bM|apply bL)<;>intro h<;>try simp at h))<;>(try exact ck));refine bR.whl (i+1,Ex) d7 ⟨aS,by simp;omega,by simp;omega,by simp;omega,bf,b4.done bs Ω Ω ab aC gV⟩ (H.weakC av aS d6)
  ·obtain rfl:j=a:=Ω
   refine bR.whl (i+1,Ex) d7 ⟨aS,by simp;omega,by simp;omega,by simp;omega,bf,b4.first⟩ (H.weakC av aS d6)
 ·refine H.ret av J (.inr rfl) ⟨rfl,lk,rfl,U,fun p q x y bF j0 bE=>h3 p q x y bF j0 Ω⟩
end
section
open Go Go.Pv
variable {α:Type} [Inhabited α] {S:List α->cT} {n g cd:Nat} {lc ca:List aj} {lt:α->α->Bool}
theorem Av{d:Array α}{i:Nat}(h:i<d.size):d.toList[i]? =some d[i]!:=by simp[getElem!_pos,h]
theorem Ij(d:Array α){i j:Nat}(hi:i<d.size)(ag:j<d.size):hA d.toList i j=(Sort.swp d i j).toList:=by simp[hA,Sort.swp,Av hi,Av ag]
section
variable (H:fh S n g cd lc ca lt)
include H
theorem fh.swapA{d:Array α}(J:d.size=n)(U:2<=n)(i j:Nat)(hi:i<n)(ag:j<n){t:List (Nat×aj)}{D:List aj}{o:List aL}{cm:Option Nat}{K:bn->Prop}
  (h:∀o,K ⟨eS cm (.tuple []) t,(.loc 0,D)::(S (Sort.swp d i j).toList).b,(S (Sort.swp d i j).toList).e,1,o⟩):cQ aw cd (.int .i64 i:: .int .i64 j::ca) ⟨t,(.loc 0,D)::(S d.toList).b,(S d.toList).e,1,o⟩ cm K:=by
 refine H.doSwap (by simpa using J) i j hi ag U ?_;rw[Ij d Ω Ω];exact h _
theorem fh.lessA{d:Array α}(J:d.size=n)(i j:Nat)(hi:i<n)(ag:j<n){t:List (Nat×aj)}{D:List aj}{o:List aL}{cm:Option Nat}{K:bn->Prop}
  (h:∀o,K ⟨eS cm (.bool (lt d[i]! d[j]!)) t,(.loc 0,D)::(S d.toList).b,(S d.toList).e,1,o⟩):cQ aw g (.int .i64 i:: .int .i64 j::lc) ⟨t,(.loc 0,D)::(S d.toList).b,(S d.toList).e,1,o⟩ cm K:=
 H.doLess (by simpa using J) i j (Av Ω) (Av Ω) (h _)
theorem fh.fnA{d d2:Array α}(J:d.size=n)(U:d2.size=n){f:Nat}{args:List aj}{r:aj}(aN:bG aw f args (S d.toList) fun eQ ah=>eQ=r/\ah=S d2.toList)(ae:aO (inObs (S d.toList)) args){t:List (Nat×aj)}{D:List aj}{o:List aL}{cm:Option Nat}{K:bn->Prop}
  (h:∀o,K ⟨eS cm r t,(.loc 0,D)::(S d2.toList).b,(S d2.toList).e,1,o⟩):cQ aw f args ⟨t,(.loc 0,D)::(S d.toList).b,(S d.toList).e,1,o⟩ cm K:=
 H.call (by simpa using J) (R:=fun eQ a6=>eQ=r/\a6=d2.toList) (aN.mono fun r ah ⟨aq,aF⟩=>⟨_,aF,aq,rfl⟩) (fun r a6 ⟨_,e⟩=>by rw[e];simpa using U) ae (by rintro eQ a6 ⟨rfl,rfl⟩;exact h _)
end
section
variable (H:fh S n g cd lc ca lt)
include H
theorem fh.loopA{β:Type}{zl:List α}(av:zl.length=n){t:List (Nat×aj)}{b:List (aL×List aj)}{e:List (aL×fP)}{q:Nat}{o:List aL}(ch:List Nat)(cs:β->List (Nat×aj))(A:β->Array α)(μ:β->Nat)(hn:β->Prop)(a0:β)(be:(A a0).size=n)(bz:hn a0)
  (sG:Pv.look (.loc 0) b=some [.func g lc,.func cd ca]) (ad:∀k cs,Pv.look k (S (A a0).toList).b=some cs->Pv.look k b=some cs) (he:∀k o,Pv.look k (S (A a0).toList).e=some o->Pv.look k e=some o)
  (aI:∀x∈vU t ch++cs a0,Pv.get x.1 t=x.2/\aJ (mZ (S (A a0).toList) 1) x.2) {c:C} {Q:Exit->bn->Prop}
  (af:∀a,hn a->c4 aw (c5 (S zl)) c (bR (c5 (S zl)) (CO (fun a=>⟨vU t ch++cs a,(.loc 0,[.func g lc,.func cd ca])::(S (A a).toList).b,(S (A a).toList).e,1,c5 (S zl)⟩) μ hn) (μ a) Q) ⟨vU t ch++cs a,(.loc 0,[.func g lc,.func cd ca])::(S (A a).toList).b,(S (A a).toList).e,1,c5 (S zl)⟩):
  c4 aw (c5 (S zl)) (.loop c) Q ⟨t,b,e,q,o⟩:=
 n2 (fun a=>⟨vU t ch++cs a,(.loc 0,[.func g lc,.func cd ca])::(S (A a).toList).b,(S (A a).toList).e,1,c5 (S zl)⟩) μ hn a0 (H.weak av (by simpa using be) aI sG ad he) bz fun a ag _=>af a ag
theorem fh.callA0{lk:List α}(J:lk.length=n){f:Nat}{args:List aj}{R:aj->List α->Prop}(aN:bG aw f args (S lk) fun r ah=> ∃a6,ah=S a6/\R r a6)(bH:∀r a6,R r a6->a6.length=n)(ae:aO (inObs (S lk)) args){t:List (Nat×aj)}{D:List aj}{o:List aL}{d:Option Nat}{K:bn->Prop}
  (h:∀r a6,R r a6->∀o,K ⟨eS d r t,(.loc 0,D)::(S a6).b,(S a6).e,1,o⟩):cQ aw f args ⟨t,(S lk).b++[(.loc 0,D)],(S lk).e,1,o⟩ d K:=by
 refine cQ.ob aN (H.ok lk) (fun k cs ab=>by rw[cV,ab]) (fun _ _ ab=>ab) ae ?_;rintro r ah ⟨a6,rfl,aM⟩;refine⟨H.same _ _ J (bH _ _ aM),?_⟩;have aq:cb (S lk).b ((S lk).b++[(.loc 0,D)])=[(.loc 0,D)]:=by rw[jg,ht];simp[cb,H.loc]
 have aF:cb (S lk).e (S lk).e=[]:=ht _;have:=h _ _ aM (o++c5 (S a6));simp only[aq,aF];exact this
theorem fh.swapA0{d:Array α}(J:d.size=n)(U:2<=n)(i j:Nat)(hi:i<n)(ag:j<n){t:List (Nat×aj)}{D:List aj}{o:List aL}{cm:Option Nat}{K:bn->Prop}
  (h:∀o,K ⟨eS cm (.tuple []) t,(.loc 0,D)::(S (Sort.swp d i j).toList).b,(S (Sort.swp d i j).toList).e,1,o⟩):cQ aw cd (.int .i64 i:: .int .i64 j::ca) ⟨t,(S d.toList).b++[(.loc 0,D)],(S d.toList).e,1,o⟩ cm K:=by
 refine H.callA0 (by simpa using J) (R:=fun r a6=>r= .tuple []/\a6=(Sort.swp d i j).toList) ((H.swap d.toList (by simpa using J) U i j hi ag).mono fun r ah ⟨aq,aF⟩=>⟨_,aF,aq,Ij d Ω Ω⟩) (fun r a6 ⟨_,e⟩=>by rw[e];simp[Sort.swp,J]) (by simp[aJ,aO,H.ksc d.toList (by simpa using J)]) ?_;rintro r a6 ⟨rfl,rfl⟩ o;exact h o
theorem fh.retA{l:List α}{d:Array α}(av:l.length=n)(J:d.size=n){Q:aj->cT->Prop}{e:Exit}(he:e= .ret\/e= .normal){t:List (Nat×aj)}{D:List aj}{q:Nat}{o:List aL}(bE:Q (.tuple []) (S d.toList)):cL [] (S l) Q e ⟨t,(.loc 0,D)::(S d.toList).b,(S d.toList).e,q,o⟩:=H.ret av (by simpa using J) he bE
theorem fh.retR{eT:List bV}{l:List α}{d:Array α}(av:l.length=n)(J:d.size=n){Q:aj->cT->Prop}{e:Exit}(he:e= .ret\/e= .normal){t:List (Nat×aj)}{D:List aj}{q:Nat}{o:List aL}(h:cM ⟨t,(.loc 0,D)::(S d.toList).b,(S d.toList).e,q,o⟩ eT fun r=>aJ (inObs (S d.toList)) r/\Q r (S d.toList)):cL eT (S l) Q e ⟨t,(.loc 0,D)::(S d.toList).b,(S d.toList).e,q,o⟩:=by
 refine cL.at (S d.toList) he (H.ok _) (H.same _ _ av (by simpa using J)) (fun k cs ab=>?_) (fun _ _ ab=>ab) h;cases k with
 |loc m=>rw[H.loc m]at ab;cases ab
 |obj m=>simpa[Pv.look]using ab
end
theorem hk(d:Array α)(i j:Nat):(Sort.swp d i j).size=d.size:=by simp[Sort.swp]
end
section
open Go Go.Pv
def Sn:C:=(aa [cf 2 0] (.seq (.cond (.c (.bool false)) (aa [I 3 0,bS 4 (.conv .u32 (.t 3)),cH 5 194 4,I 2 5] .ret) .skip) (aa [I 6 0,cH 7 195 6,I 2 7] .ret)))
@[simp] def anS:List bV:=[.tmp 2]
def K0:C:=(aa [aX 91 2 4,I 92 1,I 93 2,I 94 11,c0 95 202 [.t 91,.t 92,.t 93,.t 94],I 90 95,cp 96 0 90,cp 97 1 90,I 14 96,I 15 97] (aa [I 98 15,I 9 98] (aa [I 99 14,I 100 1,bt 101 .sub 99 100,I 102 2,I 103 14,bt 104 .sub 102 103,I 16 101,I 17 104] (aa [I 105 10,aT 106 .quo 105 8,I 18 106] (aa [I 107 16,I 108 17,bt 109 .lss 107 108] (aZ 109 (aa [I 110 16,I 111 18,bt 112 .geq 110 111,I 8 112] (aa [aX 113 2 4,I 114 1,I 115 14,I 116 3,c0 117 170 [.t 113,.t 114,.t 115,.t 116]] (.region [I 118 14,aT 119 .add 118 1,I 1 119]))) (aa [I 120 17,I 121 18,bt 122 .geq 120 121,I 8 122] (aa [aX 123 2 4,I 124 14,aT 125 .add 124 1,I 126 2,I 127 3,c0 128 170 [.t 123,.t 125,.t 126,.t 127]] (.region [I 129 14,I 2 129])))))))))
def C6:C:=(.seq (aa [I 73 1,aT 74 .gtr 73 0,I 75 74,ar 75 true (aK 76 0 1 4),ar 75 true (ax 77 1 76),bT 75 true 78 1,ar 75 true (aT 79 .sub 78 1),bT 75 true 80 11,ar 75 true (gu 81 77 [.t 79,.t 80]),ar 75 true (cx 82 81),dh 83 75 82] (aZ 83 (aa [aX 84 2 4,I 85 1,I 86 2,I 87 11,c0 88 201 [.t 84,.t 85,.t 86,.t 87],I 13 88] (aa [I 89 13,I 1 89] (.exit 1))) .skip)) K0)
def K1:C:=(.seq (aa [I 61 8,I 62 61,bT 62 true 63 9,dh 64 62 63,I 65 64,bT 65 true 66 12,ar 65 true (aT 67 .eql 66 1),dh 68 65 67] (aZ 68 (aa [aX 69 2 4,I 70 1,I 71 2,c0 72 200 [.t 69,.t 70,.t 71]] (aZ 72 .ret .skip)) .skip)) C6)
def K2:C:=(aa [aX 43 2 4,I 44 1,I 45 2,c0 46 198 [.t 43,.t 44,.t 45],I 42 46,cp 47 0 42,cp 48 1 42,I 11 47,I 12 48] (.seq (aa [I 49 12,aT 50 .eql 49 2] (aZ 50 (aa [aX 51 2 4,I 52 1,I 53 2,c0 54 199 [.t 51,.t 52,.t 53]] (aa [I 55 2,aT 56 .sub 55 1,I 57 11,I 58 1,bt 59 .sub 57 58,bt 60 .sub 56 59,I 11 60] (.region [cf 12 1]))) .skip)) K1))
def SB:C:=(aa [cW 4 0] (aa [bq 8 true] (aa [bq 9 true] (.block 0 (.loop (.block 1 (aa [I 19 2,I 20 1,bt 21 .sub 19 20,I 10 21] (.seq (aa [I 22 10,aT 23 .leq 22 12] (aZ 23 (aa [aX 24 2 4,I 25 1,I 26 2,c0 27 187 [.t 24,.t 25,.t 26]] .ret) .skip)) (.seq (aa [I 28 3,aT 29 .eql 28 0] (aZ 29 (aa [aX 30 2 4,I 31 1,I 32 2,c0 33 196 [.t 30,.t 31,.t 32]] .ret) .skip)) (.seq (aa [I 34 8,cx 35 34] (aZ 35 (aa [aX 36 2 4,I 37 1,I 38 2,c0 39 197 [.t 36,.t 37,.t 38]] (.region [I 40 3,aT 41 .sub 40 1,I 3 41])) .skip)) K2))))))))))
@[simp] def Zj:List bV:=[]
def Sp:C:=(aa [cf 2 0] (.seq (aa [I 3 0,bS 4 (.bin .geq false (.t 3) (.c (.int .u64 4294967296)))] (aZ 4 (aa [I 5 0,bS 6 (.bin .shr false (.t 5) (.c (.int .u64 32))),I 0 6] (.region [cf 2 32])) .skip)) (.seq (aa [I 7 0,bS 8 (.bin .geq false (.t 7) (.c (.int .u64 65536)))] (aZ 8 (aa [I 9 0,bS 10 (.bin .shr false (.t 9) (.c (.int .u64 16))),I 0 10] (.region [I 11 2,aT 12 .add 11 16,I 2 12])) .skip)) (.seq (aa [I 13 0,bS 14 (.bin .geq false (.t 13) (.c (.int .u64 256)))] (aZ 14 (aa [I 15 0,bS 16 (.bin .shr false (.t 15) (.c (.int .u64 8))),I 0 16] (.region [I 17 2,aT 18 .add 17 8,I 2 18])) .skip)) (aa [I 19 2,I 20 0,bS 21 (.conv .u8 (.t 20)),bS 22 (.sidx (.c (.str [0,1,2,2,3,3,3,3,4,4,4,4,4,4,4,4,5,5,5,5,5,5,5,5,5,5,5,5,5,5,5,5,6,6,6,6,6,6,6,6,6,6,6,6,6,6,6,6,6,6,6,6,6,6,6,6,6,6,6,6,6,6,6,6,7,7,7,7,7,7,7,7,7,7,7,7,7,7,7,7,7,7,7,7,7,7,7,7,7,7,7,7,7,7,7,7,7,7,7,7,7,7,7,7,7,7,7,7,7,7,7,7,7,7,7,7,7,7,7,7,7,7,7,7,7,7,7,7,8,8,8,8,8,8,8,8,8,8,8,8,8,8,8,8,8,8,8,8,8,8,8,8,8,8,8,8,8,8,8,8,8,8,8,8,8,8,8,8,8,8,8,8,8,8,8,8,8,8,8,8,8,8,8,8,8,8,8,8,8,8,8,8,8,8,8,8,8,8,8,8,8,8,8,8,8,8,8,8,8,8,8,8,8,8,8,8,8,8,8,8,8,8,8,8,8,8,8,8,8,8,8,8,8,8,8,8,8,8,8,8,8,8,8,8,8,8,8,8,8,8,8,8,8,8,8,8])) (.t 21)),bS 23 (.conv .i64 (.t 22)),bt 24 .add 19 23,I 2 24] .ret)))))
@[simp] def Cf:List bV:=[.tmp 2]
def St:C:=(aa [cW 3 0] (aa [I 11 1,I 6 11] (aa [cf 7 0] (aa [I 12 2,I 13 1,bt 14 .sub 12 13,I 8 14] (.seq (aa [I 15 8,aT 16 .sub 15 1,aT 17 .quo 16 2,I 9 17] (.block 0 (.loop (.seq (aa [I 18 9,aT 19 .geq 18 0] (aZ 19 .skip (.exit 0))) (.seq (.block 1 (.region [aX 22 2 3,I 23 9,I 24 8,I 25 6,c0 26 209 [.t 22,.t 23,.t 24,.t 25]])) (.region [I 20 9,aT 21 .sub 20 1,I 9 21])))))) (aa [I 27 8,aT 28 .sub 27 1,I 10 28] (.block 2 (.loop (.seq (aa [I 29 10,aT 30 .geq 29 0] (aZ 30 .skip (.exit 2))) (.seq (.block 3 (aa [aK 33 1 1 3,ax 34 1 33,I 35 6,I 36 6,I 37 10,bt 38 .add 36 37,gu 39 34 [.t 35,.t 38]] (.region [aX 40 2 3,I 41 7,I 42 10,I 43 6,c0 44 209 [.t 40,.t 41,.t 42,.t 43]]))) (.region [I 31 10,aT 32 .sub 31 1,I 10 32])))))))))))
@[simp] def anT:List bV:=[]
def Sr:C:=(aa [cW 3 0] (aa [I 11 2,I 12 1,bt 13 .sub 11 12,I 6 13] (aa [I 14 6,aT 15 .geq 14 8] (aZ 15 (aa [I 16 6,bS 17 (.conv .u64 (.t 16)),cS (.alloc 7 (some 902) (.int .u64 0)),bD 1 7 17] (aa [I 18 6,cH 19 210 18,I 8 19] (aa [I 20 1,I 21 6,aT 22 .quo 21 4,aT 23 .mul 22 2,bt 24 .add 20 23,aT 25 .sub 24 1,I 9 25] (.block 0 (.loop (.seq (aa [I 26 9,I 27 1,I 28 6,aT 29 .quo 28 4,aT 30 .mul 29 2,bt 31 .add 27 30,aT 32 .add 31 1,bt 33 .leq 26 32] (aZ 33 .skip (.exit 0))) (.seq (.block 1 (aa [cH 36 211 7,I 37 8,bS 38 (.bin .sub true (.t 37) (.c (.int .u64 1))),bt 39 .and 36 38,bS 40 (.conv .i64 (.t 39)),I 10 40] (.seq (aa [I 41 10,I 42 6,bt 43 .geq 41 42] (aZ 43 (.region [I 44 10,I 45 6,bt 46 .sub 44 45,I 10 46]) .skip)) (.region [aK 47 1 1 3,ax 48 1 47,I 49 9,I 50 1,I 51 10,bt 52 .add 50 51,gu 53 48 [.t 49,.t 52]])))) (.region [I 34 9,aT 35 .add 34 1,I 9 35])))))))) .skip))))
@[simp] def Zf:List bV:=[]
def Ss:C:=(aa [cW 3 0,cf 6 0,cf 7 0] (aa [I 13 2,I 14 1,bt 15 .sub 13 14,I 8 15] (aa [cS (.alloc 9 (some 901) (.int .i64 0))] (aa [I 16 1,I 17 8,aT 18 .quo 17 4,aT 19 .mul 18 1,bt 20 .add 16 19,I 10 20] (aa [I 21 1,I 22 8,aT 23 .quo 22 4,aT 24 .mul 23 2,bt 25 .add 21 24,I 11 25] (aa [I 26 1,I 27 8,aT 28 .quo 27 4,aT 29 .mul 28 3,bt 30 .add 26 29,I 12 30] (.seq (aa [I 31 8,aT 32 .geq 31 8] (aZ 32 (.seq (aa [I 33 8,aT 34 .geq 33 50] (aZ 34 (aa [aX 35 2 3,I 36 10,c0 37 212 [.t 35,.t 36,.t 9],I 10 37] (aa [aX 38 2 3,I 39 11,c0 40 212 [.t 38,.t 39,.t 9],I 11 40] (.region [aX 41 2 3,I 42 12,c0 43 212 [.t 41,.t 42,.t 9],I 12 43]))) .skip)) (.region [aX 44 2 3,I 45 10,I 46 11,I 47 12,c0 48 213 [.t 44,.t 45,.t 46,.t 47,.t 9],I 11 48])) .skip)) (aa [ax 49 1 9] (.block 0 (aa [aT 52 .eql 49 0,I 51 52] (aZ 51 (aa [I 53 11,I 6 53,cf 7 1] .ret) (aa [aT 55 .eql 49 12,I 54 55] (aZ 54 (aa [I 56 11,I 6 56,cf 7 2] .ret) (aa [I 50 11,I 6 50,cf 7 0] .ret))))))))))))))
@[simp] def OS:List bV:=[.tmp 6,.tmp 7]
def SC:C:=(aa [cW 3 0] (aa [I 8 1,I 6 8] (aa [I 9 2,aT 10 .sub 9 1,I 7 10] (.block 0 (.loop (.seq (aa [I 11 6,I 12 7,bt 13 .lss 11 12] (aZ 13 .skip (.exit 0))) (.block 1 (aa [aK 14 1 1 3,ax 15 1 14,I 16 6,I 17 7,gu 18 15 [.t 16,.t 17]] (aa [I 19 6,aT 20 .add 19 1,I 6 20] (.region [I 21 7,aT 22 .sub 21 1,I 7 22]))))))))))
@[simp] def anV:List bV:=[]
def Sy:C:=(aa [cW 3 0,bq 6 false] (aa [I 11 1,aT 12 .add 11 1,I 7 12] (.seq (aa [cf 8 0] (.block 0 (.loop (.seq (aa [I 13 8,aT 14 .lss 13 5] (aZ 14 .skip (.exit 0))) (.seq (.block 1 (.seq (.block 2 (.loop (.seq (aa [I 17 7,I 18 2,bt 19 .lss 17 18,I 20 19,ar 20 true (aK 21 0 1 3),ar 20 true (ax 22 1 21),bT 20 true 23 7,bT 20 true 24 7,ar 20 true (aT 25 .sub 24 1),ar 20 true (gu 26 22 [.t 23,.t 25]),ar 20 true (cx 27 26),dh 28 20 27] (aZ 28 .skip (.exit 2))) (.block 3 (.region [I 29 7,aT 30 .add 29 1,I 7 30]))))) (.seq (aa [I 31 7,I 32 2,bt 33 .eql 31 32] (aZ 33 (aa [bq 6 true] .ret) .skip)) (.seq (aa [I 34 2,I 35 1,bt 36 .sub 34 35,aT 37 .lss 36 50] (aZ 37 (aa [bq 6 false] .ret) .skip)) (aa [aK 38 1 1 3,ax 39 1 38,I 40 7,I 41 7,aT 42 .sub 41 1,gu 43 39 [.t 40,.t 42]] (.seq (aa [I 44 7,I 45 1,bt 46 .sub 44 45,aT 47 .geq 46 2] (aZ 47 (aa [I 48 7,aT 49 .sub 48 1,I 9 49] (.block 4 (.loop (.seq (aa [I 50 9,aT 51 .geq 50 1] (aZ 51 .skip (.exit 4))) (.seq (.block 5 (.seq (aa [aK 54 0 1 3,ax 55 1 54,I 56 9,I 57 9,aT 58 .sub 57 1,gu 59 55 [.t 56,.t 58],cx 60 59] (aZ 60 (.exit 4) .skip)) (.region [aK 61 1 1 3,ax 62 1 61,I 63 9,I 64 9,aT 65 .sub 64 1,gu 66 62 [.t 63,.t 65]]))) (.region [I 52 9,aT 53 .sub 52 1,I 9 53])))))) .skip)) (aa [I 67 2,I 68 7,bt 69 .sub 67 68,aT 70 .geq 69 2] (aZ 70 (aa [I 71 7,aT 72 .add 71 1,I 10 72] (.block 6 (.loop (.seq (aa [I 73 10,I 74 2,bt 75 .lss 73 74] (aZ 75 .skip (.exit 6))) (.seq (.block 7 (.seq (aa [aK 78 0 1 3,ax 79 1 78,I 80 10,I 81 10,aT 82 .sub 81 1,gu 83 79 [.t 80,.t 82],cx 84 83] (aZ 84 (.exit 6) .skip)) (.region [aK 85 1 1 3,ax 86 1 85,I 87 10,I 88 10,aT 89 .sub 88 1,gu 90 86 [.t 87,.t 89]]))) (.region [I 76 10,aT 77 .add 76 1,I 10 77])))))) .skip)))))))) (.region [I 15 8,aT 16 .add 15 1,I 8 16])))))) (aa [bq 6 false] .ret))))
@[simp] def I3:List bV:=[.tmp 6]
def Sz:C:=(aa [cW 4 0,cf 8 0] (aa [aK 11 1 1 4,ax 12 1 11,I 13 1,I 14 3,gu 15 12 [.t 13,.t 14]] (aa [I 16 1,aT 17 .add 16 1,I 18 2,aT 19 .sub 18 1,I 9 17,I 10 19] (.seq (.block 0 (.loop (.block 1 (.seq (.block 2 (.loop (.seq (aa [I 20 9,I 21 10,bt 22 .leq 20 21,I 23 22,ar 23 true (aK 24 0 1 4),ar 23 true (ax 25 1 24),bT 23 true 26 1,bT 23 true 27 9,ar 23 true (gu 28 25 [.t 26,.t 27]),ar 23 true (cx 29 28),dh 30 23 29] (aZ 30 .skip (.exit 2))) (.block 3 (.region [I 31 9,aT 32 .add 31 1,I 9 32]))))) (.seq (.block 4 (.loop (.seq (aa [I 33 9,I 34 10,bt 35 .leq 33 34,I 36 35,ar 36 true (aK 37 0 1 4),ar 36 true (ax 38 1 37),bT 36 true 39 1,bT 36 true 40 10,ar 36 true (gu 41 38 [.t 39,.t 40]),dh 42 36 41] (aZ 42 .skip (.exit 4))) (.block 5 (.region [I 43 10,aT 44 .sub 43 1,I 10 44]))))) (.seq (aa [I 45 9,I 46 10,bt 47 .gtr 45 46] (aZ 47 (.exit 0) .skip)) (aa [aK 48 1 1 4,ax 49 1 48,I 50 9,I 51 10,gu 52 49 [.t 50,.t 51]] (aa [I 53 9,aT 54 .add 53 1,I 9 54] (.region [I 55 10,aT 56 .sub 55 1,I 10 56]))))))))) (aa [I 57 9,I 8 57] .ret)))))
@[simp] def OU:List bV:=[.tmp 8]
def SA:C:=(aa [cW 4 0,cf 8 0,bq 9 false] (aa [aK 12 1 1 4,ax 13 1 12,I 14 1,I 15 3,gu 16 13 [.t 14,.t 15]] (aa [I 17 1,aT 18 .add 17 1,I 19 2,aT 20 .sub 19 1,I 10 18,I 11 20] (.seq (.block 0 (.loop (.seq (aa [I 21 10,I 22 11,bt 23 .leq 21 22,I 24 23,ar 24 true (aK 25 0 1 4),ar 24 true (ax 26 1 25),bT 24 true 27 10,bT 24 true 28 1,ar 24 true (gu 29 26 [.t 27,.t 28]),dh 30 24 29] (aZ 30 .skip (.exit 0))) (.block 1 (.region [I 31 10,aT 32 .add 31 1,I 10 32]))))) (.seq (.block 2 (.loop (.seq (aa [I 33 10,I 34 11,bt 35 .leq 33 34,I 36 35,ar 36 true (aK 37 0 1 4),ar 36 true (ax 38 1 37),bT 36 true 39 11,bT 36 true 40 1,ar 36 true (gu 41 38 [.t 39,.t 40]),ar 36 true (cx 42 41),dh 43 36 42] (aZ 43 .skip (.exit 2))) (.block 3 (.region [I 44 11,aT 45 .sub 44 1,I 11 45]))))) (.seq (aa [I 46 10,I 47 11,bt 48 .gtr 46 47] (aZ 48 (aa [aK 49 1 1 4,ax 50 1 49,I 51 11,I 52 1,gu 53 50 [.t 51,.t 52]] (aa [I 54 11,I 8 54,bq 9 true] .ret)) .skip)) (aa [aK 55 1 1 4,ax 56 1 55,I 57 10,I 58 11,gu 59 56 [.t 57,.t 58]] (aa [I 60 10,aT 61 .add 60 1,I 10 61] (aa [I 62 11,aT 63 .sub 62 1,I 11 63] (.seq (.block 4 (.loop (.block 5 (.seq (.block 6 (.loop (.seq (aa [I 64 10,I 65 11,bt 66 .leq 64 65,I 67 66,ar 67 true (aK 68 0 1 4),ar 67 true (ax 69 1 68),bT 67 true 70 10,bT 67 true 71 1,ar 67 true (gu 72 69 [.t 70,.t 71]),dh 73 67 72] (aZ 73 .skip (.exit 6))) (.block 7 (.region [I 74 10,aT 75 .add 74 1,I 10 75]))))) (.seq (.block 8 (.loop (.seq (aa [I 76 10,I 77 11,bt 78 .leq 76 77,I 79 78,ar 79 true (aK 80 0 1 4),ar 79 true (ax 81 1 80),bT 79 true 82 11,bT 79 true 83 1,ar 79 true (gu 84 81 [.t 82,.t 83]),ar 79 true (cx 85 84),dh 86 79 85] (aZ 86 .skip (.exit 8))) (.block 9 (.region [I 87 11,aT 88 .sub 87 1,I 11 88]))))) (.seq (aa [I 89 10,I 90 11,bt 91 .gtr 89 90] (aZ 91 (.exit 4) .skip)) (aa [aK 92 1 1 4,ax 93 1 92,I 94 10,I 95 11,gu 96 93 [.t 94,.t 95]] (aa [I 97 10,aT 98 .add 97 1,I 10 98] (.region [I 99 11,aT 100 .sub 99 1,I 11 100]))))))))) (aa [aK 101 1 1 4,ax 102 1 101,I 103 11,I 104 1,gu 105 102 [.t 103,.t 104]] (aa [I 106 11,I 8 106,bq 9 false] .ret))))))))))))
@[simp] def E7:List bV:=[.tmp 8,.tmp 9]
def SE:C:=(aa [cW 4 0] (aa [I 10 1,I 8 10] (.block 0 (.loop (.block 1 (aa [I 11 8,bS 12 (.bin .mul false (ef 2) (.t 11)),aT 13 .add 12 1,I 9 13] (.seq (aa [I 14 9,I 15 2,bt 16 .geq 14 15] (aZ 16 (.exit 0) .skip)) (.seq (aa [I 17 9,aT 18 .add 17 1,I 19 2,bt 20 .lss 18 19,I 21 20,ar 21 true (aK 22 0 1 4),ar 21 true (ax 23 1 22),bT 21 true 24 3,bT 21 true 25 9,ar 21 true (bt 26 .add 24 25),bT 21 true 27 3,bT 21 true 28 9,ar 21 true (bt 29 .add 27 28),ar 21 true (aT 30 .add 29 1),ar 21 true (gu 31 23 [.t 26,.t 30]),dh 32 21 31] (aZ 32 (.region [I 33 9,aT 34 .add 33 1,I 9 34]) .skip)) (.seq (aa [aK 35 0 1 4,ax 36 1 35,I 37 3,I 38 8,bt 39 .add 37 38,I 40 3,I 41 9,bt 42 .add 40 41,gu 43 36 [.t 39,.t 42],cx 44 43] (aZ 44 .ret .skip)) (aa [aK 45 1 1 4,ax 46 1 45,I 47 3,I 48 8,bt 49 .add 47 48,I 50 3,I 51 9,bt 52 .add 50 51,gu 53 46 [.t 49,.t 52]] (.region [I 54 9,I 8 54])))))))))))
@[simp] def anX:List bV:=[]
def Sw:C:=(aa [bS 2 (.mov (.c (.int .u64 0)))] (aa [I 4 0,bS 5 (.conv .u64 (.t 4)),cH 6 169 5,bS 7 (.conv .u64 (.t 6)),I 3 7] (aa [I 8 3,bS 9 (.bin .shl false (.c (.int .u64 1)) (.t 8)),I 2 9] .ret)))
@[simp] def Zi:List bV:=[.tmp 2]
def SI:C:=(aa [bS 2 (.mov (.c (.int .u64 0)))] (.seq (.drawn true 33 [I 3 0,eV 4 3,ax 5 1 4,I 6 0,eV 7 6,ax 8 1 7,bS 9 (.bin .shl false (.t 8) (.c (.int .u64 13))),bt 10 .xor 5 9,eV 11 3,bD 1 11 10]) (.seq (.drawn true 33 [I 12 0,eV 13 12,ax 14 1 13,I 15 0,eV 16 15,ax 17 1 16,bS 18 (.bin .shr false (.t 17) (.c (.int .u64 7))),bt 19 .xor 14 18,eV 20 12,bD 1 20 19]) (.seq (.drawn true 33 [I 21 0,eV 22 21,ax 23 1 22,I 24 0,eV 25 24,ax 26 1 25,bS 27 (.bin .shl false (.t 26) (.c (.int .u64 17))),bt 28 .xor 23 27,eV 29 21,bD 1 29 28]) (aa [I 30 0,eV 31 30,ax 32 1 31,I 2 32] .ret)))))
@[simp] def Zl:List bV:=[.tmp 2]
def Su:C:=(aa [cW 3 0,cf 6 0] (aa [aX 7 2 3,I 8 1,aT 9 .sub 8 1,I 10 1,I 11 1,aT 12 .add 11 1,I 13 2,c0 14 213 [.t 7,.t 9,.t 10,.t 12,.t 13],I 6 14] .ret))
@[simp] def Zg:List bV:=[.tmp 6]
def Sv:C:=(aa [cW 5 0,cf 10 0] (aa [aX 12 2 5,I 13 1,I 14 2,I 15 4,c0 16 218 [.t 12,.t 13,.t 14,.t 15],I 11 16,cp 17 0 11,cp 18 1 11,I 1 17,I 2 18] (aa [aX 20 2 5,I 21 2,I 22 3,I 23 4,c0 24 218 [.t 20,.t 21,.t 22,.t 23],I 19 24,cp 25 0 19,cp 26 1 19,I 2 25,I 3 26] (aa [aX 28 2 5,I 29 1,I 30 2,I 31 4,c0 32 218 [.t 28,.t 29,.t 30,.t 31],I 27 32,cp 33 0 27,cp 34 1 27,I 1 33,I 2 34] (aa [I 35 2,I 10 35] .ret)))))
@[simp] def Zh:List bV:=[.tmp 10]
def Sx:C:=(aa [cW 4 0,cf 8 0,cf 9 0] (.seq (aa [aK 10 0 1 4,ax 11 1 10,I 12 2,I 13 1,gu 14 11 [.t 12,.t 13]] (aZ 14 (aa [I 15 3,eV 16 15,ax 17 1 16,aT 18 .add 17 1,eV 19 15,bD 1 19 18] (aa [I 20 2,I 21 1,I 8 20,I 9 21] .ret)) .skip)) (aa [I 22 1,I 23 2,I 8 22,I 9 23] .ret)))
@[simp] def OT:List bV:=[.tmp 8,.tmp 9]
def oD:List (Nat×dy):=[
 (3,⟨1,8,.int .i64,.int .i64 0⟩),
 (5,⟨1,1,.int .u8,.int .u8 0⟩),
 (9,⟨1,16,.str,.str []⟩),
 (117,⟨1,8,.int .u64,.int .u64 0⟩),
 (138,⟨1,8,.other,.junk⟩),
 (152,⟨1,8,.other,.junk⟩),
 (156,⟨2,16,.struct [(0,138),(1,152)],.agg [.junk,.junk]⟩),
 (170,⟨1,8,.int .u64,.int .u64 0⟩),
 (181,⟨1,4,.int .u32,.int .u32 0⟩),
 (190,⟨1,8,.int .u64,.int .u64 0⟩)]
theorem o6:fJ aw oD=true:=by kernel_rfl
theorem alY:b6 oD Sn anS 1 Tryz.f169=true:=by kernel_rfl
theorem ae7:aw.funcs[(169:Nat)]? =some Tryz.f169:=Tryz.func169
theorem amb:b6 oD SB Zj 4 Tryz.f170=true:=by kernel_rfl
theorem afk:aw.funcs[(170:Nat)]? =some Tryz.f170:=Tryz.func170
theorem alZ:b6 oD Sp Cf 1 Tryz.f195=true:=by kernel_rfl
theorem ae8:aw.funcs[(195:Nat)]? =some Tryz.f195:=Tryz.func195
theorem al3:b6 oD St anT 3 Tryz.f196=true:=by kernel_rfl
theorem afc:aw.funcs[(196:Nat)]? =some Tryz.f196:=Tryz.func196
theorem al1:b6 oD Sr Zf 3 Tryz.f197=true:=by kernel_rfl
theorem afa:aw.funcs[(197:Nat)]? =some Tryz.f197:=Tryz.func197
theorem al2:b6 oD Ss OS 3 Tryz.f198=true:=by kernel_rfl
theorem afb:aw.funcs[(198:Nat)]? =some Tryz.f198:=Tryz.func198
theorem amc:b6 oD SC anV 3 Tryz.f199=true:=by kernel_rfl
theorem afl:aw.funcs[(199:Nat)]? =some Tryz.f199:=Tryz.func199
theorem al8:b6 oD Sy I3 3 Tryz.f200=true:=by kernel_rfl
theorem afh:aw.funcs[(200:Nat)]? =some Tryz.f200:=Tryz.func200
theorem al9:b6 oD Sz OU 4 Tryz.f201=true:=by kernel_rfl
theorem afi:aw.funcs[(201:Nat)]? =some Tryz.f201:=Tryz.func201
theorem ama:b6 oD SA E7 4 Tryz.f202=true:=by kernel_rfl
theorem afj:aw.funcs[(202:Nat)]? =some Tryz.f202:=Tryz.func202
theorem ame:b6 oD SE anX 4 Tryz.f209=true:=by kernel_rfl
theorem afn:aw.funcs[(209:Nat)]? =some Tryz.f209:=Tryz.func209
theorem al6:b6 oD Sw Zi 1 Tryz.f210=true:=by kernel_rfl
theorem aff:aw.funcs[(210:Nat)]? =some Tryz.f210:=Tryz.func210
theorem ami:b6 oD SI Zl 1 Tryz.f211=true:=by kernel_rfl
theorem afr:aw.funcs[(211:Nat)]? =some Tryz.f211:=Tryz.func211
theorem al4:b6 oD Su Zg 3 Tryz.f212=true:=by kernel_rfl
theorem afd:aw.funcs[(212:Nat)]? =some Tryz.f212:=Tryz.func212
theorem al5:b6 oD Sv Zh 5 Tryz.f213=true:=by kernel_rfl
theorem afe:aw.funcs[(213:Nat)]? =some Tryz.f213:=Tryz.func213
theorem al7:b6 oD Sx OT 4 Tryz.f218=true:=by kernel_rfl
theorem afg:aw.funcs[(218:Nat)]? =some Tryz.f218:=Tryz.func218
end
section
open Go Go.Pv
variable {α:Type} [Inhabited α] {S:List α->cT} {n g cd:Nat} {lc ca:List aj} {lt:α->α->Bool}
theorem U2(H:fh S n g cd lc ca lt)(d:Array α)(aG:d.size=n)(lo hi first:Nat)(J:first+hi<=n)(U:2<=n)(h3:lo<=n):
  bG aw 209 [e7 g cd lc ca,.int .i64 lo,.int .i64 hi,.int .i64 first] (S d.toList) fun r ah=>r= .tuple []/\∃cm,ah=S cm.toList/\cm=Sort.siftDown lt hi first lo d/\cm.size=n:=by
 have af:=H.ok d.toList;have av:d.toList.length=n:=by simpa using aG
 have au:∀l m,Pv.look (.loc m) (S l).b=none:=fun l=>(H.ok l).obj.1;have hu:∀l m cs,cB (.loc m) cs (S l).b=(S l).b++[(.loc m,cs)]:=fun l m cs=>kK (au l m);have ay:∀m,aL.loc m∉c5 (S d.toList):=kD af.obj;have hle:=H.le;refine bG.mk mixed o6 afn ame Ψ af.obj fun aQ cI=>?_;unfold SE;simp[e7,hu,ay,cV,au];refine H.loopA av [2,3,4] (fun(x:Nat×Array α)=>[(8,.int .i64 x.1)]) (·.2) (fun x=>hi-x.1) (fun x=>x.2.size=n/\x.1<=n/\Sort.siftDown lt hi first x.1 x.2=Sort.siftDown lt hi first lo d) (lo,d) aG ⟨aG,h3,rfl⟩ (by simp[cV,au]) aH aH d6 ?_;rintro⟨root,ct⟩ ⟨aS,bf,b4⟩;simp only at aS bf b4;have aq:((first:Int)+(2*root+1))=(first+(2*root+1):Nat):=Ω
 have aF:(((first+(2*root+1):Nat):Int)+1)=(first+(2*root+1)+1:Nat):=Ω
 have bB:((first:Int)+root)=(first+root:Nat):=Ω
 have ds:((first:Int)+(2*root+1+1))=(first+(2*root+2):Nat):=Ω
 simp[Pv.look,H.slc,H.ssc];(with_reducible repeat' first|((first|apply bJ|apply bM|apply bL)<;>intro h<;>try simp at h)|refine ak ?_|simp[Pv.look,H.slc,H.ssc])
 ·rw[Sort.siftDown,dif_pos Ω]at b4;exact H.retA av aS (.inr rfl) ⟨rfl,ct,rfl,b4,aS⟩
 ·rw[Sort.siftDown,dif_neg Ω]at b4;rw[aq,aF];refine H.lessA aS _ _ Ω Ω fun o=>?_;have ao:decide (2*root+1+1<hi)=true:=by simp;omega
  cases ab:lt ct[first+(2*root+1)]! ct[first+(2*root+1)+1]! with
  |true=>
   rw[if_pos (by rw[ao,ab];rfl)]at b4;simp;(with_reducible repeat' first|refine ak ?_|simp[Pv.look,H.slc,H.ssc]);rw[bB,ds];refine H.lessA aS _ _ Ω Ω fun o=>?_;cases aC:lt ct[first+root]! ct[first+(2*root+2)]! with
   |true=>rw[if_neg (by simp[aC]),dif_pos Ω]at b4;simp;(with_reducible repeat' first|refine ak ?_|simp[Pv.look,H.slc,H.ssc]);rw[bB,ds];refine H.swapA aS U _ _ Ω Ω fun o=>?_;simp;(with_reducible repeat' first|refine ak ?_|simp);refine bR.whl (2*root+2,Sort.swp ct (first+root) (first+(2*root+2))) d7 ⟨by rw[hk,aS],by simp;omega,b4⟩ (H.weakC av (by simp[hk,aS]) (by simp[aJ];omega))
   |false=>rw[if_pos (by simp[aC])]at b4;simp;(with_reducible repeat' first|refine ak ?_|simp);all_goals exact H.retA av aS (.inl rfl) ⟨rfl,ct,rfl,b4,aS⟩
  |false=>
   rw[if_neg (by simp[ab])]at b4;simp;(with_reducible repeat' first|refine ak ?_|simp[Pv.look,H.slc,H.ssc]);rw[bB,aq];refine H.lessA aS _ _ Ω Ω fun o=>?_;cases aC:lt ct[first+root]! ct[first+(2*root+1)]! with
   |true=>rw[if_neg (by simp[aC])]at b4;simp;(with_reducible repeat' first|refine ak ?_|simp[Pv.look,H.slc,H.ssc]);rw[bB,aq];refine H.swapA aS U _ _ Ω Ω fun o=>?_;simp;(with_reducible repeat' first|refine ak ?_|simp);refine bR.whl (2*root+1,Sort.swp ct (first+root) (first+(2*root+1))) d7 ⟨by rw[hk,aS],by simp;omega,b4⟩ (H.weakC av (by simp[hk,aS]) d6)
   |false=>rw[if_pos (by simp[aC])]at b4;simp;(with_reducible repeat' first|refine ak ?_|simp);all_goals exact H.retA av aS (.inl rfl) ⟨rfl,ct,rfl,b4,aS⟩
 ·rw[Sort.siftDown,dif_neg Ω]at b4;have ao:decide (2*root+1+1<hi)=false:=by simp;omega
  rw[if_neg (by rw[ao];simp)]at b4;rw[bB,aq];refine H.lessA aS _ _ Ω Ω fun o=>?_;cases aC:lt ct[first+root]! ct[first+(2*root+1)]! with
  |true=>rw[if_neg (by simp[aC])]at b4;simp;(with_reducible repeat' first|refine ak ?_|simp[Pv.look,H.slc,H.ssc]);rw[bB,aq];refine H.swapA aS U _ _ Ω Ω fun o=>?_;simp;(with_reducible repeat' first|refine ak ?_|simp);refine bR.whl (2*root+1,Sort.swp ct (first+root) (first+(2*root+1))) d7 ⟨by rw[hk,aS],by simp;omega,b4⟩ (H.weakC av (by simp[hk,aS]) d6)
  |false=>rw[if_pos (by simp[aC])]at b4;simp;(with_reducible repeat' first|refine ak ?_|simp);all_goals exact H.retA av aS (.inl rfl) ⟨rfl,ct,rfl,b4,aS⟩
theorem ag2(H:fh S n g cd lc ca lt)(d:Array α)(aG:d.size=n)(a b:Nat)(oa:a<b)(ad:b<=n)(U:2<=n):
  bG aw 199 [e7 g cd lc ca,.int .i64 a,.int .i64 b] (S d.toList) fun r ah=>r= .tuple []/\∃cm,ah=S cm.toList/\cm=Sort.reverseRange d a b/\cm.size=n:=by
 have af:=H.ok d.toList;have av:d.toList.length=n:=by simpa using aG
 have au:∀l m,Pv.look (.loc m) (S l).b=none:=fun l=>(H.ok l).obj.1;have hu:∀l m cs,cB (.loc m) cs (S l).b=(S l).b++[(.loc m,cs)]:=fun l m cs=>kK (au l m);have ay:∀m,aL.loc m∉c5 (S d.toList):=kD af.obj;have hle:=H.le;refine bG.mk mixed o6 afl amc Ψ af.obj fun aQ cI=>?_;unfold SC;simp[e7,hu,ay,cV,au];have lV:((b:Int)-1)=(b-1:Nat):=Ω
 (with_reducible repeat' first|refine ak ?_|simp[hu,ay,cV,au]);rw[lV];refine H.loopA av [3] (fun(x:(Nat×Nat)×Array α)=>[(6,.int .i64 x.1.1),(7,.int .i64 x.1.2)]) (·.2) (fun x=>x.1.2+1-x.1.1) (fun x=>x.2.size=n/\x.1.2<n/\Sort.reverseLoop x.1.1 x.1.2 x.2=Sort.reverseRange d a b) ((a,b-1),d) aG ⟨aG,by simp;omega,rfl⟩ (by simp[cV,au]) aH aH d6 ?_;rintro⟨⟨i,j⟩,ct⟩ ⟨aS,bf,b4⟩;simp only at aS bf b4;rw[Sort.reverseLoop]at b4;simp[Pv.look,H.slc,H.ssc];(with_reducible repeat' first|((first|apply bJ|apply bM|apply bL)<;>intro h<;>try simp at h)|refine ak ?_|simp[Pv.look,H.slc,H.ssc])
 ·rw[if_pos Ω]at b4;refine H.swapA aS U _ _ Ω Ω fun o=>?_;have aq:((i:Int)+1)=(i+1:Nat):=Ω
  have aF:((j:Int)-1)=(j-1:Nat):=Ω
  simp;((with_reducible repeat' first|refine ak ?_|simp|((first|apply bJ|apply bM|apply bL)<;>intro h<;>try simp at h))<;>(try exact ck));rw[aq,aF];refine bR.whl ((i+1,j-1),Sort.swp ct i j) d7 ⟨by rw[hk,aS],by simp;omega,b4⟩ (H.weakC av (by simp[hk,aS]) d6)
 ·rw[if_neg Ω]at b4;exact H.retA av aS (.inr rfl) ⟨rfl,ct,rfl,b4,aS⟩
theorem agK(H:fh S n g cd lc ca lt)(d:Array α)(aG:d.size=n)(a b:Nat)(oa:a<=b)(ad:b<=n)(U:2<=n):
  bG aw 196 [e7 g cd lc ca,.int .i64 a,.int .i64 b] (S d.toList) fun r ah=>r= .tuple []/\∃cm,ah=S cm.toList/\cm=Sort.heapSort lt d a b/\cm.size=n:=by
 have af:=H.ok d.toList;have av:d.toList.length=n:=by simpa using aG
 have au:∀l m,Pv.look (.loc m) (S l).b=none:=fun l=>(H.ok l).obj.1;have hu:∀l m cs,cB (.loc m) cs (S l).b=(S l).b++[(.loc m,cs)]:=fun l m cs=>kK (au l m);have ay:∀m,aL.loc m∉c5 (S d.toList):=kD af.obj;have hle:=H.le;refine bG.mk mixed o6 afc al3 Ψ af.obj fun aQ cI=>?_;unfold St;simp[e7,hu,ay,cV,au];(with_reducible repeat' first|refine ak ?_|simp[hu,ay,cV,au]);have lV:nT.wrap (((b:Int)-a-1).tdiv 2)=(((b-a-1)/2+1:Nat):Int)-1:=by
  have e:((b:Int)-a-1).tdiv 2=(((b-a-1)/2+1:Nat):Int)-1:=by
   rcases Nat.eq_or_lt_of_le oa with h|h
   ·subst h;simp
   ·rw[show((b:Int)-a-1)=((b-a-1:Nat):Int) by omega,Int.tdiv_eq_ediv_of_nonneg Ω];omega
  rw[e,nm _ Ω]
 rw[lV];refine H.loopA av [3,6,7,8] (fun(x:Nat×Array α)=>[(9,.int .i64 ((x.1:Int)-1))]) (·.2) (fun x=>x.1) (fun x=>x.2.size=n/\x.1<=n/\Sort.heapBuild lt (b-a) a x.1 x.2=Sort.heapBuild lt (b-a) a ((b-a-1)/2+1) d) ((b-a-1)/2+1,d) aG ⟨aG,by simp;omega,rfl⟩ (by simp[cV,au]) aH aH d6 ?_;rintro⟨k,ct⟩ ⟨aS,bf,b4⟩;simp only at aS bf b4;have adb:((b:Int)-a)=(b-a:Nat):=Ω
 simp[Pv.look,H.slc,H.ssc];(with_reducible repeat' first|((first|apply bJ|apply bM|apply bL)<;>intro h<;>try simp at h)|refine ak ?_|simp[Pv.look,H.slc,H.ssc])
 ·obtain⟨k,rfl⟩:∃bI,k=bI+1:=⟨k-1,Ω⟩;have Ls:(((k+1:Nat):Int)-1)=(k:Nat):=Ω
  rw[Sort.heapBuild]at b4;simp only[iR H,H.slc,H.ssc,iF,Ls,adb];refine H.doFn (lk:=ct.toList) (by simpa using aS) (R:=fun a6=> ∃cm,a6=cm.toList/\cm=Sort.siftDown lt (b-a) a k ct/\cm.size=n) ((U2 H ct aS k (b-a) a Ω U Ω).mono fun r ah ⟨a1,cm,bm,bW,cZ⟩=>⟨a1,cm.toList,bm,cm,rfl,bW,cZ⟩) (by rintro a6 ⟨cm,rfl,_,q⟩;simpa using q) (by simp[aO,aJ,H.kdata (lk:=ct.toList) (by simpa using aS)]) ?_;rintro a6 ⟨cm,rfl,a1,bm⟩;simp;((with_reducible repeat' first|refine ak ?_|simp|((first|apply bJ|apply bM|apply bL)<;>intro h<;>try simp at h))<;>(try exact ck));refine bR.whl (k,cm) Ψ ⟨bm,by simp;omega,by rw[<-b4,a1]⟩ (H.weakC av (by simpa using bm) d6)
 ·obtain rfl:k=0:=Ω
  rw[Sort.heapBuild]at b4;have asI:ct.size=n:=aS;refine H.loopA av [3,6,7] (fun(x:Nat×Array α)=>[(10,.int .i64 ((x.1:Int)-1))]) (·.2) (fun x=>x.1) (fun x=>x.2.size=n/\x.1<=b-a/\Sort.heapPop lt a x.1 x.2=Sort.heapPop lt a (b-a) ct) (b-a,ct) aS ⟨aS,Ψ,rfl⟩ (by simp[Pv.look]) aH aH (by simp[aJ];omega) ?_;rintro⟨k,gb⟩ ⟨gW,qW,hy⟩;simp only at gW qW hy;simp[Pv.look,H.slc,H.ssc];(with_reducible repeat' first|((first|apply bJ|apply bM|apply bL)<;>intro h<;>try simp at h)|refine ak ?_|simp[Pv.look,H.slc,H.ssc])
  ·obtain⟨k,rfl⟩:∃bI,k=bI+1:=⟨k-1,Ω⟩;have Ls:(((k+1:Nat):Int)-1)=(k:Nat):=Ω
   have ada:((a:Int)+k)=(a+k:Nat):=Ω
   rw[Sort.heapPop]at hy;simp only[Ls,ada];refine H.swapA gW U _ _ Ω Ω fun o=>?_;have Nl:(Sort.swp gb a (a+k)).size=n:=by rw[hk,gW]
   simp;simp only[iR H,H.slc,H.ssc,iF];refine H.doFn (lk:=(Sort.swp gb a (a+k)).toList) (by simpa using Nl) (R:=fun a6=> ∃cm,a6=cm.toList/\cm=Sort.siftDown lt k a 0 (Sort.swp gb a (a+k))/\cm.size=n) ((U2 H (Sort.swp gb a (a+k)) Nl 0 k a Ω U Ω).mono fun r ah ⟨a1,cm,bm,bW,cZ⟩=>⟨a1,cm.toList,bm,cm,rfl,bW,cZ⟩) (by rintro a6 ⟨cm,rfl,_,q⟩;simpa using q) (by simp[aO,aJ,H.kdata (lk:=(Sort.swp gb a (a+k)).toList) (by simpa using Nl)]) ?_;rintro a6 ⟨cm,rfl,a1,bm⟩;simp;((with_reducible repeat' first|refine ak ?_|simp|((first|apply bJ|apply bM|apply bL)<;>intro h<;>try simp at h))<;>(try exact ck));refine bR.whl (k,cm) Ψ ⟨bm,by simp;omega,by rw[<-hy,a1]⟩ (H.weakC av (by simpa using bm) d6)
  ·obtain rfl:k=0:=Ω
   rw[Sort.heapPop]at hy;refine H.retA av gW (.inr rfl) ⟨rfl,gb,rfl,?_,gW⟩;rw[Sort.heapSort,<-b4,<-hy]
theorem agL(H:fh S n g cd lc ca lt)(d:Array α)(aG:d.size=n)(a b:Nat)(oa:a<=b)(ad:b<=n):
  bG aw 187 [e7 g cd lc ca,.int .i64 a,.int .i64 b] (S d.toList) fun r ah=>r= .tuple []/\∃cm,ah=S cm.toList/\cm=Sort.insertionSort lt d a b/\cm.size=n:=by
 have af:=H.ok d.toList;have av:d.toList.length=n:=by simpa using aG
 have au:∀l m,Pv.look (.loc m) (S l).b=none:=fun l=>(H.ok l).obj.1;have hu:∀l m cs,cB (.loc m) cs (S l).b=(S l).b++[(.loc m,cs)]:=fun l m cs=>kK (au l m);have ay:∀m,aL.loc m∉c5 (S d.toList):=kD af.obj;have hle:=H.le;refine bG.mk mixed CB Us Yn Ψ af.obj fun aQ cI=>?_;unfold KZ;simp[e7,hu,ay,cV,au];have lV:((a:Int)+1)=(a+1:Nat):=Ω
 (with_reducible repeat' first|refine ak ?_|simp[hu,ay,cV,au]);rw[lV];refine H.loopA av [1,2,3] (fun(x:Nat×Array α)=>[(6,.int .i64 x.1)]) (·.2) (fun x=>b+1-x.1) (fun x=>x.2.size=n/\x.1<=b+1/\Sort.insOuter lt a b x.1 x.2=Sort.insertionSort lt d a b) (a+1,d) aG ⟨aG,by simp;omega,rfl⟩ (by simp[cV,au]) aH aH d6 ?_;rintro⟨i,ct⟩ ⟨aS,bf,b4⟩;simp only at aS bf b4;rw[Sort.insOuter]at b4;simp;(with_reducible repeat' first|((first|apply bJ|apply bM|apply bL)<;>intro h<;>try simp at h)|refine ak ?_|simp)
 ·rw[if_pos Ω]at b4;refine H.loopA av [1,2,3,6] (fun(x:Nat×Array α)=>[(7,.int .i64 x.1)]) (·.2) (fun x=>x.1) (fun x=>x.2.size=n/\x.1<=i/\Sort.insInner lt a x.1 x.2=Sort.insInner lt a i ct) (i,ct) aS ⟨aS,Ψ,rfl⟩ (by simp[Pv.look]) aH aH d6 ?_;rintro⟨j,gb⟩ ⟨gW,qW,hy⟩;simp only at gW qW hy;simp[Pv.look,H.slc,H.ssc];(with_reducible repeat' first|((first|apply bJ|apply bM|apply bL)<;>intro h<;>try simp at h)|refine ak ?_|simp[Pv.look,H.slc,H.ssc])
  ·obtain⟨j,rfl⟩:∃dJ,j=dJ+1:=⟨j-1,Ω⟩;have pt:(((j+1:Nat):Int)-1)=(j:Nat):=Ω
   have qb:((i:Int)+1)=(i+1:Nat):=Ω
   have adf:((j:Int)+1)=(j+1:Nat):=Ω
   rw[Sort.insInner]at hy;have ao:decide (j+1>a)=true:=by simp;omega
   rw[pt];refine H.lessA gW _ _ Ω Ω fun o=>?_;cases ab:lt gb[j+1]! gb[j]! with
   |true=>rw[if_pos (by rw[ao,ab];rfl)]at hy;simp;(with_reducible repeat' first|refine ak ?_|simp[Pv.look,H.slc,H.ssc]);rw[adf];refine H.swapA gW Ω _ _ Ω Ω fun o=>?_;simp;(with_reducible repeat' first|refine ak ?_|simp);refine bR.whl (j,Sort.swp gb (j+1) j) Ψ ⟨by rw[hk,gW],by simp;omega,hy⟩ (H.weakC av (by simp[hk,gW]) d6)
   |false=>rw[if_neg (by simp[ab])]at hy;simp;((with_reducible repeat' first|refine ak ?_|simp|((first|apply bJ|apply bM|apply bL)<;>intro h<;>try simp at h))<;>(try exact ck));rw[qb];refine bR.whl (i+1,gb) d7 ⟨gW,by simp;omega,by rw[<-b4,<-hy]⟩ (H.weakC av (by simpa using gW) d6)
  ·have qb:((i:Int)+1)=(i+1:Nat):=Ω
   have zg:Sort.insInner lt a j gb=gb:=by
    cases j with
    |zero=>rfl
    |succ j=>rw[Sort.insInner,if_neg d7]
   rw[qb];refine bR.whl (i+1,gb) d7 ⟨gW,by simp;omega,by rw[<-b4,<-hy,zg]⟩ (H.weakC av (by simpa using gW) d6)
 ·rw[if_neg Ω]at b4;exact H.retA av aS (.inr rfl) ⟨rfl,ct,rfl,b4,aS⟩
end
section
open Go Go.Pv
variable {α:Type} [Inhabited α] {S:List α->cT} {n g cd:Nat} {lc ca:List aj} {lt:α->α->Bool}
theorem wB{p:α->Bool}{d:Array α}{i j:Nat}(h:¬(i<=j/\p d[j]! =true)):Sort.scanDown p d i j=j:=by
 cases j with
 |zero=>rfl
 |succ j=>rw[Sort.scanDown,if_neg (by simpa using h)]
theorem Cq{p:α->Bool}{d:Array α}{i j:Nat}(h:¬(i<=j/\p d[i]! =true)):Sort.scanUp p d j i=i:=by rw[Sort.scanUp,if_neg (by simpa using h)]
theorem Py{p:α->Bool}{d:Array α}{i j:Nat}(J:i<=j)(U:p d[i]! =true):Sort.scanUp p d j i=Sort.scanUp p d j (i+1):=by rw[Sort.scanUp,if_pos (by simp[J,U])]
theorem Px{p:α->Bool}{d:Array α}{i j:Nat}(J:i<=j+1)(U:p d[j+1]! =true):Sort.scanDown p d i (j+1)=Sort.scanDown p d i j:=by rw[Sort.scanDown,if_pos (by simp[J,U])]
theorem agW(H:fh S n g cd lc ca lt)(d:Array α)(aG:d.size=n)(a b pivot:Nat)(sF:a<=pivot)(aiQ:pivot<b)(oa:a+1<b)(ad:b<=n):
  bG aw 202 [e7 g cd lc ca,.int .i64 a,.int .i64 b,.int .i64 pivot] (S d.toList) fun r ah=>r= .tuple [.int .i64 (Sort.partition lt d a b pivot).1,.bool (Sort.partition lt d a b pivot).2.1]/\∃cm,ah=S cm.toList/\cm=(Sort.partition lt d a b pivot).2.2/\cm.size=n:=by
 obtain⟨R,bH⟩:∃R,R=Sort.partition lt d a b pivot:=⟨_,rfl⟩;rw[<-bH];unfold Sort.partition at bH;have af:=H.ok d.toList;have av:d.toList.length=n:=by simpa using aG
 have au:∀l m,Pv.look (.loc m) (S l).b=none:=fun l=>(H.ok l).obj.1;have hu:∀l m cs,cB (.loc m) cs (S l).b=(S l).b++[(.loc m,cs)]:=fun l m cs=>kK (au l m);have ay:∀m,aL.loc m∉c5 (S d.toList):=kD af.obj;have hle:=H.le;refine bG.mk mixed o6 afj ama Ψ af.obj fun aQ cI=>?_;unfold SA;simp[e7,hu,ay,cV,au];rw[H.ssc];refine H.swapA0 aG Ω a pivot Ω Ω fun o=>?_;obtain⟨d1,fC⟩:∃d1,d1=Sort.swp d a pivot:=⟨_,rfl⟩;have s1:d1.size=n:=by rw[fC,hk,aG]
 rw[<-fC];simp only[<-fC]at bH;have aq:((a:Int)+1)=(a+1:Nat):=Ω
 have aF:((b:Int)-1)=(b-1:Nat):=Ω
 simp;(with_reducible repeat' first|refine ak ?_|simp);rw[aq,aF];refine H.loopA av [1,4,11] (fun(i:Nat)=>[(10,.int .i64 i)]) (fun _=>d1) (fun i=>b+1-i) (fun i=>a+1<=i/\i<=b/\Sort.scanUp (fun x=>lt x d1[a]!) d1 (b-1) i=Sort.scanUp (fun x=>lt x d1[a]!) d1 (b-1) (a+1)) (a+1) s1 ⟨Ω,Ω,rfl⟩ (by simp[Pv.look]) aH aH d6 ?_;rintro i ⟨i1,i2,i3⟩;simp[Pv.look,H.slc];((with_reducible repeat' first|refine ak ?_|simp[Pv.look,H.slc]|((first|apply bJ|apply bM|apply bL)<;>intro h<;>try simp at h))<;>(try exact ck));refine H.lessA s1 i a Ω Ω fun o=>?_;cases ab:lt d1[i]! d1[a]!;rotate_left
 ·have qb:((i:Int)+1)=(i+1:Nat):=Ω
  simp;(with_reducible repeat' first|refine ak ?_|simp);rw[qb];refine bR.whl (i+1) Ω ⟨Ω,Ω,by rw[<-i3];exact(Py (p:=fun x=>lt x d1[a]!) Ω ab).symm⟩ (H.weakC av (by simpa using s1) d6)
 rotate_left
 ·have i4:Sort.scanUp (fun x=>lt x d1[a]!) d1 (b-1) i=i:=Cq (by simp[ab]);rw[i4]at i3;rw[<-i3]at bH;simp;refine H.loopA av [1,4,10] (fun(j:Nat)=>[(11,.int .i64 j)]) (fun _=>d1) (fun j=>j) (fun j=>i<=j+1/\j<=b-1/\Sort.scanDown (fun x=> !lt x d1[a]!) d1 i j=Sort.scanDown (fun x=> !lt x d1[a]!) d1 i (b-1)) (b-1) s1 ⟨Ω,Ω,rfl⟩ (by simp[Pv.look]) aH aH d6 ?_;rintro j ⟨gW,qW,hy⟩;simp[Pv.look,H.slc];((with_reducible repeat' first|refine ak ?_|simp[Pv.look,H.slc,H.ssc]|((first|apply bJ|apply bM|apply bL)<;>intro h<;>try simp at h))<;>(try exact ck))
  ·refine H.lessA s1 j a Ω Ω fun o=>?_;cases aC:lt d1[j]! d1[a]!
   ·obtain⟨j,rfl⟩:∃dJ,j=dJ+1:=⟨j-1,Ω⟩;have pt:(((j+1:Nat):Int)-1)=(j:Nat):=Ω
    simp;(with_reducible repeat' first|refine ak ?_|simp);try rw[pt]
    refine bR.whl j Ω ⟨Ω,Ω,by rw[<-hy];exact(Px (p:=fun x=> !lt x d1[a]!) Ω (by simp[aC])).symm⟩ (H.weakC av (by simpa using s1) d6)
   ·have zg:Sort.scanDown (fun x=> !lt x d1[a]!) d1 i j=j:=wB (by simp[aC]);have cA:i≠j:=fun e=>by subst e;rw[ab]at aC;cases aC
    rw[zg]at hy;rw[<-hy,if_neg Ω]at bH;simp;((with_reducible repeat' first|refine ak ?_|simp[Pv.look,H.slc,H.ssc]|((first|apply bJ|apply bM|apply bL)<;>intro h<;>try simp at h))<;>(try exact ck));refine H.swapA s1 Ω i j Ω Ω fun o=>?_;obtain⟨d2,e3⟩:∃d2,d2=Sort.swp d1 i j:=⟨_,rfl⟩;have s2:d2.size=n:=by rw[e3,hk,s1]
    rw[<-e3];rw[<-e3]at bH;have bB:((i:Int)+1)=(i+1:Nat):=Ω
    have ds:((j:Int)-1)=(j-1:Nat):=Ω
    simp;(with_reducible repeat' first|refine ak ?_|simp);rw[bB,ds];refine H.loopA av [1,4] (fun(x:(Nat×Nat)×Array α)=>[(10,.int .i64 x.1.1),(11,.int .i64 x.1.2)]) (·.2) (fun x=>x.1.2+1-x.1.1) (fun x=>x.2.size=n/\(a+1<=x.1.1/\x.1.1<=x.1.2+1/\x.1.2<=b-1)/\Sort.partLoop lt a x.1.1 x.1.2 x.2=Sort.partLoop lt a (i+1) (j-1) d2) ((i+1,j-1),d2) s2 ⟨s2,⟨by simp;omega,by simp;omega,by simp;omega⟩,rfl⟩ (by simp[Pv.look]) aH aH d6 ?_;rintro⟨⟨xx,dJ⟩,ct⟩ ⟨aS,⟨bf,b4,ep⟩,df⟩;simp only at aS bf b4 ep df;rw[Sort.partLoop]at df;generalize iH:Sort.partLoop lt a (i+1) (j-1) d2=G at df bH;simp;refine H.loopA av [1,4,11] (fun(x:Nat)=>[(10,.int .i64 x)]) (fun _=>ct) (fun x=>b+1-x) (fun x=>xx<=x/\x<=dJ+1/\Sort.scanUp (fun x=>lt x ct[a]!) ct dJ x=Sort.scanUp (fun x=>lt x ct[a]!) ct dJ xx) xx aS ⟨Ω,Ω,rfl⟩ (by simp[Pv.look]) aH aH d6 ?_;rintro p ⟨cP,c8,jv⟩;simp[Pv.look,H.slc];((with_reducible repeat' first|refine ak ?_|simp[Pv.look,H.slc]|((first|apply bJ|apply bM|apply bL)<;>intro h<;>try simp at h))<;>(try exact ck))
    ·refine H.lessA aS p a Ω Ω fun o=>?_;cases iJ:lt ct[p]! ct[a]!;rotate_left
     ·have qb:((p:Int)+1)=(p+1:Nat):=Ω
      simp;(with_reducible repeat' first|refine ak ?_|simp);rw[qb];refine bR.whl (p+1) Ω ⟨Ω,Ω,by rw[<-jv];exact(Py (p:=fun x=>lt x ct[a]!) Ω iJ).symm⟩ (H.weakC av (by simpa using aS) d6)
     ·have wi:Sort.scanUp (fun x=>lt x ct[a]!) ct dJ p=p:=Cq (by simp[iJ]);rw[wi]at jv;simp only[<-jv]at df;simp;refine H.loopA av [1,4,10] (fun(x:Nat)=>[(11,.int .i64 x)]) (fun _=>ct) (fun x=>x) (fun x=>p<=x+1/\x<=dJ/\Sort.scanDown (fun x=> !lt x ct[a]!) ct p x=Sort.scanDown (fun x=> !lt x ct[a]!) ct p dJ) dJ aS ⟨Ω,Ω,rfl⟩ (by simp[Pv.look]) aH aH d6 ?_;rintro q ⟨a1,bm,bW⟩;simp[Pv.look,H.slc];((with_reducible repeat' first|refine ak ?_|simp[Pv.look,H.slc,H.ssc]|((first|apply bJ|apply bM|apply bL)<;>intro h<;>try simp at h))<;>(try exact ck))
      ·refine H.lessA aS q a Ω Ω fun o=>?_;cases sW:lt ct[q]! ct[a]!
       ·obtain⟨q,rfl⟩:∃dJ,q=dJ+1:=⟨q-1,Ω⟩;have pt:(((q+1:Nat):Int)-1)=(q:Nat):=Ω
        simp;(with_reducible repeat' first|refine ak ?_|simp);try rw[pt]
        refine bR.whl q Ω ⟨Ω,Ω,by rw[<-bW];exact(Px (p:=fun x=> !lt x ct[a]!) Ω (by simp[sW])).symm⟩ (H.weakC av (by simpa using aS) d6)
       ·have cZ:Sort.scanDown (fun x=> !lt x ct[a]!) ct p q=q:=wB (by simp[sW]);have cA:p≠q:=fun e=>by subst e;rw[iJ]at sW;cases sW
        rw[cZ]at bW;simp only[<-bW]at df;rw[if_neg Ω,dif_pos Ω]at df;simp;((with_reducible repeat' first|refine ak ?_|simp[Pv.look,H.slc,H.ssc]|((first|apply bJ|apply bM|apply bL)<;>intro h<;>try simp at h))<;>(try exact ck));refine H.swapA aS Ω p q Ω Ω fun o=>?_;have ie:((p:Int)+1)=(p+1:Nat):=Ω
        have ig:((q:Int)-1)=(q-1:Nat):=Ω
        simp;(with_reducible repeat' first|((first|apply bJ|apply bM|apply bL)<;>intro h<;>try simp at h)|refine ak ?_|simp);rw[ie,ig];refine bR.whl ((p+1,q-1),Sort.swp ct p q) d7 ⟨by rw[hk,aS],⟨by simp;omega,by simp;omega,by simp;omega⟩,df⟩ (H.weakC av (by simp[hk,aS]) d6)
      ·have cZ:Sort.scanDown (fun x=> !lt x ct[a]!) ct p q=q:=wB Ω;rw[cZ]at bW;simp only[<-bW]at df;rw[if_pos Ω]at df;rw[<-df]at bH;refine H.swapA aS Ω q a Ω Ω fun o=>?_;simp;refine H.retR av (d:=Sort.swp ct q a) (by rw[hk,aS]) (.inl rfl) ?_;simp[cM,E7,aV,aY,aU];rw[bH];exact⟨⟨rfl,rfl⟩,_,rfl,rfl,by rw[hk,aS]⟩
    ·have wi:Sort.scanUp (fun x=>lt x ct[a]!) ct dJ p=p:=Cq Ω;rw[wi]at jv;simp only[<-jv]at df;have cZ:Sort.scanDown (fun x=> !lt x ct[a]!) ct p dJ=dJ:=wB Ω;rw[cZ,if_pos Ω]at df;rw[<-df]at bH;refine H.loopA av [1,4,10] (fun(x:Nat)=>[(11,.int .i64 x)]) (fun _=>ct) (fun x=>x) (fun x=>x=dJ) dJ aS rfl (by simp[Pv.look]) aH aH d6 ?_;rintro q rfl;simp[Pv.look,H.slc];((with_reducible repeat' first|refine ak ?_|simp[Pv.look,H.slc,H.ssc]|((first|apply bJ|apply bM|apply bL)<;>intro h<;>try simp at h))<;>(try exact ck));refine H.swapA aS Ω q a Ω Ω fun o=>?_;simp;refine H.retR av (d:=Sort.swp ct q a) (by rw[hk,aS]) (.inl rfl) ?_;simp[cM,E7,aV,aY,aU];rw[bH];exact⟨⟨rfl,rfl⟩,_,rfl,rfl,by rw[hk,aS]⟩
  ·have zg:Sort.scanDown (fun x=> !lt x d1[a]!) d1 i j=j:=wB Ω;rw[zg]at hy;rw[<-hy,if_pos Ω]at bH;refine H.swapA s1 Ω j a Ω Ω fun o=>?_;simp;refine H.retR av (d:=Sort.swp d1 j a) (by rw[hk,s1]) (.inl rfl) ?_;simp[cM,E7,aV,aY,aU];rw[bH];exact⟨⟨rfl,rfl⟩,_,rfl,rfl,by rw[hk,s1]⟩
 ·have i4:Sort.scanUp (fun x=>lt x d1[a]!) d1 (b-1) i=i:=Cq Ω;rw[i4]at i3;have zg:Sort.scanDown (fun x=> !lt x d1[a]!) d1 i (b-1)=b-1:=wB Ω;rw[<-i3,zg,if_pos Ω]at bH;refine H.loopA av [1,4,10] (fun(j:Nat)=>[(11,.int .i64 j)]) (fun _=>d1) (fun j=>j) (fun j=>j=b-1) (b-1) s1 rfl (by simp[Pv.look]) aH aH d6 ?_;rintro j rfl;simp[Pv.look,H.slc];((with_reducible repeat' first|refine ak ?_|simp[Pv.look,H.slc,H.ssc]|((first|apply bJ|apply bM|apply bL)<;>intro h<;>try simp at h))<;>(try exact ck));refine H.swapA s1 Ω (b-1) a Ω Ω fun o=>?_;simp;refine H.retR av (d:=Sort.swp d1 (b-1) a) (by rw[hk,s1]) (.inl rfl) ?_;simp[cM,E7,aV,aY,aU];rw[bH];exact⟨⟨rfl,rfl⟩,_,rfl,rfl,by rw[hk,s1]⟩
end
section
open Go Go.Pv
variable {α:Type} [Inhabited α] {S:List α->cT} {n g cd:Nat} {lc ca:List aj} {lt:α->α->Bool}
theorem agX(H:fh S n g cd lc ca lt)(d:Array α)(aG:d.size=n)(a b pivot:Nat)(sF:a<=pivot)(aiQ:pivot<b)(oa:a+1<b)(ad:b<=n):
  bG aw 201 [e7 g cd lc ca,.int .i64 a,.int .i64 b,.int .i64 pivot] (S d.toList) fun r ah=>r= .int .i64 (Sort.partitionEqual lt d a b pivot).1/\∃cm,ah=S cm.toList/\cm=(Sort.partitionEqual lt d a b pivot).2/\cm.size=n:=by
 obtain⟨R,bH⟩:∃R,R=Sort.partitionEqual lt d a b pivot:=⟨_,rfl⟩;rw[<-bH];unfold Sort.partitionEqual at bH;have af:=H.ok d.toList;have av:d.toList.length=n:=by simpa using aG
 have au:∀l m,Pv.look (.loc m) (S l).b=none:=fun l=>(H.ok l).obj.1;have hu:∀l m cs,cB (.loc m) cs (S l).b=(S l).b++[(.loc m,cs)]:=fun l m cs=>kK (au l m);have ay:∀m,aL.loc m∉c5 (S d.toList):=kD af.obj;have hle:=H.le;refine bG.mk mixed o6 afi al9 Ψ af.obj fun aQ cI=>?_;unfold Sz;simp[e7,hu,ay,cV,au];rw[H.ssc];refine H.swapA0 aG Ω a pivot Ω Ω fun o=>?_;obtain⟨d1,fC⟩:∃d1,d1=Sort.swp d a pivot:=⟨_,rfl⟩;have s1:d1.size=n:=by rw[fC,hk,aG]
 rw[<-fC];rw[<-fC]at bH;have aq:((a:Int)+1)=(a+1:Nat):=Ω
 have aF:((b:Int)-1)=(b-1:Nat):=Ω
 simp;(with_reducible repeat' first|refine ak ?_|simp);rw[aq,aF];refine H.loopA av [1,4] (fun(x:(Nat×Nat)×Array α)=>[(9,.int .i64 x.1.1),(10,.int .i64 x.1.2)]) (·.2) (fun x=>x.1.2+1-x.1.1) (fun x=>x.2.size=n/\(a+1<=x.1.1/\x.1.1<=x.1.2+1/\x.1.2<=b-1)/\Sort.partEqLoop lt a x.1.1 x.1.2 x.2=R) ((a+1,b-1),d1) s1 ⟨s1,⟨Ψ,by simp;omega,Ψ⟩,bH.symm⟩ (by simp[Pv.look]) aH aH d6 ?_;rintro⟨⟨xx,dJ⟩,ct⟩ ⟨aS,⟨bf,b4,ep⟩,df⟩;simp only at aS bf b4 ep df;rw[Sort.partEqLoop]at df;simp;refine H.loopA av [1,4,10] (fun(x:Nat)=>[(9,.int .i64 x)]) (fun _=>ct) (fun x=>b+1-x) (fun x=>xx<=x/\x<=dJ+1/\Sort.scanUp (fun x=> !lt ct[a]! x) ct dJ x=Sort.scanUp (fun x=> !lt ct[a]! x) ct dJ xx) xx aS ⟨Ω,Ω,rfl⟩ (by simp[Pv.look]) aH aH d6 ?_;rintro p ⟨cP,c8,jv⟩;simp[Pv.look,H.slc];((with_reducible repeat' first|refine ak ?_|simp[Pv.look,H.slc]|((first|apply bJ|apply bM|apply bL)<;>intro h<;>try simp at h))<;>(try exact ck))
 ·refine H.lessA aS a p Ω Ω fun o=>?_;cases iJ:lt ct[a]! ct[p]!
  ·have qb:((p:Int)+1)=(p+1:Nat):=Ω
   simp;(with_reducible repeat' first|refine ak ?_|simp);rw[qb];refine bR.whl (p+1) Ω ⟨Ω,Ω,by rw[<-jv];exact(Py (p:=fun x=> !lt ct[a]! x) Ω (by simp[iJ])).symm⟩ (H.weakC av (by simpa using aS) d6)
  ·have wi:Sort.scanUp (fun x=> !lt ct[a]! x) ct dJ p=p:=Cq (by simp[iJ]);rw[wi]at jv;simp only[<-jv]at df;simp;refine H.loopA av [1,4,9] (fun(x:Nat)=>[(10,.int .i64 x)]) (fun _=>ct) (fun x=>x) (fun x=>p<=x+1/\x<=dJ/\Sort.scanDown (fun x=>lt ct[a]! x) ct p x=Sort.scanDown (fun x=>lt ct[a]! x) ct p dJ) dJ aS ⟨Ω,Ω,rfl⟩ (by simp[Pv.look]) aH aH d6 ?_;rintro q ⟨a1,bm,bW⟩;simp[Pv.look,H.slc];((with_reducible repeat' first|refine ak ?_|simp[Pv.look,H.slc,H.ssc]|((first|apply bJ|apply bM|apply bL)<;>intro h<;>try simp at h))<;>(try exact ck))
   ·refine H.lessA aS a q Ω Ω fun o=>?_;cases sW:lt ct[a]! ct[q]!;rotate_left
    ·obtain⟨q,rfl⟩:∃dJ,q=dJ+1:=⟨q-1,Ω⟩;have pt:(((q+1:Nat):Int)-1)=(q:Nat):=Ω
     simp;(with_reducible repeat' first|refine ak ?_|simp);try rw[pt]
     refine bR.whl q Ω ⟨Ω,Ω,by rw[<-bW];exact(Px (p:=fun x=>lt ct[a]! x) Ω (by simp[sW])).symm⟩ (H.weakC av (by simpa using aS) d6)
    ·have cZ:Sort.scanDown (fun x=>lt ct[a]! x) ct p q=q:=wB (by simp[sW]);have cA:p≠q:=fun e=>by subst e;rw[iJ]at sW;cases sW
     rw[cZ]at bW;simp only[<-bW]at df;rw[if_neg Ω,dif_pos Ω]at df;simp;((with_reducible repeat' first|refine ak ?_|simp[Pv.look,H.slc,H.ssc]|((first|apply bJ|apply bM|apply bL)<;>intro h<;>try simp at h))<;>(try exact ck));refine H.swapA aS Ω p q Ω Ω fun o=>?_;have ie:((p:Int)+1)=(p+1:Nat):=Ω
     have ig:((q:Int)-1)=(q-1:Nat):=Ω
     simp;(with_reducible repeat' first|((first|apply bJ|apply bM|apply bL)<;>intro h<;>try simp at h)|refine ak ?_|simp);rw[ie,ig];refine bR.whl ((p+1,q-1),Sort.swp ct p q) d7 ⟨by rw[hk,aS],⟨by simp;omega,by simp;omega,by simp;omega⟩,df⟩ (H.weakC av (by simp[hk,aS]) d6)
   ·have cZ:Sort.scanDown (fun x=>lt ct[a]! x) ct p q=q:=wB Ω;rw[cZ]at bW;simp only[<-bW]at df;rw[if_pos Ω]at df;refine H.retR av (d:=ct) aS (.inl rfl) ?_;simp[cM,OU,aV,aY,aU];rw[<-df];exact⟨rfl,_,rfl,rfl,aS⟩
 ·have wi:Sort.scanUp (fun x=> !lt ct[a]! x) ct dJ p=p:=Cq Ω;rw[wi]at jv;simp only[<-jv]at df;have cZ:Sort.scanDown (fun x=>lt ct[a]! x) ct p dJ=dJ:=wB Ω;rw[cZ,if_pos Ω]at df;refine H.loopA av [1,4,9] (fun(x:Nat)=>[(10,.int .i64 x)]) (fun _=>ct) (fun x=>x) (fun x=>x=dJ) dJ aS rfl (by simp[Pv.look]) aH aH d6 ?_;rintro q rfl;simp[Pv.look,H.slc];((with_reducible repeat' first|refine ak ?_|simp[Pv.look,H.slc,H.ssc]|((first|apply bJ|apply bM|apply bL)<;>intro h<;>try simp at h))<;>(try exact ck));refine H.retR av (d:=ct) aS (.inl rfl) ?_;simp[cM,OU,aV,aY,aU];rw[<-df];exact⟨rfl,_,rfl,rfl,aS⟩
end
section
open Go Go.Pv
variable {α:Type} [Inhabited α] {S:List α->cT} {n g cd:Nat} {lc ca:List aj} {lt:α->α->Bool}
theorem agV(H:fh S n g cd lc ca lt)(d:Array α)(aG:d.size=n)(a b:Nat)(oa:a<b)(ad:b<=n)(U:2<=n):
  bG aw 200 [e7 g cd lc ca,.int .i64 a,.int .i64 b] (S d.toList) fun r ah=>r= .bool (Sort.partialInsertionSort lt d a b).2/\∃cm,ah=S cm.toList/\cm=(Sort.partialInsertionSort lt d a b).1/\cm.size=n:=by
 obtain⟨R,bH⟩:∃R,R=Sort.partialInsertionSort lt d a b:=⟨_,rfl⟩;rw[<-bH];unfold Sort.partialInsertionSort at bH;have af:=H.ok d.toList;have av:d.toList.length=n:=by simpa using aG
 have au:∀l m,Pv.look (.loc m) (S l).b=none:=fun l=>(H.ok l).obj.1;have hu:∀l m cs,cB (.loc m) cs (S l).b=(S l).b++[(.loc m,cs)]:=fun l m cs=>kK (au l m);have ay:∀m,aL.loc m∉c5 (S d.toList):=kD af.obj;have hle:=H.le;refine bG.mk mixed o6 afh al8 Ψ af.obj fun aQ cI=>?_;unfold Sy;simp[e7,hu,ay,cV,au];have aq:((a:Int)+1)=(a+1:Nat):=Ω
 (with_reducible repeat' first|refine ak ?_|simp);rw[aq];refine H.loopA av [1,2,3] (fun(x:(Nat×Nat)×Array α)=>[(7,.int .i64 x.1.1),(8,.int .i64 x.1.2)]) (·.2) (fun x=>5-x.1.2) (fun x=>x.2.size=n/\(a+1<=x.1.1/\x.1.1<=b/\x.1.2<=5)/\Sort.partialIns lt a b (5-x.1.2) x.1.1 x.2=R) ((a+1,0),d) aG ⟨aG,⟨Ψ,by simp;omega,Ψ⟩,bH.symm⟩ (by simp[cV,au]) aH aH d6 ?_;rintro⟨⟨i0,s⟩,ct⟩ ⟨aS,⟨bf,b4,ep⟩,df⟩;simp only at aS bf b4 ep df;simp;((with_reducible repeat' first|refine ak ?_|simp|((first|apply bJ|apply bM|apply bL)<;>intro h<;>try simp at h))<;>(try exact ck))
 ·obtain⟨m,hm⟩:∃m,5-s=m+1:=⟨5-s-1,Ω⟩;rw[hm,Sort.partialIns]at df;refine H.loopA av [1,2,3,8] (fun(x:Nat)=>[(7,.int .i64 x)]) (fun _=>ct) (fun x=>b-x) (fun x=>i0<=x/\x<=b/\Sort.scanSorted lt ct b x=Sort.scanSorted lt ct b i0) i0 aS ⟨Ω,Ω,rfl⟩ (by simp[Pv.look]) aH aH d6 ?_;rintro i ⟨i1,i2,i3⟩;rw[Sort.scanSorted]at i3;have qb:((i:Int)+1)=(i+1:Nat):=Ω
  have GO:((i:Int)-1)=(i-1:Nat):=Ω
  have es:((s:Int)+1)=(s+1:Nat):=Ω
  have em:5-(s+1)=m:=Ω
  simp[Pv.look,H.slc];((with_reducible repeat' first|refine ak ?_|simp[Pv.look,H.slc]|((first|apply bJ|apply bM|apply bL)<;>intro h<;>try simp at h))<;>(try exact ck))
  ·rw[GO];refine H.lessA aS i (i-1) Ω Ω fun o=>?_;cases ab:lt ct[i]! ct[i-1]!
   ·rw[if_pos (by simp[ab];omega)]at i3;simp;(with_reducible repeat' first|refine ak ?_|simp);rw[qb];refine bR.whl (i+1) Ω ⟨Ω,Ω,i3⟩ (H.weakC av (by simpa using aS) d6)
   ·rw[if_neg (by simp[ab])]at i3;simp only[<-i3]at df;rw[if_neg Ω]at df;have Ba:(i:Int)≠b:=Ω
    have aia:((i:Int)==b)=false:=by simp;omega
    simp;((with_reducible repeat' first|refine ak ?_|simp[Ba,aia,Pv.look,H.slc,H.ssc]|((first|apply bJ|apply bM|apply bL)<;>intro h<;>try simp at h))<;>(try exact ck))
    ·rw[if_pos Ω]at df;refine H.retR av (d:=ct) aS (.inl rfl) ?_;simp[cM,I3,aV,aY,aU];rw[<-df];exact⟨rfl,_,rfl,rfl,aS⟩
    ·rw[if_neg Ω]at df;rw[GO];refine H.swapA aS U i (i-1) Ω Ω fun o=>?_;obtain⟨d2,e3⟩:∃d2,d2=Sort.swp ct i (i-1):=⟨_,rfl⟩;have s2:d2.size=n:=by rw[e3,hk,aS]
     rw[<-e3];simp only[<-e3]at df;by_cases mu:2<=b-i
     ·rw[if_pos mu]at df;have uv:(2:Int)<=(b:Int)-i:=Ω
      by_cases DJ:2<=i-a
      ·rw[if_pos DJ]at df;have yU:(2:Int)<=(i:Int)-a:=Ω
       simp;(with_reducible repeat' first|refine ak ?_|simp[yU]);rw[GO];refine H.loopA av [1,2,3,7,8] (fun(x:Nat×Array α)=>[(9,.int .i64 x.1)]) (·.2) (fun x=>x.1) (fun x=>x.2.size=n/\x.1<=i-1/\Sort.shiftDown lt x.1 x.2=Sort.shiftDown lt (i-1) d2) (i-1,d2) s2 ⟨s2,Ψ,rfl⟩ (by simp[Pv.look]) aH aH d6 ?_;rintro⟨j,gb⟩ ⟨gW,qW,hy⟩;simp only at gW qW hy;simp[Pv.look,H.slc,H.ssc];((with_reducible repeat' first|refine ak ?_|simp[Pv.look,H.slc,H.ssc,uv]|((first|apply bJ|apply bM|apply bL)<;>intro h<;>try simp at h))<;>(try exact ck))
       ·obtain⟨j,rfl⟩:∃dJ,j=dJ+1:=⟨j-1,Ω⟩;have pt:(((j+1:Nat):Int)-1)=(j:Nat):=Ω
        rw[Sort.shiftDown]at hy;try rw[pt]
        refine H.lessA gW (j+1) j Ω Ω fun o=>?_;cases aC:lt gb[j+1]! gb[j]!
        ·rw[if_pos (by simp[aC])]at hy;rw[<-hy]at df;try simp
         try(with_reducible repeat' first|refine ak ?_|simp[Pv.look,H.slc,H.ssc,uv])
         rw[qb];refine H.loopA av [1,2,3,7,8] (fun(x:Nat×Array α)=>[(10,.int .i64 x.1)]) (·.2) (fun x=>b-x.1) (fun x=>x.2.size=n/\(i+1<=x.1/\x.1<=b)/\Sort.shiftUp lt b x.1 x.2=Sort.shiftUp lt b (i+1) gb) (i+1,gb) gW ⟨gW,⟨Ψ,by simp;omega⟩,rfl⟩ (by simp[Pv.look]) aH aH d6 ?_;rintro⟨q,nZ⟩ ⟨a1,⟨bm,zE⟩,bW⟩;simp only at a1 bm zE bW;rw[Sort.shiftUp]at bW;have eq:((q:Int)-1)=(q-1:Nat):=Ω
         have De:((q:Int)+1)=(q+1:Nat):=Ω
         simp[Pv.look,H.slc,H.ssc];((with_reducible repeat' first|refine ak ?_|simp[Pv.look,H.slc,H.ssc]|((first|apply bJ|apply bM|apply bL)<;>intro h<;>try simp at h))<;>(try exact ck))
         ·rw[if_pos Ω]at bW;rw[eq];refine H.lessA a1 q (q-1) Ω Ω fun o=>?_;cases bd:lt nZ[q]! nZ[q-1]!
          ·rw[if_pos (by simp[bd])]at bW;rw[<-bW]at df;simp;(with_reducible repeat' first|refine ak ?_|simp);rw[es];refine bR.whl ((i,s+1),nZ) d7 ⟨a1,⟨by simp;omega,by simp;omega,by simp;omega⟩,by simp only[em];exact df⟩ (H.weakC av (by simpa using a1) d6)
          ·rw[if_neg (by simp[bd])]at bW;simp;(with_reducible repeat' first|refine ak ?_|simp[Pv.look,H.slc,H.ssc]);rw[eq];refine H.swapA a1 Ω q (q-1) Ω Ω fun o=>?_;simp;((with_reducible repeat' first|refine ak ?_|simp|((first|apply bJ|apply bM|apply bL)<;>intro h<;>try simp at h))<;>(try exact ck));rw[De];refine bR.whl (q+1,Sort.swp nZ q (q-1)) d7 ⟨by rw[hk,a1],⟨by simp;omega,by simp;omega⟩,bW⟩ (H.weakC av (by simp[hk,a1]) d6)
         ·rw[if_neg Ω]at bW;rw[<-bW]at df;rw[es];refine bR.whl ((i,s+1),nZ) d7 ⟨a1,⟨by simp;omega,by simp;omega,by simp;omega⟩,by simp only[em];exact df⟩ (H.weakC av (by simpa using a1) d6)
        ·rw[if_neg (by simp[aC])]at hy;simp;(with_reducible repeat' first|refine ak ?_|simp[Pv.look,H.slc,H.ssc]);try rw[pt]
         refine H.swapA gW U (j+1) j Ω Ω fun o=>?_;simp;((with_reducible repeat' first|refine ak ?_|simp|((first|apply bJ|apply bM|apply bL)<;>intro h<;>try simp at h))<;>(try exact ck));try rw[pt]
         refine bR.whl (j,Sort.swp gb (j+1) j) Ψ ⟨by rw[hk,gW],by simp;omega,hy⟩ (H.weakC av (by simp[hk,gW]) d6)
       ·obtain rfl:j=0:=Ω
        rw[Sort.shiftDown]at hy;rw[<-hy]at df;try simp
        try(with_reducible repeat' first|refine ak ?_|simp[Pv.look,H.slc,H.ssc,uv])
        rw[qb];refine H.loopA av [1,2,3,7,8] (fun(x:Nat×Array α)=>[(10,.int .i64 x.1)]) (·.2) (fun x=>b-x.1) (fun x=>x.2.size=n/\(i+1<=x.1/\x.1<=b)/\Sort.shiftUp lt b x.1 x.2=Sort.shiftUp lt b (i+1) gb) (i+1,gb) gW ⟨gW,⟨Ψ,by simp;omega⟩,rfl⟩ (by simp[Pv.look]) aH aH d6 ?_;rintro⟨q,nZ⟩ ⟨a1,⟨bm,zE⟩,bW⟩;simp only at a1 bm zE bW;rw[Sort.shiftUp]at bW;have eq:((q:Int)-1)=(q-1:Nat):=Ω
        have De:((q:Int)+1)=(q+1:Nat):=Ω
        simp[Pv.look,H.slc,H.ssc];((with_reducible repeat' first|refine ak ?_|simp[Pv.look,H.slc,H.ssc]|((first|apply bJ|apply bM|apply bL)<;>intro h<;>try simp at h))<;>(try exact ck))
        ·rw[if_pos Ω]at bW;rw[eq];refine H.lessA a1 q (q-1) Ω Ω fun o=>?_;cases bd:lt nZ[q]! nZ[q-1]!
         ·rw[if_pos (by simp[bd])]at bW;rw[<-bW]at df;simp;(with_reducible repeat' first|refine ak ?_|simp);rw[es];refine bR.whl ((i,s+1),nZ) d7 ⟨a1,⟨by simp;omega,by simp;omega,by simp;omega⟩,by simp only[em];exact df⟩ (H.weakC av (by simpa using a1) d6)
         ·rw[if_neg (by simp[bd])]at bW;simp;(with_reducible repeat' first|refine ak ?_|simp[Pv.look,H.slc,H.ssc]);rw[eq];refine H.swapA a1 Ω q (q-1) Ω Ω fun o=>?_;simp;((with_reducible repeat' first|refine ak ?_|simp|((first|apply bJ|apply bM|apply bL)<;>intro h<;>try simp at h))<;>(try exact ck));rw[De];refine bR.whl (q+1,Sort.swp nZ q (q-1)) d7 ⟨by rw[hk,a1],⟨by simp;omega,by simp;omega⟩,bW⟩ (H.weakC av (by simp[hk,a1]) d6)
        ·rw[if_neg Ω]at bW;rw[<-bW]at df;rw[es];refine bR.whl ((i,s+1),nZ) d7 ⟨a1,⟨by simp;omega,by simp;omega,by simp;omega⟩,by simp only[em];exact df⟩ (H.weakC av (by simpa using a1) d6)
      ·rw[if_neg DJ]at df;have yU:¬(2:Int)<=(i:Int)-a:=Ω
       simp;(with_reducible repeat' first|refine ak ?_|simp[yU,uv]);try simp
       try(with_reducible repeat' first|refine ak ?_|simp[Pv.look,H.slc,H.ssc,uv])
       rw[qb];refine H.loopA av [1,2,3,7,8] (fun(x:Nat×Array α)=>[(10,.int .i64 x.1)]) (·.2) (fun x=>b-x.1) (fun x=>x.2.size=n/\(i+1<=x.1/\x.1<=b)/\Sort.shiftUp lt b x.1 x.2=Sort.shiftUp lt b (i+1) d2) (i+1,d2) s2 ⟨s2,⟨Ψ,by simp;omega⟩,rfl⟩ (by simp[Pv.look]) aH aH d6 ?_;rintro⟨q,nZ⟩ ⟨a1,⟨bm,zE⟩,bW⟩;simp only at a1 bm zE bW;rw[Sort.shiftUp]at bW;have eq:((q:Int)-1)=(q-1:Nat):=Ω
       have De:((q:Int)+1)=(q+1:Nat):=Ω
       simp[Pv.look,H.slc,H.ssc];((with_reducible repeat' first|refine ak ?_|simp[Pv.look,H.slc,H.ssc]|((first|apply bJ|apply bM|apply bL)<;>intro h<;>try simp at h))<;>(try exact ck))
       ·rw[if_pos Ω]at bW;rw[eq];refine H.lessA a1 q (q-1) Ω Ω fun o=>?_;cases bd:lt nZ[q]! nZ[q-1]!
        ·rw[if_pos (by simp[bd])]at bW;rw[<-bW]at df;simp;(with_reducible repeat' first|refine ak ?_|simp);rw[es];refine bR.whl ((i,s+1),nZ) d7 ⟨a1,⟨by simp;omega,by simp;omega,by simp;omega⟩,by simp only[em];exact df⟩ (H.weakC av (by simpa using a1) d6)
        ·rw[if_neg (by simp[bd])]at bW;simp;(with_reducible repeat' first|refine ak ?_|simp[Pv.look,H.slc,H.ssc]);rw[eq];refine H.swapA a1 Ω q (q-1) Ω Ω fun o=>?_;simp;((with_reducible repeat' first|refine ak ?_|simp|((first|apply bJ|apply bM|apply bL)<;>intro h<;>try simp at h))<;>(try exact ck));rw[De];refine bR.whl (q+1,Sort.swp nZ q (q-1)) d7 ⟨by rw[hk,a1],⟨by simp;omega,by simp;omega⟩,bW⟩ (H.weakC av (by simp[hk,a1]) d6)
       ·rw[if_neg Ω]at bW;rw[<-bW]at df;rw[es];refine bR.whl ((i,s+1),nZ) d7 ⟨a1,⟨by simp;omega,by simp;omega,by simp;omega⟩,by simp only[em];exact df⟩ (H.weakC av (by simpa using a1) d6)
     ·rw[if_neg mu]at df;have uv:¬(2:Int)<=(b:Int)-i:=Ω
      by_cases DJ:2<=i-a
      ·rw[if_pos DJ]at df;have yU:(2:Int)<=(i:Int)-a:=Ω
       simp;(with_reducible repeat' first|refine ak ?_|simp[yU]);rw[GO];refine H.loopA av [1,2,3,7,8] (fun(x:Nat×Array α)=>[(9,.int .i64 x.1)]) (·.2) (fun x=>x.1) (fun x=>x.2.size=n/\x.1<=i-1/\Sort.shiftDown lt x.1 x.2=Sort.shiftDown lt (i-1) d2) (i-1,d2) s2 ⟨s2,Ψ,rfl⟩ (by simp[Pv.look]) aH aH d6 ?_;rintro⟨j,gb⟩ ⟨gW,qW,hy⟩;simp only at gW qW hy;simp[Pv.look,H.slc,H.ssc];((with_reducible repeat' first|refine ak ?_|simp[Pv.look,H.slc,H.ssc,uv]|((first|apply bJ|apply bM|apply bL)<;>intro h<;>try simp at h))<;>(try exact ck))
       ·obtain⟨j,rfl⟩:∃dJ,j=dJ+1:=⟨j-1,Ω⟩;have pt:(((j+1:Nat):Int)-1)=(j:Nat):=Ω
        rw[Sort.shiftDown]at hy;try rw[pt]
        refine H.lessA gW (j+1) j Ω Ω fun o=>?_;cases aC:lt gb[j+1]! gb[j]!
        ·rw[if_pos (by simp[aC])]at hy;rw[<-hy]at df;try simp
         try(with_reducible repeat' first|refine ak ?_|simp[Pv.look,H.slc,H.ssc,uv])
         rw[es];refine bR.whl ((i,s+1),gb) d7 ⟨gW,⟨by simp;omega,by simp;omega,by simp;omega⟩,by simp only[em];exact df⟩ (H.weakC av (by simpa using gW) d6)
        ·rw[if_neg (by simp[aC])]at hy;simp;(with_reducible repeat' first|refine ak ?_|simp[Pv.look,H.slc,H.ssc]);try rw[pt]
         refine H.swapA gW U (j+1) j Ω Ω fun o=>?_;simp;((with_reducible repeat' first|refine ak ?_|simp|((first|apply bJ|apply bM|apply bL)<;>intro h<;>try simp at h))<;>(try exact ck));try rw[pt]
         refine bR.whl (j,Sort.swp gb (j+1) j) Ψ ⟨by rw[hk,gW],by simp;omega,hy⟩ (H.weakC av (by simp[hk,gW]) d6)
       ·obtain rfl:j=0:=Ω
        rw[Sort.shiftDown]at hy;rw[<-hy]at df;try simp
        try(with_reducible repeat' first|refine ak ?_|simp[Pv.look,H.slc,H.ssc,uv])
        rw[es];refine bR.whl ((i,s+1),gb) d7 ⟨gW,⟨by simp;omega,by simp;omega,by simp;omega⟩,by simp only[em];exact df⟩ (H.weakC av (by simpa using gW) d6)
      ·rw[if_neg DJ]at df;have yU:¬(2:Int)<=(i:Int)-a:=Ω
       simp;((with_reducible repeat' first|refine ak ?_|simp[yU,uv]|((first|apply bJ|apply bM|apply bL)<;>intro h<;>try simp at h))<;>(try exact ck));done
  ·rw[if_neg d7]at i3;simp only[<-i3]at df;rw[if_pos Ω]at df;refine H.retR av (d:=ct) aS (.inl rfl) ?_;simp[cM,I3,aV,aY,aU];rw[<-df];exact⟨rfl,_,rfl,rfl,aS⟩
 ·have:5-s=0:=Ω
  rw[this,Sort.partialIns]at df;refine H.retR av (d:=ct) aS (.inl rfl) ?_;simp[cM,I3,aV,aY,aU];rw[<-df];exact⟨rfl,_,rfl,rfl,aS⟩
end
section
open Go Go.Pv
variable {α:Type} [Inhabited α] {S:List α->cT} {n g cd:Nat} {lc ca:List aj} {lt:α->α->Bool}
def fq(S:List α->cT)(d:Array α)(v:Nat):cT:=⟨(.obj 901,[.int .i64 v])::(S d.toList).b,(S d.toList).e⟩
def te(S:List α->cT)(m:Nat):Prop:= ∀l,Pv.look (.obj m) (S l).b=none/\Pv.look (.obj m) (S l).e=none
theorem oM(H:fh S n g cd lc ca lt)(d:Array α)(v:Nat):dP (fq S d v):=by
 have h:=H.ok d.toList;have gU:∀k,inObs (S d.toList) k->inObs (fq S d v) k:=fun k ae=>by
  rcases ae with ae|ae
  ·refine .inl ?_;simp only[fq,Pv.look];split
   ·rfl
   ·exact ae
  ·exact .inr ae
 refine⟨⟨fun m=>?_,h.obj.2⟩,fun k cs ae=>?_,fun k o ay xs ab=>ki gU _ (h.ke k o ay xs ab)⟩
 ·simp[fq,Pv.look,h.obj.1 m]
 ·simp only[fq,Pv.look]at ae;split at ae
  ·cases ae;simp[aO,aJ]
  ·exact ki gU _ (h.kb k cs ae)
theorem tK(d:Array α)(v v':Nat):Same (fq S d v) (fq S d v'):=⟨fun k=>by simp only[fq,Pv.look];split<;>rfl,fun _=>rfl⟩
theorem L5(H:fh S n g cd lc ca lt)(ae:te S 901)(d:Array α)(aG:d.size=n)(a b v:Nat)(bg:a<n)(ad:b<n)(az:v<=1000):
  bG aw 218 [e7 g cd lc ca,.int .i64 a,.int .i64 b,.ptr (.obj 901) 0] (fq S d v) fun r ah=>r= .tuple [.int .i64 (Sort.order2 lt d a b v).1,.int .i64 (Sort.order2 lt d a b v).2.1]/\ah=fq S d (Sort.order2 lt d a b v).2.2:=by
 have af:=H.ok d.toList;have av:d.toList.length=n:=by simpa using aG
 have au:∀l m,Pv.look (.loc m) (S l).b=none:=fun l=>(H.ok l).obj.1;have hu:∀l m cs,cB (.loc m) cs (S l).b=(S l).b++[(.loc m,cs)]:=fun l m cs=>kK (au l m);have ay:∀m,aL.loc m∉c5 (S d.toList):=kD af.obj;have gJ:∀l,Pv.look (.obj 901) (S l).b=none:=fun l=>(ae l).1;have jY:∀l,Pv.look (.obj 901) (S l).e=none:=fun l=>(ae l).2;have hle:=H.le;have ld:=oM H d v;obtain⟨R,bH⟩:∃R,R=Sort.order2 lt d a b v:=⟨_,rfl⟩;rw[<-bH];unfold Sort.order2 at bH;refine bG.mk mixed o6 afg al7 Ψ ld.obj fun aQ cI=>?_;unfold Sx;have mn:aL.loc 0∉c5 (fq S d v):=kD ld.obj 0;generalize vL:c5 (fq S d v)=ob at mn⊢;unfold fq;simp[e7,hu,mn,cV,au,Pv.look,cB];rw[H.slc];refine cQ.ob (H.less d.toList av b a _ _ (Av Ω) (Av Ω)) (H.ok _) (fun k cs ab=>?_) (fun _ _ ab=>ab) (by simp[aJ,aO,H.klc d.toList av]) ?_
 ·simp only[Pv.look];split
  ·rename_i e;subst e;rw[gJ]at ab;cases ab
  ·rw[cV,ab]
 rintro r ah ⟨rfl,rfl⟩;refine⟨Same.refl _,?_⟩;have hw:cb (S d.toList).b ((aL.obj 901,[aj.int .i64 v])::((S d.toList).b++[(aL.loc 0,[aj.func g lc,aj.func cd ca])]))=[(aL.obj 901,[aj.int .i64 v]),(aL.loc 0,[aj.func g lc,aj.func cd ca])]:=by simp only[cb,gJ];rw[jg,ht];simp[cb,au]
 rw[hw,ht];have dG:∀(t:List (Nat×aj)) (o:List aL) (v':Nat) (D:List aj) (x y:Nat),Pv.get 8 t= .int .i64 x->Pv.get 9 t= .int .i64 y->R=(x,y,v')->
   cL OT (fq S d v) (fun r ah=>r= .tuple [.int .i64 R.1,.int .i64 R.2.1]/\ah=fq S d R.2.2) .ret ⟨t,(aL.obj 901,[.int .i64 v'])::(aL.loc 0,D)::(S d.toList).b,(S d.toList).e,1,o⟩:=by
  rintro t o v' D x y ab aC rfl;refine cL.at (fq S d v') (.inl rfl) (oM H d v') (tK _ _ _) (fun k cs ao=>?_) (fun _ _ ao=>ao) ?_
  ·simp only[fq,Pv.look]at ao⊢;split at ao
   ·rename_i e;rw[if_pos e];exact ao
   ·rename_i e;rw[if_neg e];split
    ·rename_i aF;subst aF;rw[au]at ao;cases ao
    ·exact ao
  ·simp[cM,OT,aV,aY,aU,ab,aC]
 cases ab:lt d[b]! d[a]! with
 |true=>
  rw[if_pos ab]at bH;simp[Pv.look,cB];(with_reducible repeat' first|refine ak ?_|simp[Pv.look,cB]);have aq:((v:Int)+1)=(v+1:Nat):=Ω
  rw[aq];exact dG _ _ (v+1) _ b a rfl rfl bH
 |false=>rw[if_neg (by simp[ab])]at bH;simp[Pv.look,cB];exact dG _ _ v _ a b rfl rfl bH
theorem X5{s ah:cT}{f:Nat}{args:List aj}{r:aj}(aN:bG aw f args s fun eQ du=>eQ=r/\du=ah)(af:dP s)(fv:Same s ah)(ae:aO (inObs s) args){t:List (Nat×aj)}{D:List aj}{o:List aL}{d:Option Nat}{K:bn->Prop}
  (h:∀o,K ⟨eS d r t,(.loc 0,D)::ah.b,ah.e,1,o⟩):cQ aw f args ⟨t,s.b++[(.loc 0,D)],s.e,1,o⟩ d K:=by
 refine cQ.ob aN af (fun k cs ab=>by rw[cV,ab]) (fun _ _ ab=>ab) ae ?_;rintro r ah ⟨rfl,rfl⟩;refine⟨fv,?_⟩;have aq:cb s.b (s.b++[(.loc 0,D)])=[(.loc 0,D)]:=by rw[jg,ht];simp[cb,af.obj.1 0]
 have aF:cb s.e s.e=[]:=ht _;simp only[aq,aF];exact h _
theorem EM{s ah:cT}{f:Nat}{args:List aj}{r:aj}(aN:bG aw f args s fun eQ du=>eQ=r/\du=ah)(af:dP s)(fv:Same s ah)(ae:aO (inObs s) args){t:List (Nat×aj)}{D:List aj}{o:List aL}{d:Option Nat}{K:bn->Prop}
  (h:∀o,K ⟨eS d r t,(.loc 0,D)::ah.b,ah.e,1,o⟩):cQ aw f args ⟨t,(.loc 0,D)::s.b,s.e,1,o⟩ d K:=by
 refine cQ.ob aN af (fun k cs ab=>?_) (fun _ _ ab=>ab) ae ?_
 ·cases k with
  |loc m=>rw[af.obj.1 m]at ab;cases ab
  |obj m=>simpa[Pv.look]using ab
 rintro r ah ⟨rfl,rfl⟩;refine⟨fv,?_⟩;have aq:cb s.b ((.loc 0,D)::s.b)=[(.loc 0,D)]:=by have:=jg s.b [(aL.loc 0,D)] s.b;rw[ht]at this;simpa[cb,af.obj.1 0]using this
 have aF:cb s.e s.e=[]:=ht _;simp only[aq,aF];exact h _
theorem B4{d:Array α}{a b v n:Nat}(bg:a<n)(ad:b<n):(Sort.order2 lt d a b v).1<n/\(Sort.order2 lt d a b v).2.1<n/\(Sort.order2 lt d a b v).2.2<=v+1:=by unfold Sort.order2;split<;>simp<;>omega
theorem vY(H:fh S n g cd lc ca lt){d:Array α}(aG:d.size=n){v:Nat}:aJ (inObs (fq S d v)) (e7 g cd lc ca)/\aJ (inObs (fq S d v)) (.ptr (.obj 901) 0):=by
 refine⟨xC (fun k ae=>?_) _ (H.kdata (lk:=d.toList) (by simpa using aG)),by simp[aJ,inObs,fq,Pv.look]⟩;rcases ae with ae|ae
 ·refine .inl ?_;simp only[fq,Pv.look];split
  ·rfl
  ·exact ae
 ·exact .inr ae
theorem Z0(H:fh S n g cd lc ca lt){d:Array α}{v v':Nat}{eT:List bV}{Q:aj->cT->Prop}{t:List (Nat×aj)}{D:List aj}{o:List aL}(h:cM ⟨t,(.loc 0,D)::(fq S d v').b,(S d.toList).e,1,o⟩ eT fun r=>aJ (inObs (fq S d v')) r/\Q r (fq S d v')):
  cL eT (fq S d v) Q .ret ⟨t,(.loc 0,D)::(fq S d v').b,(S d.toList).e,1,o⟩:=by
 refine cL.at (fq S d v') (.inl rfl) (oM H d v') (tK _ _ _) (fun k cs ab=>?_) (fun _ _ ao=>ao) h;cases k with
 |loc m=>rw[(oM H d v').obj.1 m]at ab;cases ab
 |obj m=>simpa[Pv.look]using ab
theorem L2(H:fh S n g cd lc ca lt)(ae:te S 901)(d:Array α)(aG:d.size=n)(a b c v:Nat)(bg:a<n)(ad:b<n)(ao:c<n)(az:v<=900):
  bG aw 213 [e7 g cd lc ca,.int .i64 a,.int .i64 b,.int .i64 c,.ptr (.obj 901) 0] (fq S d v) fun r ah=>r= .int .i64 (Sort.median lt d a b c v).1/\ah=fq S d (Sort.median lt d a b c v).2:=by
 have ld:=oM H d v;have sO:∀v m,Pv.look (.loc m) (fq S d v).b=none:=fun v=>(oM H d v).obj.1;have M1:∀v m cs,cB (.loc m) cs (fq S d v).b=(fq S d v).b++[(.loc m,cs)]:=fun v m cs=>kK (sO v m);have mn:aL.loc 0∉c5 (fq S d v):=kD ld.obj 0;obtain⟨R,bH⟩:∃R,R=Sort.median lt d a b c v:=⟨_,rfl⟩;rw[<-bH];unfold Sort.median at bH;have a1:=B4 (lt:=lt) (d:=d) (v:=v) bg ad;have aS:=L5 H ae d aG a b v bg ad Ω;generalize Sort.order2 lt d a b v=eu at a1 aS bH;obtain⟨pV,j6,v1⟩:=eu;simp only at a1 aS bH;have bm:=B4 (lt:=lt) (d:=d) (v:=v1) a1.2.1 ao;have bf:=L5 H ae d aG j6 c v1 a1.2.1 ao Ω;generalize Sort.order2 lt d j6 c v1=fe at bm bf bH;obtain⟨tD,nk,v2⟩:=fe;simp only at bm bf bH;have bW:=B4 (lt:=lt) (d:=d) (v:=v2) a1.1 bm.1;have b4:=L5 H ae d aG pV tD v2 a1.1 bm.1 Ω;generalize Sort.order2 lt d pV tD v2=qs at bW b4 bH;obtain⟨tE,J8,v3⟩:=qs;simp only at bW b4 bH;refine bG.mk mixed o6 afe al5 Ψ ld.obj fun aQ cI=>?_;unfold Sv;simp[e7,M1,mn,cV,sO];simp only[iR H,H.slc,H.ssc,iF];refine X5 aS (oM H d v) (tK _ _ _) (by simp[aJ,aO,(vY H aG).1];exact(vY H aG).2) fun o=>?_;simp[Pv.look];simp only[iR H,H.slc,H.ssc,iF];refine EM bf (oM H d v1) (tK _ _ _) (by simp[aJ,aO,(vY H aG).1];exact(vY H aG).2) fun o=>?_;simp[Pv.look];simp only[iR H,H.slc,H.ssc,iF];refine EM b4 (oM H d v2) (tK _ _ _) (by simp[aJ,aO,(vY H aG).1];exact(vY H aG).2) fun o=>?_;simp;refine Z0 H ?_;simp[cM,Zh,aV,aY,aU];rw[bH];exact⟨rfl,rfl⟩
theorem L3(H:fh S n g cd lc ca lt)(ae:te S 901)(d:Array α)(aG:d.size=n)(a v:Nat)(bg:a+1<n)(lY:1<=a)(az:v<=900):
  bG aw 212 [e7 g cd lc ca,.int .i64 a,.ptr (.obj 901) 0] (fq S d v) fun r ah=>r= .int .i64 (Sort.medianAdjacent lt d a v).1/\ah=fq S d (Sort.medianAdjacent lt d a v).2:=by
 have ld:=oM H d v;have sO:∀v m,Pv.look (.loc m) (fq S d v).b=none:=fun v=>(oM H d v).obj.1;have M1:∀v m cs,cB (.loc m) cs (fq S d v).b=(fq S d v).b++[(.loc m,cs)]:=fun v m cs=>kK (sO v m);have mn:aL.loc 0∉c5 (fq S d v):=kD ld.obj 0;have hle:=H.le;have aS:=L2 H ae d aG (a-1) a (a+1) v Ω Ω Ω az;unfold Sort.medianAdjacent;refine bG.mk mixed o6 afd al4 Ψ ld.obj fun aQ cI=>?_;unfold Su;have aq:((a:Int)-1)=(a-1:Nat):=Ω
 have aF:((a:Int)+1)=(a+1:Nat):=Ω
 simp[e7,M1,mn,cV,sO];(with_reducible repeat' first|refine ak ?_|simp);simp only[iR H,H.slc,H.ssc,iF,aq,aF];refine X5 aS (oM H d v) (tK _ _ _) (by simp[aJ,aO,(vY H aG).1];exact(vY H aG).2) fun o=>?_;simp;refine Z0 H ?_;simp[cM,Zg,aV,aY,aU]
theorem X6{m:Nat}(h:te S m)(l:List α):aL.obj m∉c5 (S l):=fun hm=>by
 rcases Wv hm with J|J
 ·rw[(h l).1]at J;cases J
 ·rw[(h l).2]at J;cases J
theorem EE{d:Array α}{a b c v n:Nat}(bg:a<n)(ad:b<n)(ao:c<n):(Sort.median lt d a b c v).1<n/\(Sort.median lt d a b c v).2<=v+3:=by have a1:=B4 (lt:=lt) (d:=d) (v:=v) bg ad;have bm:=B4 (lt:=lt) (d:=d) (v:=(Sort.order2 lt d a b v).2.2) a1.2.1 ao;have bW:=B4 (lt:=lt) (d:=d) (v:=(Sort.order2 lt d (Sort.order2 lt d a b v).2.1 c (Sort.order2 lt d a b v).2.2).2.2) a1.1 bm.1;refine⟨bW.2.1,ha bW.2.2 ?_⟩;omega
def Bb:Sort.Hint->Int
 | .unknown=>0
 | .increasing=>1
 | .decreasing=>2
theorem agH(H:fh S n g cd lc ca lt)(ae:te S 901)(d:Array α)(aG:d.size=n)(a b:Nat)(oa:a<b)(ad:b<=n):
  bG aw 198 [e7 g cd lc ca,.int .i64 a,.int .i64 b] (S d.toList) fun r ah=>r= .tuple [.int .i64 (Sort.choosePivot lt d a b).1,.int .i64 (Bb (Sort.choosePivot lt d a b).2)]/\ah=S d.toList:=by
 have af:=H.ok d.toList;have av:d.toList.length=n:=by simpa using aG
 have au:∀l m,Pv.look (.loc m) (S l).b=none:=fun l=>(H.ok l).obj.1;have hu:∀l m cs,cB (.loc m) cs (S l).b=(S l).b++[(.loc m,cs)]:=fun l m cs=>kK (au l m);have ay:∀m,aL.loc m∉c5 (S d.toList):=kD af.obj;have gJ:∀l,Pv.look (.obj 901) (S l).b=none:=fun l=>(ae l).1;have jY:∀l,Pv.look (.obj 901) (S l).e=none:=fun l=>(ae l).2;have hle:=H.le;have mn:=X6 ae d.toList;obtain⟨R,bH⟩:∃R,R=Sort.choosePivot lt d a b:=⟨_,rfl⟩;rw[<-bH];unfold Sort.choosePivot at bH;refine bG.mk mixed o6 afb al2 Ψ af.obj fun aQ cI=>?_;unfold Ss;have za:∀l D cs,cB (.obj 901) cs ((S l).b++[(.loc 0,D)])=(S l).b++[(.loc 0,D),(.obj 901,cs)]:=fun l D cs=>by rw[CE (gJ l)];rfl
 obtain⟨q,bE⟩:∃q,q=(b-a)/4:=⟨_,rfl⟩;have ds:nT.wrap (((b:Int)-a).tdiv 4)=(q:Nat):=by rw[show((b:Int)-a)=((b-a:Nat):Int) by omega,Int.tdiv_eq_ediv_of_nonneg Ω,nm _ Ω];omega
 simp[e7,hu,za,ay,mn,cV,au,gJ,jY,Pv.look,cB];have dG:∀(t:List (Nat×aj)) (o:List aL) (b3:List (aL×List aj)) (x:Nat) (h:Sort.Hint),Pv.get 6 t= .int .i64 x->Pv.get 7 t= .int .i64 (Bb h)->R=(x,h)->(∀k cs,Pv.look k (S d.toList).b=some cs->Pv.look k b3=some cs)->
   cL OS (S d.toList) (fun r ah=>r= .tuple [.int .i64 R.1,.int .i64 (Bb R.2)]/\ah=S d.toList) .ret ⟨t,b3,(S d.toList).e,1,o⟩:=by
  rintro t o b3 x h ab aC rfl gd;refine cL.at (S d.toList) (.inl rfl) af (Same.refl _) gd (fun _ _ ao=>ao) ?_;simp[cM,OS,aV,aY,aU,ab,aC]
 have A3:∀(D:List aj) (v:Nat) k cs,Pv.look k (S d.toList).b=some cs->Pv.look k ((.loc 0,D)::(fq S d v).b)=some cs:=fun D v k cs h=>by
  simp only[fq,Pv.look];split
  ·rename_i e;subst e;rw[au]at h;cases h
  ·split
   ·rename_i e;subst e;rw[gJ]at h;cases h
   ·exact h
 have Vv:∀{f:Nat} {args:List aj} {r:aj} {v:Nat},(bG aw f args (fq S d 0) fun eQ du=>eQ=r/\du=fq S d v)->aO (inObs (fq S d 0)) args->∀{t:List (Nat×aj)} {D:List aj} {o:List aL} {cm:Option Nat} {K:bn->Prop},(∀o,K ⟨eS cm r t,(.loc 0,D)::(fq S d v).b,(S d.toList).e,1,o⟩)->
   cQ aw f args ⟨t,(S d.toList).b++[(.loc 0,D),(.obj 901,[.int .i64 0])],(S d.toList).e,1,o⟩ cm K:=by
  intro f args r v aN hJ t D o cm K h;refine cQ.ob aN (oM H d 0) (fun k cs ab=>?_) (fun _ _ ab=>ab) hJ ?_
  ·simp only[fq,Pv.look]at ab;rw[cV];split at ab
   ·rename_i e;subst e;rw[gJ];simp[Pv.look];simpa using ab
   ·rw[ab]
  rintro r ah ⟨rfl,rfl⟩;refine⟨tK _ _ _,?_⟩;have aq:cb (fq S d 0).b ((S d.toList).b++[(.loc 0,D),(.obj 901,[.int .i64 0])])=[(.loc 0,D)]:=by
   rw[jg];have:cb (fq S d 0).b (S d.toList).b=[]:=QA _ _ fun k x hm=>by
    have:=wb hm;simp only[fq,Pv.look];split
    ·rfl
    ·exact this
   rw[this];simp[cb,fq,Pv.look,au]
  have aF:cb (fq S d 0).e (S d.toList).e=[]:=ht _;simp only[aq,aF];exact h _
 have hJ:=fun(v:Nat)=>(vY H aG (v:=v));have f1:((a:Int)+q)=(a+q:Nat):=Ω
 have f2:((a:Int)+q*2)=(a+q*2:Nat):=Ω
 have f3:((a:Int)+q*3)=(a+q*3:Nat):=Ω
 dsimp only at bH;rw[<-bE,Nat.mul_one]at bH;by_cases jD:b-a<8
 ·have Ha:¬(8:Int)<=(b:Int)-a:=Ω
  (with_reducible repeat' first|refine ak ?_|simp[Ha,ds,hu,za,ay,mn,cV,au,gJ,jY,Pv.look,cB]);rw[f2];refine dG _ _ _ (a+q*2) .increasing rfl rfl (by rw[bH,if_neg Ω];simp) (fun k cs h=>by rw[cV,h])
 ·have Ha:(8:Int)<=(b:Int)-a:=Ω
  by_cases asz:b-a<50
  ·have L9:¬(50:Int)<=(b:Int)-a:=Ω
   (with_reducible repeat' first|refine ak ?_|simp[Ha,L9,ds,hu,za,ay,mn,cV,au,gJ,jY,Pv.look,cB]);simp only[iR H,H.slc,H.ssc,iF,f1,f2,f3];have aS:=L2 H ae d aG (a+q) (a+q*2) (a+q*3) 0 Ω Ω Ω Ω;have bf:=EE (lt:=lt) (d:=d) (a:=a+q) (b:=a+q*2) (c:=a+q*3) (v:=0) (n:=n) Ω Ω Ω;rw[if_pos Ω,if_neg Ω]at bH;generalize Sort.median lt d (a+q) (a+q*2) (a+q*3) 0=m at aS bf bH;obtain⟨x,v⟩:=m;refine Vv aS (by simp[aJ,aO,(hJ 0).1];exact(hJ 0).2) fun o=>?_;have zb:((v:Int)==0)=decide (v=0):=by rw[qz];simp
   have D7:((v:Int)==12)=decide (v=12):=by rw[qz];simp;omega
   simp[Pv.look,fq];rcases(by omega:v=0\/v=12\/(v≠0/\v≠12))with bz|bz|bz
   ·have ab:((v:Int)==0)=true:=by rw[zb];simp[bz]
    (with_reducible repeat' first|refine ak ?_|simp[ab]);all_goals exact dG _ _ _ x .increasing rfl rfl (by rw[bH];simp[bz]) (A3 _ v)
   ·have ab:((v:Int)==0)=false:=by rw[zb];simp[bz]
    have oZ:((v:Int)==12)=true:=by rw[D7];simp[bz]
    (with_reducible repeat' first|refine ak ?_|simp[ab,oZ]);all_goals exact dG _ _ _ x .decreasing rfl rfl (by rw[bH];simp[bz]) (A3 _ v)
   ·have ab:((v:Int)==0)=false:=by rw[zb];simp[bz.1]
    have oZ:((v:Int)==12)=false:=by rw[D7];simp[bz.2]
    (with_reducible repeat' first|refine ak ?_|simp[ab,oZ]);all_goals exact dG _ _ _ x .unknown rfl rfl (by rw[bH];simp[bz]) (A3 _ v)
  ·have L9:(50:Int)<=(b:Int)-a:=Ω
   (with_reducible repeat' first|refine ak ?_|simp[Ha,L9,ds,hu,za,ay,mn,cV,au,gJ,jY,Pv.look,cB]);simp only[iR H,H.slc,H.ssc,iF,f1,f2,f3];rw[if_pos Ω,if_pos Ω]at bH;have aS:=L3 H ae d aG (a+q) 0 Ω Ω Ω;have Ek:=EE (lt:=lt) (d:=d) (a:=a+q-1) (b:=a+q) (c:=a+q+1) (v:=0) (n:=n) Ω Ω Ω;change (Sort.medianAdjacent lt d (a+q) 0).1<n/\(Sort.medianAdjacent lt d (a+q) 0).2<=0+3 at Ek;generalize Sort.medianAdjacent lt d (a+q) 0=m1 at aS Ek bH;obtain⟨pV,v1⟩:=m1;simp only at aS Ek bH;have bf:=L3 H ae d aG (a+q*2) v1 Ω Ω Ω;have El:=EE (lt:=lt) (d:=d) (a:=a+q*2-1) (b:=a+q*2) (c:=a+q*2+1) (v:=v1) (n:=n) Ω Ω Ω;change (Sort.medianAdjacent lt d (a+q*2) v1).1<n/\(Sort.medianAdjacent lt d (a+q*2) v1).2<=v1+3 at El;generalize Sort.medianAdjacent lt d (a+q*2) v1=m2 at bf El bH;obtain⟨tD,v2⟩:=m2;simp only at bf El bH;have b4:=L3 H ae d aG (a+q*3) v2 Ω Ω Ω;have Em:=EE (lt:=lt) (d:=d) (a:=a+q*3-1) (b:=a+q*3) (c:=a+q*3+1) (v:=v2) (n:=n) Ω Ω Ω;change (Sort.medianAdjacent lt d (a+q*3) v2).1<n/\(Sort.medianAdjacent lt d (a+q*3) v2).2<=v2+3 at Em;generalize Sort.medianAdjacent lt d (a+q*3) v2=m3 at b4 Em bH;obtain⟨tE,v3⟩:=m3;simp only at b4 Em bH;have ep:=L2 H ae d aG pV tD tE v3 Ek.1 El.1 Em.1 Ω;have WS:=EE (lt:=lt) (d:=d) (v:=v3) Ek.1 El.1 Em.1;generalize Sort.median lt d pV tD tE v3=m4 at ep WS bH;obtain⟨x,v⟩:=m4;simp only at ep WS bH;refine Vv aS (by simp[aJ,aO,(hJ 0).1];exact(hJ 0).2) fun o=>?_;simp[Pv.look];simp only[iR H,H.slc,H.ssc,iF,f1,f2,f3];refine EM bf (oM H d v1) (tK _ _ _) (by simp[aJ,aO,(hJ v1).1];exact(hJ v1).2) fun o=>?_;simp[Pv.look];simp only[iR H,H.slc,H.ssc,iF,f1,f2,f3];refine EM b4 (oM H d v2) (tK _ _ _) (by simp[aJ,aO,(hJ v2).1];exact(hJ v2).2) fun o=>?_;simp[Pv.look];simp only[iR H,H.slc,H.ssc,iF,f1,f2,f3];refine EM ep (oM H d v3) (tK _ _ _) (by simp[aJ,aO,(hJ v3).1];exact(hJ v3).2) fun o=>?_;have zb:((v:Int)==0)=decide (v=0):=by rw[qz];simp
   have D7:((v:Int)==12)=decide (v=12):=by rw[qz];simp;omega
   simp[Pv.look,fq];rcases(by omega:v=0\/v=12\/(v≠0/\v≠12))with bz|bz|bz
   ·have ab:((v:Int)==0)=true:=by rw[zb];simp[bz]
    (with_reducible repeat' first|refine ak ?_|simp[ab]);all_goals exact dG _ _ _ x .increasing rfl rfl (by rw[bH];simp[bz]) (A3 _ v)
   ·have ab:((v:Int)==0)=false:=by rw[zb];simp[bz]
    have oZ:((v:Int)==12)=true:=by rw[D7];simp[bz]
    (with_reducible repeat' first|refine ak ?_|simp[ab,oZ]);all_goals exact dG _ _ _ x .decreasing rfl rfl (by rw[bH];simp[bz]) (A3 _ v)
   ·have ab:((v:Int)==0)=false:=by rw[zb];simp[bz.1]
    have oZ:((v:Int)==12)=false:=by rw[D7];simp[bz.2]
    (with_reducible repeat' first|refine ak ?_|simp[ab,oZ]);all_goals exact dG _ _ _ x .unknown rfl rfl (by rw[bH];simp[bz]) (A3 _ v)
end
section
open Go Go.Pv
variable {α:Type} [Inhabited α] {S:List α->cT} {n g cd:Nat} {lc ca:List aj} {lt:α->α->Bool}
theorem apn:∀x:Nat,x<256->((([0,1,2,2,3,3,3,3,4,4,4,4,4,4,4,4,5,5,5,5,5,5,5,5,5,5,5,5,5,5,5,5,6,6,6,6,6,6,6,6,6,6,6,6,6,6,6,6,6,6,6,6,6,6,6,6,6,6,6,6,6,6,6,6,7,7,7,7,7,7,7,7,7,7,7,7,7,7,7,7,7,7,7,7,7,7,7,7,7,7,7,7,7,7,7,7,7,7,7,7,7,7,7,7,7,7,7,7,7,7,7,7,7,7,7,7,7,7,7,7,7,7,7,7,7,7,7,7,8,8,8,8,8,8,8,8,8,8,8,8,8,8,8,8,8,8,8,8,8,8,8,8,8,8,8,8,8,8,8,8,8,8,8,8,8,8,8,8,8,8,8,8,8,8,8,8,8,8,8,8,8,8,8,8,8,8,8,8,8,8,8,8,8,8,8,8,8,8,8,8,8,8,8,8,8,8,8,8,8,8,8,8,8,8,8,8,8,8,8,8,8,8,8,8,8,8,8,8,8,8,8,8,8,8,8,8,8,8,8,8,8,8,8,8,8,8,8,8,8,8,8,8,8,8,8,8]:List UInt8)[x]?).getD 0).toNat=Sort.bitsLen x:=by decide+kernel
theorem Dq(x:Int):x.fdiv (2 ^ (min 32 hG.bits))=x/4294967296:=by rw[show(2:Int) ^ (min 32 hG.bits)=4294967296 from by decide,Int.fdiv_eq_ediv_of_nonneg _ Ω]
theorem Dp(x:Int):x.fdiv (2 ^ (min 16 hG.bits))=x/65536:=by rw[show(2:Int) ^ (min 16 hG.bits)=65536 from by decide,Int.fdiv_eq_ediv_of_nonneg _ Ω]
theorem Dr(x:Int):x.fdiv (2 ^ (min 8 hG.bits))=x/256:=by rw[show(2:Int) ^ (min 8 hG.bits)=256 from by decide,Int.fdiv_eq_ediv_of_nonneg _ Ω]
theorem FB(x:Nat)(h:x<256):IntKind.u8.wrap (x:Int)=x:=by simp[tF,oH,sc];omega
theorem KF(x k:Nat)(h:2 ^ k<=x):Sort.bitsLen x=Sort.bitsLen (x/2 ^ k)+k:=by
 have ab:x≠0:=by have:=Nat.two_pow_pos k;omega
 have bE:x/2 ^ k≠0:=by have:=Nat.div_pos h (Nat.two_pow_pos k);omega
 unfold Sort.bitsLen;rw[if_neg ab,if_neg bE];have av:=Nat.log2_lt ab (k:=Nat.log2 (x/2 ^ k)+k+1);have J:Nat.log2 (x/2 ^ k)+k<=Nat.log2 x:=by
  rw[Nat.le_log2 ab,Nat.pow_add];have:=Nat.log2_self_le bE;calc 2 ^ (x/2 ^ k).log2*2 ^ k<=(x/2 ^ k)*2 ^ k:=rh _ this
   _<=x:=Nat.div_mul_le_self x _
 have U:Nat.log2 x<Nat.log2 (x/2 ^ k)+k+1:=by rw[av,show Nat.log2 (x/2 ^ k)+k+1=(Nat.log2 (x/2 ^ k)+1)+k by omega,Nat.pow_add];have:=Nat.lt_log2_self (n:=x/2 ^ k);exact(Nat.div_lt_iff_lt_mul (Nat.two_pow_pos k)).1 this
 omega
set_option maxRecDepth 20000 in
theorem apU(x:Nat)(ab:x<1099511627776):bK aw 195 [.int .u64 x] (.int .i64 (Sort.bitsLen x)):=by
 refine bK.mk mixed o6 ae8 alZ Ψ d6 fun aQ=>?_;unfold Sp;have aI:=apn;generalize Vm:([0,1,2,2,3,3,3,3,4,4,4,4,4,4,4,4,5,5,5,5,5,5,5,5,5,5,5,5,5,5,5,5,6,6,6,6,6,6,6,6,6,6,6,6,6,6,6,6,6,6,6,6,6,6,6,6,6,6,6,6,6,6,6,6,7,7,7,7,7,7,7,7,7,7,7,7,7,7,7,7,7,7,7,7,7,7,7,7,7,7,7,7,7,7,7,7,7,7,7,7,7,7,7,7,7,7,7,7,7,7,7,7,7,7,7,7,7,7,7,7,7,7,7,7,7,7,7,7,8,8,8,8,8,8,8,8,8,8,8,8,8,8,8,8,8,8,8,8,8,8,8,8,8,8,8,8,8,8,8,8,8,8,8,8,8,8,8,8,8,8,8,8,8,8,8,8,8,8,8,8,8,8,8,8,8,8,8,8,8,8,8,8,8,8,8,8,8,8,8,8,8,8,8,8,8,8,8,8,8,8,8,8,8,8,8,8,8,8,8,8,8,8,8,8,8,8,8,8,8,8,8,8,8,8,8,8,8,8,8,8,8,8,8,8,8,8,8,8,8,8,8,8,8,8,8,8]:List UInt8)=tab at aI⊢;have A1:tab.length=256:=by rw[<-Vm];rfl
 clear Vm;simp[A1];have ad:∀y:Nat,y<256->Sort.bitsLen y<=8:=by decide+kernel
 have aiY:4294967296<=x->Sort.bitsLen x=Sort.bitsLen (x/4294967296)+32:=fun h=>KF x 32 h;have Wc:∀y,65536<=y->Sort.bitsLen y=Sort.bitsLen (y/65536)+16:=fun y h=>KF y 16 h;have Wf:∀y,256<=y->Sort.bitsLen y=Sort.bitsLen (y/256)+8:=fun y h=>KF y 8 h;by_cases J:4294967296<=x
 ·have oT:(4294967296:Int)<=x:=Ω
  have g1:¬(65536:Int)<=(x:Int)/4294967296:=Ω
  have g3:¬(256:Int)<=(x:Int)/4294967296:=Ω
  (with_reducible repeat' first|refine ak ?_|simp[oT,g1,g3,Dq,Dp,Dr,A1]);have aC:x/4294967296<256:=Ω
  have kr:=ad _ aC;have eP:(x:Int)/4294967296=((x/4294967296:Nat):Int):=Ω
  rw[eP,FB _ aC,Int.toNat_natCast];refine⟨Ω,?_⟩;have e:=aI _ aC;rw[e,nm _ Ω];refine⟨by unfold pJ;omega,?_⟩;simp[bp,Cf,aV,aY,aU];try((rw[aiY J])<;>omega)
 ·have oT:¬(4294967296:Int)<=x:=Ω
  by_cases U:65536<=x
  ·have g2:(65536:Int)<=x:=Ω
   by_cases h3:256<=x/65536
   ·have g3:(256:Int)<=(x:Int)/65536:=Ω
    (with_reducible repeat' first|refine ak ?_|simp[oT,g2,g3,Dq,Dp,Dr,A1]);have aC:x/65536/256<256:=Ω
    have kr:=ad _ aC;have eP:(x:Int)/65536/256=((x/65536/256:Nat):Int):=Ω
    rw[eP,FB _ aC,Int.toNat_natCast];refine⟨Ω,?_⟩;have e:=aI _ aC;rw[e,nm _ Ω];refine⟨by unfold pJ;omega,?_⟩;simp[bp,Cf,aV,aY,aU];try((rw[Wc x U,Wf _ h3])<;>omega)
   ·have g3:¬(256:Int)<=(x:Int)/65536:=Ω
    (with_reducible repeat' first|refine ak ?_|simp[oT,g2,g3,Dq,Dp,Dr,A1]);have aC:x/65536<256:=Ω
    have kr:=ad _ aC;have eP:(x:Int)/65536=((x/65536:Nat):Int):=Ω
    rw[eP,FB _ aC,Int.toNat_natCast];refine⟨Ω,?_⟩;have e:=aI _ aC;rw[e,nm _ Ω];refine⟨by unfold pJ;omega,?_⟩;simp[bp,Cf,aV,aY,aU];try((rw[Wc x U])<;>omega)
  ·have g2:¬(65536:Int)<=x:=Ω
   by_cases h3:256<=x
   ·have g3:(256:Int)<=x:=Ω
    (with_reducible repeat' first|refine ak ?_|simp[oT,g2,g3,Dq,Dp,Dr,A1]);have aC:x/256<256:=Ω
    have kr:=ad _ aC;have eP:(x:Int)/256=((x/256:Nat):Int):=Ω
    rw[eP,FB _ aC,Int.toNat_natCast];refine⟨Ω,?_⟩;have e:=aI _ aC;rw[e,nm _ Ω];refine⟨by unfold pJ;omega,?_⟩;simp[bp,Cf,aV,aY,aU];try((rw[Wf x h3])<;>omega)
   ·have g3:¬(256:Int)<=x:=Ω
    (with_reducible repeat' first|refine ak ?_|simp[oT,g2,g3,Dq,Dp,Dr,A1]);have aC:x<256:=Ω
    have kr:=ad _ aC;have eP:(x:Int)=((x:Nat):Int):=Ω
    rw[eP,FB _ aC,Int.toNat_natCast];refine⟨Ω,?_⟩;have e:=aI _ aC;rw[e,nm _ Ω];refine⟨by unfold pJ;omega,?_⟩;simp[bp,Cf,aV,aY,aU];try((rw[show Sort.bitsLen x=Sort.bitsLen x from rfl])<;>omega)
theorem apT(x:Nat)(ab:x<1099511627776):bK aw 169 [.int .u64 x] (.int .i64 (Sort.bitsLen x)):=by refine bK.mk mixed o6 ae7 alY Ψ d6 fun aQ=>?_;unfold Sn;have Ny:=apU x ab;exact cz
theorem acN(x:Nat)(ab:x<1099511627776):Sort.bitsLen x<=40:=by
 unfold Sort.bitsLen;split
 ·omega
 ·rename_i h;have:=(Nat.log2_lt h (k:=40)).2 Ω;omega
theorem apv{x:Nat}(h:x≠0):2 ^ Sort.bitsLen x<=2*x/\x<2 ^ Sort.bitsLen x:=by unfold Sort.bitsLen;rw[if_neg h];have J:=Nat.log2_self_le h;have U:=Nat.lt_log2_self (n:=x);rw[Nat.pow_succ];rw[Nat.pow_succ]at U;omega
theorem aqw(x:Nat)(ab:x<1099511627776):bK aw 210 [.int .i64 x] (.int .u64 (1<<<Sort.bitsLen x:Nat)):=by
 have ad:=acN x ab;have aq:hG.wrap ((x:Nat):Int)=x:=by simp[tF,oH,sc];omega
 have aF:hG.wrap ((Sort.bitsLen x:Nat):Int)=Sort.bitsLen x:=by simp[tF,oH,sc];omega
 refine bK.mk mixed o6 aff al6 Ψ d6 fun aQ=>?_;unfold Sw;simp[aq];refine cQ.val Ψ (apT x ab) ?_;simp[aq,aF];simp[bp,Zi,aV,aY,aU];have hm:min (Sort.bitsLen x) hG.bits=Sort.bitsLen x:=by simp[oH];omega
 have bF:2 ^ Sort.bitsLen x<=2 ^ 40:=Nat.pow_le_pow_right Ω ad;rw[hm];have ao:((2:Int) ^ Sort.bitsLen x)=((2 ^ Sort.bitsLen x:Nat):Int):=by simp
 have vB:((1<<<Sort.bitsLen x:Nat):Int)=((2 ^ Sort.bitsLen x:Nat):Int):=by rw[Nat.one_shiftLeft]
 have ub:hG.wrap ((2:Int) ^ Sort.bitsLen x)=((1<<<Sort.bitsLen x:Nat):Int):=by rw[ao,vB];generalize 2 ^ Sort.bitsLen x=y at bF;simp[tF,oH,sc];omega
 simpa using ub
def nW(r:Nat):cT:=⟨[(.obj 902,[.int .u64 r])],[]⟩
theorem Kl(r:Nat):dP (nW r):=by unfold nW;exact(dP.of ⟨by intro m;simp[Pv.look],by intro m;simp[Pv.look]⟩ f8 f8)
theorem QT(a b:Nat):Same (nW a) (nW b):=⟨fun k=>by simp only[nW,Pv.look];split<;>rfl,fun _=>rfl⟩
theorem KH(a b:Nat)(bg:a<18446744073709551616)(ad:b<18446744073709551616):hG.wrap ((mF hG.bits (a:Int) ^^^ mF hG.bits (b:Int)).toNat:Int)=(a ^^^ b:Nat):=by
 have h3:a ^^^ b<18446744073709551616:=Nat.xor_lt_two_pow (n:=64) bg ad;have e:(mF hG.bits (a:Int) ^^^ mF hG.bits (b:Int)).toNat=a ^^^ b:=by
  rw[BitVec.toNat_xor,BitVec.toNat_ofInt,BitVec.toNat_ofInt];have aq:((a:Int)%(2 ^ hG.bits:Nat)).toNat=a:=by simp[oH];omega
  have aF:((b:Int)%(2 ^ hG.bits:Nat)).toNat=b:=by simp[oH];omega
  rw[aq,aF]
 rw[e];generalize a ^^^ b=c at h3;simp[tF,oH,sc];omega
theorem aoN(r:Nat):hG.wrap ((r:Int)*2 ^ (min 13 hG.bits))=(r*8192%18446744073709551616:Nat):=by simp[tF,oH,sc]
theorem aoO(r:Nat):hG.wrap ((r:Int)*2 ^ (min 17 hG.bits))=(r*131072%18446744073709551616:Nat):=by simp[tF,oH,sc]
theorem aoP(r:Nat):((r:Int)).fdiv (2 ^ (min 7 hG.bits))=(r/128:Nat):=by rw[show(2:Int) ^ (min 7 hG.bits)=128 from by decide,Int.fdiv_eq_ediv_of_nonneg _ Ω];omega
theorem agB(r:Nat)(aM:r<18446744073709551616):bG aw 211 [.ptr (.obj 902) 0] (nW r) fun eQ ah=>eQ= .int .u64 (Sort.xorNextN r)/\ah=nW (Sort.xorNextN r):=by
 have af:=Kl r;unfold nW at af⊢;refine bG.mk mixed o6 afr ami Ψ af.obj fun aQ cI=>?_;unfold SI;obtain⟨m1,VU⟩:∃m,m=r*8192%18446744073709551616:=⟨_,rfl⟩;have s1:=aoN r;rw[<-VU]at s1;have ky:m1<18446744073709551616:=Ω
 obtain⟨bA,lY⟩:∃m,m=r ^^^ m1:=⟨_,rfl⟩;have t1:=KH r m1 aM ky;rw[<-lY]at t1;have Xe:bA<18446744073709551616:=by rw[lY];exact Nat.xor_lt_two_pow (n:=64) aM ky
 obtain⟨m2,Hv⟩:∃m,m=bA/128:=⟨_,rfl⟩;have s2:=aoP bA;rw[<-Hv]at s2;have hr:m2<18446744073709551616:=Ω
 obtain⟨a2,qL⟩:∃m,m=bA ^^^ m2:=⟨_,rfl⟩;have t2:=KH bA m2 Xe hr;rw[<-qL]at t2;have ake:a2<18446744073709551616:=by rw[qL];exact Nat.xor_lt_two_pow (n:=64) Xe hr
 obtain⟨m3,VV⟩:∃m,m=a2*131072%18446744073709551616:=⟨_,rfl⟩;have s3:=aoO a2;rw[<-VV]at s3;have akd:m3<18446744073709551616:=Ω
 obtain⟨a3,Hd⟩:∃m,m=a2 ^^^ m3:=⟨_,rfl⟩;have t3:=KH a2 m3 ake akd;rw[<-Hd]at t3;have bH:Sort.xorNextN r=a3:=by unfold Sort.xorNextN;simp only[<-VU,<-lY,<-Hv,<-qL,<-VV,<-Hd]
 rw[bH];simp[-BitVec.toNat_xor,-BitVec.ofInt_natCast,s1,t1,s2,t2,s3,t3];have h4:=Kl a3;have h5:=QT r a3;unfold nW at h4 h5;refine cL.at _ (.inl rfl) h4 h5 aH aH ?_;simp[cM,Zl,aV,aY,aU]
end
section
open Go Go.Pv
variable {α:Type} [Inhabited α] {S:List α->cT} {n g cd:Nat} {lc ca:List aj} {lt:α->α->Bool}
theorem acI(a b:Nat)(bg:a<18446744073709551616)(ad:b<18446744073709551616):hG.wrap ((mF hG.bits (a:Int)&&& mF hG.bits (b:Int)).toNat:Int)=(a&&& b:Nat):=by
 have h3:a&&& b<18446744073709551616:=Nat.lt_of_le_of_lt Nat.and_le_left bg;have e:(mF hG.bits (a:Int)&&& mF hG.bits (b:Int)).toNat=a&&& b:=by
  rw[BitVec.toNat_and,BitVec.toNat_ofInt,BitVec.toNat_ofInt];have aq:((a:Int)%(2 ^ hG.bits:Nat)).toNat=a:=by simp[oH];omega
  have aF:((b:Int)%(2 ^ hG.bits:Nat)).toNat=b:=by simp[oH];omega
  rw[aq,aF]
 rw[e];generalize a&&& b=c at h3;simp[tF,oH,sc];omega
def Aw(a len M i0:Nat)(d:Array α):Nat->UInt64×Array α
 |0=>(UInt64.ofNat len,d)
 |k+1=>Sort.breakStep a len M (Aw a len M i0 d k) (i0+k)
theorem acQ(d:Array α)(a b:Nat)(h:8<=b-a):Sort.breakPatterns d a b=(Aw a (b-a) (1<<<Sort.bitsLen (b-a)) (a+(b-a)/4*2-1) d 3).2:=by unfold Sort.breakPatterns;simp only[if_pos h,Aw];rfl
theorem abw{ob O:List aL}{ah:cT}(fX:dP ah)(dn:∀k,inObs ah k->k∈O)(vL:∀k∈ob,k∈O){st:bn}{du:List (Nat×aj)}{L:List (aL×List aj)}{n:Nat}(aI:∀x∈du,Pv.get x.1 st.t=x.2/\aJ (mZ ah n) x.2)(ft:∀x∈L,Pv.look x.1 st.b=some x.2/\mZ ah n x.1/\aO (mZ ah n) x.2)
  (ad:∀k cs,Pv.look k ah.b=some cs->Pv.look k st.b=some cs) (he:∀k o,Pv.look k ah.e=some o->Pv.look k st.e=some o):jn ob st ⟨du,L++ah.b,ah.e,n,O⟩:=by
 have mQ:∀{k},mZ ah n k->¬fresh n O k:=by
  rintro k (h|⟨m,hm,rfl⟩)
  ·exact fun aN=>aN.2 (dn k h)
  ·intro aN;have:=aN.1;simp at this;omega
 refine⟨fun x ab=>⟨(aI x ab).1,xC (fun k ae=>mQ ae) _ (aI x ab).2⟩,fun k cs ae=>?_,fun k o ay=>?_,vL⟩
 ·simp only at ae;rw[cV]at ae;cases av:Pv.look k L with
  |some x=>rw[av]at ae;simp only[dE]at ae;subst ae;obtain⟨J,U,h3⟩:=ft _ (uH av);exact⟨J,mQ U,ki (fun k ae=>mQ ae) _ h3⟩
  |none=>rw[av]at ae;exact⟨ad k cs ae,mQ (.inl (.inl (by simp[ae]))),ki (fun k ae=>mQ (.inl ae)) _ (fX.kb k cs ae)⟩
 ·exact⟨he k o ay,mQ (.inl (.inr (by simp at ay;simp[ay]))),fun xs ab=>ki (fun k ae=>mQ (.inl ae)) _ (fX.ke k o ay xs ab)⟩
theorem Qz{aq0 β:Type}(s:List (aL×β)):∀(l:List (aL×aq0)),(∀k x,(k,x)∈l->Pv.look k s=none)->cb s l=l
 |[],_=>rfl
 |(k,x)::r,h=>by have J:=h k x Ψ;simp only[cb,J];rw[Qz s r fun k x ab=>h k x (by simp[ab])]
def jS(S:List α->cT)(d:Array α)(r:Nat):cT:=⟨(.obj 902,[.int .u64 r])::(S d.toList).b,(S d.toList).e⟩
theorem F7(H:fh S n g cd lc ca lt)(d:Array α)(v:Nat):dP (jS S d v):=by
 have h:=H.ok d.toList;have gU:∀k,inObs (S d.toList) k->inObs (jS S d v) k:=fun k ae=>by
  rcases ae with ae|ae
  ·refine .inl ?_;simp only[jS,Pv.look];split
   ·rfl
   ·exact ae
  ·exact .inr ae
 refine⟨⟨fun m=>?_,h.obj.2⟩,fun k cs ae=>?_,fun k o ay xs ab=>ki gU _ (h.ke k o ay xs ab)⟩
 ·simp[jS,Pv.look,h.obj.1 m]
 ·simp only[jS,Pv.look]at ae;split at ae
  ·cases ae;simp[aO,aJ]
  ·exact ki gU _ (h.kb k cs ae)
theorem abv{ob O:List aL}{d2:Array α}{y:Nat}{D:List aj}(fX:dP (jS S d2 y))(dn:∀k,inObs (jS S d2 y) k->k∈O)(vL:∀k∈ob,k∈O){st:bn}{du:List (Nat×aj)}(aI:∀x∈du,Pv.get x.1 st.t=x.2/\aJ (mZ (jS S d2 y) 1) x.2)(bz:Pv.look (.loc 0) st.b=some D)(sC:aO (mZ (jS S d2 y) 1) D)
  (ad:∀k cs,Pv.look k (jS S d2 y).b=some cs->Pv.look k st.b=some cs) (he:∀k o,Pv.look k (jS S d2 y).e=some o->Pv.look k st.e=some o):jn ob st ⟨du,(.loc 0,D)::(.obj 902,[.int .u64 y])::(S d2.toList).b,(S d2.toList).e,1,O⟩:=
 abw (L:=[(.loc 0,D)]) fX dn vL aI (fun x ab=>by simp only[iS]at ab;subst ab;exact⟨bz,X3 _ _ _ Ω,sC⟩) ad he
theorem agG(H:fh S n g cd lc ca lt)(ae:te S 902)(d:Array α)(aG:d.size=n)(a b:Nat)(oa:a<=b)(ad:b<=n)(jD:8<=b-a):
  bG aw 197 [e7 g cd lc ca,.int .i64 a,.int .i64 b] (S d.toList) fun r ah=>r= .tuple []/\∃cm,ah=S cm.toList/\cm=Sort.breakPatterns d a b/\cm.size=n:=by
 have af:=H.ok d.toList;have av:d.toList.length=n:=by simpa using aG
 have au:∀l m,Pv.look (.loc m) (S l).b=none:=fun l=>(H.ok l).obj.1;have hu:∀l m cs,cB (.loc m) cs (S l).b=(S l).b++[(.loc m,cs)]:=fun l m cs=>kK (au l m);have ay:∀m,aL.loc m∉c5 (S d.toList):=kD af.obj;have gJ:∀l,Pv.look (.obj 902) (S l).b=none:=fun l=>(ae l).1;have jY:∀l,Pv.look (.obj 902) (S l).e=none:=fun l=>(ae l).2;have hle:=H.le;have mn:=X6 ae d.toList;rw[acQ d a b jD];obtain⟨len,hlen⟩:∃len,len=b-a:=⟨_,rfl⟩;rw[<-hlen];obtain⟨M,fu⟩:∃M,M=1<<<Sort.bitsLen len:=⟨_,rfl⟩;rw[<-fu];have asA:len<M/\M<=2*len:=by have:=apv (x:=len) Ω;rw[fu,Nat.one_shiftLeft];omega
 obtain⟨q,bE⟩:∃q,q=len/4:=⟨_,rfl⟩;rw[<-bE];have za:∀l D cs,cB (.obj 902) cs ((S l).b++[(.loc 0,D)])=(S l).b++[(.loc 0,D),(.obj 902,cs)]:=fun l D cs=>by rw[CE (gJ l)];rfl
 have Wl:∀l D x y,cB (.obj 902) y ((S l).b++[(.loc 0,D),(.obj 902,x)])=(S l).b++[(.loc 0,D),(.obj 902,y)]:=fun l D x y=>by rw[CE (gJ l)];simp[cB]
 have el:((b:Int)-a)=(len:Nat):=Ω
 have ds:nT.wrap ((len:Int).tdiv 4)=(q:Nat):=by rw[Int.tdiv_eq_ediv_of_nonneg Ω,nm _ Ω];omega
 have ew:hG.wrap (len:Int)=len:=by simp[tF,oH,sc];omega
 refine bG.mk mixed o6 afa al1 Ψ af.obj fun aQ cI=>?_;unfold Sr;have kc:=aqw len Ω;rw[<-fu]at kc;simp[e7,hu,za,Wl,ay,mn,cV,au,gJ,jY,Pv.look,cB,el,ew];have ie:nT.wrap ((len:Int)/4)=(q:Nat):=by rw[nm _ Ω];omega
 ((with_reducible repeat' first|refine ak ?_|refine aA kc ?_|refine aB kc ?_|simp[el,ew,ds,ie,hu,za,Wl,ay,mn,cV,au,gJ,jY,Pv.look,cB]|((first|apply bJ|apply bM|apply bL)<;>intro h<;>try simp at h))<;>(try exact ck));obtain⟨i0,DR⟩:∃i0,i0=a+q*2-1:=⟨_,rfl⟩;rw[<-DR];have ade:((a:Int)+q*2-1)=(i0:Nat):=Ω
 rw[ade];have dn:∀(ct:Array α) r k,inObs (jS S ct r) k->ct.size=n->k∈aL.obj 902::c5 (S d.toList):=fun ct r k h fc=>by
  have ea:=H.same d.toList ct.toList av (by simpa using fc);rcases h with h|h
  ·simp only[jS,Pv.look]at h;split at h
   ·rename_i e;subst e;simp
   ·exact pd _ (uQ (.inl (by rw[ea.b];exact h)))
  ·exact pd _ (uQ (.inr (by rw[ea.e];exact h)))
 have y0:∀(ct:Array α) r,ct.size=n->aO (mZ (jS S ct r) 1) [.func g lc,.func cd ca]:=fun ct r fc=>by
  have J:=H.kdata (lk:=ct.toList) (by simpa using fc);have U:aO (inObs (S ct.toList)) [.func g lc,.func cd ca]:=by simpa[e7,aJ,aO]using J
  refine ki (fun k ae=>.inl ?_) _ U;rcases ae with ae|ae
  ·refine .inl ?_;simp only[jS,Pv.look];split
   ·rfl
   ·exact ae
  ·exact .inr ae
 have asO:∀(ct:Array α) r D k cs,Pv.look k (jS S ct r).b=some cs->Pv.look k ((.loc 0,D)::(jS S ct r).b)=some cs:=fun ct r D k cs h=>by
  cases k with
  |loc m=>rw[(F7 H ct r).obj.1 m]at h;cases h
  |obj m=>simpa[Pv.look]using h
 refine n2 (fun(x:Nat×UInt64×Array α)=>⟨[(1,.int .i64 a),(3,.ptr (.loc 0) 0),(6,.int .i64 len),(7,.ptr (.obj 902) 0),(8,.int .u64 M),(9,.int .i64 ((i0+x.1:Nat):Int))],[(.loc 0,[.func g lc,.func cd ca])]++(jS S x.2.2 x.2.1.toNat).b,(jS S x.2.2 x.2.1.toNat).e,1,aL.obj 902::c5 (S d.toList)⟩) (fun x=>3-x.1)
  (fun x=>x.1<=3/\x.2.2.size=n/\Aw a len M i0 d x.1=x.2) (0,UInt64.ofNat len,d) ?_ ⟨Ψ,aG,rfl⟩ ?_
 ·refine abw (F7 H d _) (fun k h=>dn d _ k h aG) (fun k h=>pd _ h) (by simp[aJ,inObs,jS,Pv.look,mZ]) ?_ ?_ aH
  ·intro x ab;simp only[iS]at ab;subst ab;exact⟨by simp[cV,au,Pv.look],X3 _ _ _ Ω,y0 d _ aG⟩
  ·intro k cs h;simp only[jS,Pv.look]at h;rw[cV];split at h
   ·rename_i e;subst e;rw[gJ];have:(UInt64.ofNat len).toNat=len:=by simp;omega
    rw[this]at h;simpa[Pv.look]using h
   ·rw[h]
 rintro⟨k,r,ct⟩ ⟨aS,bf,b4⟩ _;simp only at aS bf b4;have aM:=r.toNat_lt;obtain⟨x,ab⟩:∃x,x=r.toNat:=⟨_,rfl⟩;rw[<-ab]at aM⊢;have gK:Sort.xorNextN x<18446744073709551616:=Sort.xorNextN_lt x Ω;have xo:(Sort.xorNext r).toNat=Sort.xorNextN x:=by rw[Sort.xorNext_toNat,<-ab]
 obtain⟨y,aC⟩:∃y,y=Sort.xorNextN x:=⟨_,rfl⟩;have ac7:hG.wrap ((M:Int)-1)=(M-1:Nat):=by simp[tF,oH,sc];omega
 have yR:=acI y (M-1) Ω Ω;obtain⟨z,bd⟩:∃z,z=y&&& (M-1):=⟨_,rfl⟩;rw[<-bd]at yR;have as1:z<=M-1:=by rw[bd];exact Nat.and_le_right
 have oS:nT.wrap (z:Int)=z:=by rw[nm _ Ω]
 by_cases aik:k=3
 ·subst aik;simp[jS,Pv.look,ie];((with_reducible repeat' first|refine ak ?_|simp[ie]|((first|apply bJ|apply bM|apply bL)<;>intro h<;>try simp at h))<;>(try exact ck));refine cL.at (S ct.toList) (.inr rfl) (H.ok _) (H.same _ _ av (by simpa using bf)) (fun k cs h=>?_) (fun _ _ h=>h) ?_
  ·simp only[Pv.look];split
   ·rename_i e;subst e;rw[au]at h;cases h
   ·split
    ·rename_i e;subst e;rw[gJ]at h;cases h
    ·exact h
  ·simp[cM,Zf,aV,aY,aU];exact⟨ct,rfl,by rw[b4],bf⟩
 ·have xj:((i0+k:Nat):Int)<=(a:Int)+q*2+1:=Ω
  have VO:((i0:Int)+k)<=(a:Int)+q*2+1:=Ω
  simp[jS,Pv.look,ie,VO,xj];(with_reducible repeat' first|refine ak ?_|simp[ie,VO,xj,Pv.look]);have asU:=H.same d.toList ct.toList av (by simpa using bf);have ajf:∀(gb:Array α) (v:List aj),cb [(aL.obj 902,v)] (S gb.toList).b=(S gb.toList).b:=fun gb v=>Qz _ _ fun k x hm=>by
   have:=wb hm;simp only[Pv.look];split
   ·rename_i e;subst e;rw[gJ]at this;cases this
   ·rfl
  refine cQ.ob (agB x Ω) (Kl x) (fun k cs h=>?_) (fun k o h=>by simp[nW,Pv.look]at h) (by simp[aJ,aO,inObs,nW,Pv.look]) ?_
  ·simp only[nW,Pv.look]at h⊢;split at h
   ·rename_i e;subst e;simpa using h
   ·cases h
  rintro eQ ah ⟨rfl,rfl⟩;refine⟨QT _ _,?_⟩;rw[<-aC];have aec:cb (nW x).b ((aL.loc 0,[aj.func g lc,aj.func cd ca])::(aL.obj 902,[aj.int .u64 x])::(S ct.toList).b)=(aL.loc 0,[aj.func g lc,aj.func cd ca])::(S ct.toList).b:=by simp[nW,cb,Pv.look,ajf]
  have aed:cb (nW x).e (S ct.toList).e=(S ct.toList).e:=Qz _ _ fun _ _ _=>rfl;rw[aec,aed,show(nW y).b=[(aL.obj 902,[aj.int .u64 y])]from rfl,show(nW y).e=[]from rfl,List.append_nil];have asy:∀(v:List aj),Pv.look (.obj 902) ((aL.loc 0,[aj.func g lc,aj.func cd ca])::((S ct.toList).b++[(aL.obj 902,v)]))=some v:=fun v=>by simp[Pv.look,cV,gJ]
  have Rm:∀o',o'<len->o'=(if z≥len then z-len else z)->Sort.breakStep a len M (r,ct) (i0+k)=(Sort.xorNext r,Sort.swp ct (i0+k) (a+o')):=fun o' J U=>by unfold Sort.breakStep;simp only[xo,<-aC,<-bd,<-U]
  have T0:((i0:Int)+k)=((i0+k:Nat):Int):=Ω
  simp only[eS,aL.obj.injEq];simp[-BitVec.toNat_and,-BitVec.ofInt_natCast,ac7,yR,oS,Pv.look,H.ssc];by_cases as2:len<=z
  ·have M8:(len:Int)<=z:=Ω
   have Lv:((a:Int)+(z-len))=((a+(z-len):Nat):Int):=Ω
   ((with_reducible repeat' first|refine ak ?_|simp[M8,Pv.look,H.ssc]|((first|apply bJ|apply bM|apply bL)<;>intro h<;>try simp at h))<;>(try exact ck));rw[Lv,T0];refine cQ.ob (H.swap ct.toList (by simpa using bf) Ω (i0+k) (a+(z-len)) Ω Ω) (H.ok _) (fun bI cs h=>?_) (fun _ _ h=>h) (by simp[aJ,aO,H.ksc ct.toList (by simpa using bf)]) ?_
   ·simp only[Pv.look];split
    ·rename_i e;subst e;rw[au]at h;cases h
    ·rw[cV,h]
   rintro eQ ah ⟨rfl,rfl⟩;refine⟨H.same _ _ (by simpa using bf) (by simpa using bf),?_⟩;rw[Ij ct Ω Ω];obtain⟨d2,e3⟩:∃d2,d2=Sort.swp ct (i0+k) (a+(z-len)):=⟨_,rfl⟩;have s2:d2.size=n:=by rw[e3,hk,bf]
   rw[<-e3];have Lz:∀v:List aj,cb (S ct.toList).b ((aL.loc 0,[aj.func g lc,aj.func cd ca])::((S ct.toList).b++[(aL.obj 902,v)]))=[(aL.loc 0,[aj.func g lc,aj.func cd ca]),(aL.obj 902,v)]:=fun v=>by simp only[cb,au];rw[jg,ht];simp[cb,gJ]
   dsimp only;rw[Lz,ht];simp;(with_reducible repeat' first|refine ak ?_|simp);have Lr:((i0:Int)+k+1)=((i0+(k+1):Nat):Int):=Ω
   rw[Lr];refine bR.whl (k+1,Sort.xorNext r,d2) d7 ⟨by simp;omega,s2,by simp only[Aw,b4];rw[Rm (z-len) Ω (by rw[if_pos Ω]),e3]⟩ ?_;rw[xo,<-aC];refine abv (F7 H d2 y) (fun k h=>dn d2 _ k h s2) (fun k h=>pd _ h) (by simp[aJ,inObs,jS,Pv.look,mZ]) (by simp[Pv.look]) (y0 d2 _ s2) ?_ (fun _ _ h=>h);intro k cs h;simp only[jS,Pv.look]at h⊢;split at h
   ·rename_i e;subst e;simpa using h
   ·rename_i e;split
    ·rename_i aF;subst aF;rw[au]at h;cases h
    ·exact h
  ·have M8:¬(len:Int)<=z:=Ω
   have Lv:((a:Int)+z)=((a+z:Nat):Int):=Ω
   ((with_reducible repeat' first|refine ak ?_|simp[M8,Pv.look,H.ssc]|((first|apply bJ|apply bM|apply bL)<;>intro h<;>try simp at h))<;>(try exact ck));rw[Lv,T0];refine cQ.ob (H.swap ct.toList (by simpa using bf) Ω (i0+k) (a+z) Ω Ω) (H.ok _) (fun bI cs h=>?_) (fun _ _ h=>h) (by simp[aJ,aO,H.ksc ct.toList (by simpa using bf)]) ?_
   ·simp only[Pv.look];split
    ·rename_i e;subst e;rw[au]at h;cases h
    ·rw[cV,h]
   rintro eQ ah ⟨rfl,rfl⟩;refine⟨H.same _ _ (by simpa using bf) (by simpa using bf),?_⟩;rw[Ij ct Ω Ω];obtain⟨d2,e3⟩:∃d2,d2=Sort.swp ct (i0+k) (a+z):=⟨_,rfl⟩;have s2:d2.size=n:=by rw[e3,hk,bf]
   rw[<-e3];have Lz:∀v:List aj,cb (S ct.toList).b ((aL.loc 0,[aj.func g lc,aj.func cd ca])::((S ct.toList).b++[(aL.obj 902,v)]))=[(aL.loc 0,[aj.func g lc,aj.func cd ca]),(aL.obj 902,v)]:=fun v=>by simp only[cb,au];rw[jg,ht];simp[cb,gJ]
   dsimp only;rw[Lz,ht];simp;(with_reducible repeat' first|refine ak ?_|simp);have Lr:((i0:Int)+k+1)=((i0+(k+1):Nat):Int):=Ω
   rw[Lr];refine bR.whl (k+1,Sort.xorNext r,d2) d7 ⟨by simp;omega,s2,by simp only[Aw,b4];rw[Rm z Ω (by rw[if_neg Ω]),e3]⟩ ?_;rw[xo,<-aC];refine abv (F7 H d2 y) (fun k h=>dn d2 _ k h s2) (fun k h=>pd _ h) (by simp[aJ,inObs,jS,Pv.look,mZ]) (by simp[Pv.look]) (y0 d2 _ s2) ?_ (fun _ _ h=>h);intro k cs h;simp only[jS,Pv.look]at h⊢;split at h
   ·rename_i e;subst e;simpa using h
   ·rename_i e;split
    ·rename_i aF;subst aF;rw[au]at h;cases h
    ·exact h
end
section
open Go Go.Pv
variable {α:Type} [Inhabited α] {S:List α->cT} {n g cd:Nat} {lc ca:List aj} {lt:α->α->Bool}
theorem fh.fnD{d d2:Array α}(H:fh S n g cd lc ca lt)(J:d.size=n){f:Nat}{args:List aj}{r:aj}(aN:bG aw f args (S d.toList) fun eQ ah=>eQ=r/\∃cm,ah=S cm.toList/\cm=d2/\cm.size=n)(ae:aO (inObs (S d.toList)) args){t:List (Nat×aj)}{D:List aj}{o:List aL}{cm:Option Nat}{K:bn->Prop}
  (h:d2.size=n->∀o,K ⟨eS cm r t,(.loc 0,D)::(S d2.toList).b,(S d2.toList).e,1,o⟩):cQ aw f args ⟨t,(.loc 0,D)::(S d.toList).b,(S d.toList).e,1,o⟩ cm K:=
 H.call (by simpa using J) (R:=fun eQ a6=>eQ=r/\a6=d2.toList/\d2.size=n) (aN.mono fun r ah ⟨aq,cm,aF,bB,ds⟩=>⟨cm.toList,aF,aq,by rw[bB],by rw[<-bB];exact ds⟩) (fun r a6 ⟨_,e,h⟩=>by rw[e];simpa using h) ae (by rintro eQ a6 ⟨rfl,rfl,U⟩;exact h U _)
attribute [local simp] eX
def CR(S:List α->cT)(n g cd:Nat)(lc ca:List aj)(lt:α->α->Bool)(m:Nat):Prop:=
 ∀k,k<m->∀(d:Array α),d.size=n->∀a b xG:Nat,b-a<=k->a<=b->b<=n->xG<=1000->Sort.Below lt a b d->
  bG aw 170 [e7 g cd lc ca,.int .i64 a,.int .i64 b,.int .i64 xG] (S d.toList) fun r ah=>r= .tuple []/\∃cm,ah=S cm.toList/\Sort.PermIn a b d cm/\Sort.SortedIn lt a b cm
structure yp (S:List α->cT) (n g cd:Nat) (lc ca:List aj) (lt:α->α->Bool) (bk b3 lim:Nat) (d:Array α) (Q:Exit->bn->Prop):Prop where
 k:∀e,e= .normal\/e= .exit 1->∀(a2 b2:Nat) (w v:Bool) (L:Array α) (t:List (Nat×aj)) (o:List aL),L.size=n->a2<=b2->b2<=n->b2-a2<b3-bk->Sort.Below lt a2 b2 L->(∀R,Sort.PermIn a2 b2 L R->Sort.SortedIn lt a2 b2 R->Sort.PermIn bk b3 d R/\Sort.SortedIn lt bk b3 R)->
  Pv.get 1 t= .int .i64 a2->Pv.get 2 t= .int .i64 b2->Pv.get 3 t= .int .i64 lim->Pv.get 4 t= .ptr (.loc 0) 0->Pv.get 8 t= .bool w->Pv.get 9 t= .bool v->Q e ⟨t,(.loc 0,[.func g lc,.func cd ca])::(S L.toList).b,(S L.toList).e,1,o⟩
 r:∀(R:Array α) t o,Sort.PermIn bk b3 d R->Sort.SortedIn lt bk b3 R->Q .ret ⟨t,(.loc 0,[.func g lc,.func cd ca])::(S R.toList).b,(S R.toList).e,1,o⟩
theorem yp.mono{bk b3 lim:Nat}{d cm:Array α}{Q:Exit->bn->Prop}(h:yp S n g cd lc ca lt bk b3 lim d Q)(p:Sort.PermIn bk b3 d cm):yp S n g cd lc ca lt bk b3 lim cm Q:=⟨fun e he a2 b2 w v L t o aq aF bB ds ie ig=>h.k e he a2 b2 w v L t o aq aF bB ds ie fun R eu fe=>⟨Sort.permIn_trans _ _ _ bk b3 p (ig R eu fe).1,(ig R eu fe).2⟩,fun R t o eu fe=>h.r R t o (Sort.permIn_trans _ _ _ bk b3 p eu) fe⟩
structure Ao (t:List (Nat×aj)) (bk b3 lim:Nat):Prop where
 t1:Pv.get 1 t= .int .i64 bk
 t2:Pv.get 2 t= .int .i64 b3
 t3:Pv.get 3 t= .int .i64 lim
 t4:Pv.get 4 t= .ptr (.loc 0) 0
 t10:Pv.get 10 t= .int .i64 ((b3:Int)-bk)
section
variable {bk b3 lim:Nat} {cN:Array α} {t:List (Nat×aj)} {o:List aL} {ob:List aL} {Q:Exit->bn->Prop}
theorem YE(H:fh S n g cd lc ca lt)(bs:Sort.SWO lt)(bN:CR S n g cd lc ca lt (b3-bk)){pv:Nat}(T:Ao t bk b3 lim)(t11:Pv.get 11 t= .int .i64 pv)(sN:lim<=1000)(pQ:cN.size=n)(qS:bk<=pv/\pv<b3)(b4:b3<=n)(mL:12<b3-bk)(u9:Sort.Below lt bk b3 cN)(ix:yp S n g cd lc ca lt bk b3 lim cN Q):
  c4 aw ob K0 Q ⟨t,(.loc 0,[.func g lc,.func cd ca])::(S cN.toList).b,(S cN.toList).e,1,o⟩:=by
 obtain⟨t1,t2,t3,t4,t10⟩:=T;have nE:∀gb:Array α,gb.size=n->aJ (inObs (S gb.toList)) (e7 g cd lc ca):=fun gb h=>H.kdata (lk:=gb.toList) (by simpa using h);have hle:=H.le;unfold K0;simp[t1,t2,t4,t11,Pv.look,H.slc,H.ssc];simp only[iR H,H.slc,H.ssc,iF];have rQ:=agW H cN pQ bk b3 pv qS.1 qS.2 Ω b4;have bE:Sort.partition lt cN bk b3 pv=((Sort.partition lt cN bk b3 pv).1,(Sort.partition lt cN bk b3 pv).2.1,(Sort.partition lt cN bk b3 pv).2.2):=rfl;generalize (Sort.partition lt cN bk b3 pv).1=mid at rQ bE;generalize (Sort.partition lt cN bk b3 pv).2.1=ap at rQ bE;generalize (Sort.partition lt cN bk b3 pv).2.2=d4 at rQ bE;obtain⟨g1,g2,g3,g4,g5,g6,g7⟩:=Sort.round_part bs (Sort.partition_holds lt) qS.1 qS.2 Ω u9 bE;refine H.fnD pQ rQ (by simp[aJ,aO,nE cN pQ]) fun s4 o=>?_;have em:((mid:Int)+1)=(mid+1:Nat):=Ω
 simp[t1,t2,t3,t4,t10];by_cases asP:mid-bk<b3-mid
 ·have MB:(mid:Int)-bk<b3-mid:=Ω
  (with_reducible repeat' first|refine ak ?_|simp[MB,Pv.look,t1,t2,t3,t4,t10]);simp only[iR H,H.slc,H.ssc,iF];refine H.doFn (lk:=d4.toList) (by simpa using s4) (R:=fun a6=> ∃L:Array α,a6=L.toList/\Sort.PermIn bk mid d4 L/\Sort.SortedIn lt bk mid L) ((bN (mid-bk) Ω d4 s4 bk mid lim (dZ _) g1 Ω sN g4).mono fun r ah ⟨a1,cm,bm,bW,cZ⟩=>⟨a1,cm.toList,bm,cm,rfl,bW,cZ⟩) (by rintro a6 ⟨L,rfl,q,_⟩;simpa using q.1.trans s4) (by simp[aO,aJ,nE d4 s4]) ?_;rintro a6 ⟨L,rfl,cP,c8⟩;obtain⟨j6,nk⟩:=g6 L cP c8;simp;(with_reducible repeat' first|refine ak ?_|simp[t1,t2,t3,t4]);rw[em];exact ix.k _ (.inl rfl) (mid+1) b3 _ ap L _ _ (cP.1.trans s4) Ω b4 Ω j6 nk Ψ (by simp[t2]) (by simp[t3]) (by simp[t4]) (by simp;rfl) Ψ
 ·have MB:¬(mid:Int)-bk<b3-mid:=Ω
  (with_reducible repeat' first|refine ak ?_|simp[MB,Pv.look,t1,t2,t3,t4,t10]);simp only[iR H,H.slc,H.ssc,iF];rw[em];refine H.doFn (lk:=d4.toList) (by simpa using s4) (R:=fun a6=> ∃L:Array α,a6=L.toList/\Sort.PermIn (mid+1) b3 d4 L/\Sort.SortedIn lt (mid+1) b3 L) ((bN (b3-(mid+1)) Ω d4 s4 (mid+1) b3 lim (dZ _) Ω b4 sN g5).mono fun r ah ⟨a1,cm,bm,bW,cZ⟩=>⟨a1,cm.toList,bm,cm,rfl,bW,cZ⟩) (by rintro a6 ⟨L,rfl,q,_⟩;simpa using q.1.trans s4) (by simp[aO,aJ,nE d4 s4]) ?_;rintro a6 ⟨L,rfl,cP,c8⟩;obtain⟨j6,nk⟩:=g7 L cP c8;simp;(with_reducible repeat' first|refine ak ?_|simp[t1,t2,t3,t4]);exact ix.k _ (.inl rfl) bk mid _ ap L _ _ (cP.1.trans s4) g1 Ω Ω j6 nk (by simp[t1]) Ψ (by simp[t3]) (by simp[t4]) (by simp;rfl) Ψ
theorem ane(H:fh S n g cd lc ca lt)(bs:Sort.SWO lt)(bN:CR S n g cd lc ca lt (b3-bk)){pv:Nat}(T:Ao t bk b3 lim)(t11:Pv.get 11 t= .int .i64 pv){w v:Bool}(t8:Pv.get 8 t= .bool w)(t9:Pv.get 9 t= .bool v)(sN:lim<=1000)(pQ:cN.size=n)(qS:bk<=pv/\pv<b3)(b4:b3<=n)(mL:12<b3-bk)(u9:Sort.Below lt bk b3 cN)(ix:yp S n g cd lc ca lt bk b3 lim cN Q):
  c4 aw ob C6 Q ⟨t,(.loc 0,[.func g lc,.func cd ca])::(S cN.toList).b,(S cN.toList).e,1,o⟩:=by
 obtain⟨t1,t2,t3,t4,t10⟩:=id T;have hle:=H.le;unfold C6;by_cases ua:0<bk
 ·have Mf:(0:Int)<bk:=Ω
  simp[t1,t2,t4,t11,ua,Mf,Pv.look,H.slc,H.ssc];(with_reducible repeat' first|refine ak ?_|simp[t1,t2,t4,t11,ua,Mf,Pv.look,H.slc,H.ssc]);rw[show((bk:Int)-1)=((bk-1:Nat):Int) by omega];refine H.lessA pQ (bk-1) pv Ω Ω fun o=>?_;cases kg:lt cN[bk-1]! cN[pv]!
  ·simp;(with_reducible repeat' first|refine ak ?_|simp[Pv.look,H.slc,H.ssc,t1,t2,t4,t11]);simp only[iR H,H.slc,H.ssc,iF];have rQ:=agX H cN pQ bk b3 pv qS.1 qS.2 Ω b4;have bE:Sort.partitionEqual lt cN bk b3 pv=((Sort.partitionEqual lt cN bk b3 pv).1,(Sort.partitionEqual lt cN bk b3 pv).2):=rfl;generalize (Sort.partitionEqual lt cN bk b3 pv).1=mid at rQ bE;generalize (Sort.partitionEqual lt cN bk b3 pv).2=d4 at rQ bE;obtain⟨g1,g2,g3,g4,g5⟩:=Sort.round_eq bs (Sort.partitionEqual_holds lt) ua qS.1 qS.2 Ω u9 kg bE;refine H.fnD pQ rQ (by simp[aJ,aO,H.kdata (lk:=cN.toList) (by simpa using pQ)]) fun s4 o=>?_;simp[t1,t2,t3,t4];exact ix.k _ (.inr rfl) mid b3 w v d4 _ _ s4 g2 b4 Ω g4 g5 Ψ (by simp[t2]) (by simp[t3]) (by simp[t4]) (by simp[t8]) (by simp[t9])
  ·simp;exact YE H bs bN ⟨by simp[t1],by simp[t2],by simp[t3],by simp[t4],by simp[t10]⟩ (by simp[t11]) sN pQ qS b4 mL u9 ix
 ·have Mf:¬(0:Int)<bk:=Ω
  simp[t1,ua];exact YE H bs bN ⟨by simp[t1],by simp[t2],by simp[t3],by simp[t4],by simp[t10]⟩ (by simp[t11]) sN pQ qS b4 mL u9 ix
theorem OC(H:fh S n g cd lc ca lt)(bs:Sort.SWO lt)(bN:CR S n g cd lc ca lt (b3-bk)){pv:Nat}(T:Ao t bk b3 lim)(t11:Pv.get 11 t= .int .i64 pv){h:Nat}(t12:Pv.get 12 t= .int .i64 h){w v:Bool}(t8:Pv.get 8 t= .bool w)(t9:Pv.get 9 t= .bool v)(sN:lim<=1000)(pQ:cN.size=n)(qS:bk<=pv/\pv<b3)(b4:b3<=n)(mL:12<b3-bk)(u9:Sort.Below lt bk b3 cN)(ix:yp S n g cd lc ca lt bk b3 lim cN Q):
  c4 aw ob K1 Q ⟨t,(.loc 0,[.func g lc,.func cd ca])::(S cN.toList).b,(S cN.toList).e,1,o⟩:=by
 obtain⟨t1,t2,t3,t4,t10⟩:=id T;have hle:=H.le;unfold K1;have next:∀{d5:Array α} {t o},Ao t bk b3 lim->Pv.get 11 t= .int .i64 pv->Pv.get 8 t= .bool w->Pv.get 9 t= .bool v->d5.size=n->Sort.Below lt bk b3 d5->Sort.PermIn bk b3 cN d5->c4 aw ob C6 Q ⟨t,(.loc 0,[.func g lc,.func cd ca])::(S d5.toList).b,(S d5.toList).e,1,o⟩:=fun aq aF bB ds ie ig sl=>ane H bs bN aq aF bB ds sN ie qS b4 mL ig (ix.mono sl)
 have skip:∀{t o},Ao t bk b3 lim->Pv.get 11 t= .int .i64 pv->Pv.get 8 t= .bool w->Pv.get 9 t= .bool v->c4 aw ob C6 Q ⟨t,(.loc 0,[.func g lc,.func cd ca])::(S cN.toList).b,(S cN.toList).e,1,o⟩:=fun aq aF bB ds=>next aq aF bB ds pQ u9 (Sort.permIn_refl _ _ _)
 by_cases ao:(w=true/\v=true)/\h=1
 ·obtain⟨⟨rfl,rfl⟩,rfl⟩:=ao;simp[t1,t2,t4,t8,t9,t12,Pv.look,H.slc,H.ssc];simp only[iR H,H.slc,H.ssc,iF];have rQ:=agV H cN pQ bk b3 Ω b4 Ω;have bE:=Sort.partialInsertionSort_holds bs cN bk b3 Ω Ω u9;generalize (Sort.partialInsertionSort lt cN bk b3).1=d5 at rQ bE;generalize (Sort.partialInsertionSort lt cN bk b3).2=ok at rQ bE;refine H.fnD pQ rQ (by simp[aJ,aO,H.kdata (lk:=cN.toList) (by simpa using pQ)]) fun aoD o=>?_;cases ok
  ·simp;exact next ⟨by simp[t1],by simp[t2],by simp[t3],by simp[t4],by simp[t10]⟩ (by simp[t11]) (by simp[t8]) (by simp[t9]) aoD (u9.perm Ω bE.1) bE.1
  ·simp;exact ix.r _ _ _ bE.1 (bE.2 rfl)
 ·cases w
  ·simp[t8,t9,t12];exact skip ⟨by simp[t1],by simp[t2],by simp[t3],by simp[t4],by simp[t10]⟩ (by simp[t11]) (by simp[t8]) (by simp[t9])
  ·cases v
   ·simp[t8,t9,t12];exact skip ⟨by simp[t1],by simp[t2],by simp[t3],by simp[t4],by simp[t10]⟩ (by simp[t11]) (by simp[t8]) (by simp[t9])
   ·have J:((h:Int)==1)=false:=by simp at ao⊢;omega
    simp[t8,t9,t12,J];exact skip ⟨by simp[t1],by simp[t2],by simp[t3],by simp[t4],by simp[t10]⟩ (by simp[t11]) (by simp[t8]) (by simp[t9])
theorem YF(H:fh S n g cd lc ca lt)(gJ:te S 901)(bs:Sort.SWO lt)(bN:CR S n g cd lc ca lt (b3-bk))(T:Ao t bk b3 lim){w v:Bool}(t8:Pv.get 8 t= .bool w)(t9:Pv.get 9 t= .bool v)(sN:lim<=1000)(s1:cN.size=n)(b4:b3<=n)(mL:12<b3-bk)(Kb:Sort.Below lt bk b3 cN)(ix:yp S n g cd lc ca lt bk b3 lim cN Q):
  c4 aw ob K2 Q ⟨t,(.loc 0,[.func g lc,.func cd ca])::(S cN.toList).b,(S cN.toList).e,1,o⟩:=by
 obtain⟨t1,t2,t3,t4,t10⟩:=id T;have hle:=H.le;have nE:∀gb:Array α,gb.size=n->aJ (inObs (S gb.toList)) (e7 g cd lc ca):=fun gb h=>H.kdata (lk:=gb.toList) (by simpa using h);unfold K2;simp[t1,t2,t4,Pv.look,H.slc,H.ssc];simp only[iR H,H.slc,H.ssc,iF];have vA:=Sort.choosePivot_holds lt cN bk b3 Ω;have Np:=agH H gJ cN s1 bk b3 Ω b4;generalize Sort.choosePivot lt cN bk b3=Lg at Np vA;obtain⟨p,hint⟩:=Lg;simp only at Np vA;refine H.fnA s1 s1 Np (by simp[aJ,aO,nE cN s1]) fun o=>?_;cases hint
 ·simp[Bb];exact OC H bs bN ⟨by simp[t1],by simp[t2],by simp[t3],by simp[t4],by simp[t10]⟩ (pv:=p) Ψ (h:=0) Ψ (w:=w) (v:=v) (by simp[t8]) (by simp[t9]) sN s1 vA b4 mL Kb ix
 ·simp[Bb];exact OC H bs bN ⟨by simp[t1],by simp[t2],by simp[t3],by simp[t4],by simp[t10]⟩ (pv:=p) Ψ (h:=1) Ψ (w:=w) (v:=v) (by simp[t8]) (by simp[t9]) sN s1 vA b4 mL Kb ix
 ·simp[Bb,t1,t2,t4,Pv.look,H.slc,H.ssc];simp only[iR H,H.slc,H.ssc,iF];refine H.fnD s1 (ag2 H cN s1 bk b3 Ω b4 Ω) (by simp[aJ,aO,nE cN s1]) fun s2 o=>?_;have aM:=Sort.reverseRange_holds cN bk b3 Ω Ω;have T4:((b3:Int)-1-(p-bk))=((b3-1)-(p-bk):Nat):=Ω
  simp[t1,t2,T4];(with_reducible repeat' first|refine ak ?_|simp[T4,t1,t2]);exact OC H bs bN ⟨by simp[t1],by simp[t2],by simp[t3],by simp[t4],by simp[t10]⟩ (pv:=(b3-1)-(p-bk)) Ψ (h:=1) Ψ (w:=w) (v:=v) (by simp[t8]) (by simp[t9]) sN s2 Ω b4 mL (Kb.perm Ω aM) (ix.mono aM)
end
theorem agY(H:fh S n g cd lc ca lt)(gJ:te S 901)(jY:te S 902)(bs:Sort.SWO lt)(m:Nat):∀(d:Array α) (aG:d.size=n) (a b xG:Nat) (hm:b-a<=m) (oa:a<=b) (ad:b<=n) (h7:xG<=1000) (DF:Sort.Below lt a b d),
  bG aw 170 [e7 g cd lc ca,.int .i64 a,.int .i64 b,.int .i64 xG] (S d.toList) fun r ah=>r= .tuple []/\∃cm,ah=S cm.toList/\Sort.PermIn a b d cm/\Sort.SortedIn lt a b cm:=by
 induction m using qA with
 |ind m bN=>
 intro d aG a b xG hm oa ad h7 DF;have af:=H.ok d.toList;have av:d.toList.length=n:=by simpa using aG
 have au:∀l m,Pv.look (.loc m) (S l).b=none:=fun l=>(H.ok l).obj.1;have hu:∀l m cs,cB (.loc m) cs (S l).b=(S l).b++[(.loc m,cs)]:=fun l m cs=>kK (au l m);have ay:∀m,aL.loc m∉c5 (S d.toList):=kD af.obj;have hle:=H.le;refine bG.mk mixed o6 afk amb Ψ af.obj fun aQ cI=>?_;unfold SB;simp[e7,hu,ay,cV,au];refine H.loopA av [4] (fun(x:((Nat×Nat×Nat)×Bool×Bool)×Array α)=>[(1,.int .i64 x.1.1.1),(2,.int .i64 x.1.1.2.1),(3,.int .i64 x.1.1.2.2),(8,.bool x.1.2.1),(9,.bool x.1.2.2)]) (·.2) (fun x=>x.1.1.2.1-x.1.1.1) (fun x=>x.2.size=n/\(x.1.1.1<=x.1.1.2.1/\x.1.1.2.1<=n/\x.1.1.2.1-x.1.1.1<=m/\x.1.1.2.2<=1000)/\Sort.Below lt x.1.1.1 x.1.1.2.1 x.2/\∀R,Sort.PermIn x.1.1.1 x.1.1.2.1 x.2 R->Sort.SortedIn lt x.1.1.1 x.1.1.2.1 R->Sort.PermIn a b d R/\Sort.SortedIn lt a b R)
  (((a,b,xG),true,true),d) aG ⟨aG,⟨oa,ad,hm,h7⟩,DF,fun R J U=>⟨J,U⟩⟩ (by simp[cV,au]) aH aH d6 ?_
 rintro⟨⟨⟨bk,b3,wa⟩,aqQ,wp⟩,ct⟩ ⟨aS,⟨bf,b4,ep,df⟩,Nn,H2⟩;simp only at aS bf b4 ep df Nn H2;have nE:∀gb:Array α,gb.size=n->aJ (inObs (S gb.toList)) (e7 g cd lc ca):=fun gb h=>H.kdata (lk:=gb.toList) (by simpa using h);have Jv:∀(R:Array α) t o,Sort.PermIn bk b3 ct R->Sort.SortedIn lt bk b3 R->cL Zj (S d.toList) (fun r ah=>r= .tuple []/\∃cm,ah=S cm.toList/\Sort.PermIn a b d cm/\Sort.SortedIn lt a b cm) .ret ⟨t,(.loc 0,[.func g lc,.func cd ca])::(S R.toList).b,(S R.toList).e,1,o⟩:=fun R t o J U=>by refine H.retA av (by rw[J.1];exact aS) (.inl rfl) ⟨rfl,R,rfl,H2 R J U⟩
 simp;by_cases mL:b3-bk<=12
 ·have Dx:(b3:Int)-bk<=12:=Ω
  (with_reducible repeat' first|refine ak ?_|simp[Dx,Pv.look,H.slc,H.ssc]);simp only[iR H,H.slc,H.ssc,iF];refine H.fnD aS (agL H ct aS bk b3 bf b4) (by simp[aJ,aO,nE ct aS]) fun s2 o=>?_;obtain⟨a1,bm⟩:=Sort.insertionSort_holds bs ct bk b3 bf Ω;simp;exact Jv _ _ _ a1 bm
 have Dx:¬(b3:Int)-bk<=12:=Ω
 by_cases Bd:wa=0
 ·have Ht:(((wa:Nat):Int)==0)=true:=by simp[Bd]
  (with_reducible repeat' first|refine ak ?_|simp[Dx,Ht,Pv.look,H.slc,H.ssc]);simp only[iR H,H.slc,H.ssc,iF];refine H.fnD aS (agK H ct aS bk b3 bf b4 Ω) (by simp[aJ,aO,nE ct aS]) fun s2 o=>?_;obtain⟨a1,bm⟩:=Sort.heapSort_holds bs ct bk b3 bf Ω;simp;exact Jv _ _ _ a1 bm
 have Ht:(((wa:Nat):Int)==0)=false:=by simp[Bd]
 have Eb:CR S n g cd lc ca lt (b3-bk):=fun k ae=>bN k Ω;cases aqQ
 ·(with_reducible repeat' first|refine ak ?_|simp[Dx,Ht,Pv.look,H.slc,H.ssc]);simp only[iR H,H.slc,H.ssc,iF];refine H.fnD aS (agG H jY ct aS bk b3 bf b4 Ω) (by simp[aJ,aO,nE ct aS]) fun s1 o=>?_;have F2:=Sort.breakPatterns_holds ct bk b3 bf Ω;generalize Sort.breakPatterns ct bk b3=d1 at s1 F2;have el:((wa:Int)-1)=(wa-1:Nat):=Ω
  simp[el];(with_reducible repeat' first|refine ak ?_|simp[el,Pv.look]);refine YF (lim:=wa-1) H gJ bs Eb ⟨Ψ,Ψ,Ψ,Ψ,Ψ⟩ (w:=false) (v:=wp) Ψ Ψ Ω s1 b4 Ω (Nn.perm Ω F2) ⟨?_,fun R t o eu fe=>?_⟩
  ·rintro e he a2 b2 w v L t o aq aF bB ds ie ig t1 t2 t3 t4 t8 t9;rcases he with rfl|rfl<;>simp<;>exact bR.whl (((a2,b2,wa-1),w,v),L) d7 ⟨aq,⟨aF,bB,by simp;omega,by simp;omega⟩,ie,fun R eu fe=>H2 R (Sort.permIn_trans _ _ _ bk b3 F2 (ig R eu fe).1) (ig R eu fe).2⟩ (H.weakC av (by simpa using aq) (by simp[aJ,t1,t2,t3,t4,t8,t9]))
  ·simpa using Jv R t o (Sort.permIn_trans _ _ _ bk b3 F2 eu) fe
 ·(with_reducible repeat' first|refine ak ?_|simp[Dx,Ht,Pv.look,H.slc,H.ssc]);refine YF (lim:=wa) H gJ bs Eb ⟨Ψ,Ψ,Ψ,Ψ,Ψ⟩ (w:=true) (v:=wp) Ψ Ψ df aS b4 Ω Nn ⟨?_,fun R t o eu fe=>?_⟩
  ·rintro e he a2 b2 w v L t o aq aF bB ds ie ig t1 t2 t3 t4 t8 t9;rcases he with rfl|rfl<;>simp<;>exact bR.whl (((a2,b2,wa),w,v),L) d7 ⟨aq,⟨aF,bB,by simp;omega,df⟩,ie,fun R eu fe=>H2 R (ig R eu fe).1 (ig R eu fe).2⟩ (H.weakC av (by simpa using aq) (by simp[aJ,t1,t2,t3,t4,t8,t9]))
  ·simpa using Jv R t o eu fe
end
section
open Go Go.Pv
variable {α:Type} {S:List α->cT} {n g cd:Nat} {lc ca:List aj} {lt:α->α->Bool}
theorem akz(bs:rj lt){l lk:List α}{a b i:Nat}(oc:a+1<=i)(Ba:i<=b)(ad:b<=l.length)(af:fs lt (a+1) b l){z:α}(bd:l[a]? =some z)(DT:∀h x,a+1<=h->h<i->l[h]? =some x->lt x z=true)(DQ:∀h x,i<=h->h<b->l[h]? =some x->lt x z=false)
  (aM:∀k,lk[k]? =l[im a (a+1) i k]?):fs lt a b lk:=by
 intro p q x y bF j0 bE ab aC;rw[aM]at ab aC;simp only[im]at ab aC;rw[if_neg Ω]at ab aC;by_cases a1:q<i-1
 ·rw[if_pos Ω]at ab aC;exact af _ _ _ _ Ω Ω Ω ab aC
 ·rw[if_neg Ω]at aC;by_cases bm:q<i
  ·rw[if_pos bm,show q-(i-(a+1))=a by omega,bd]at aC;cases aC;rw[if_pos Ω]at ab;exact bs.asym _ _ (DT _ _ Ω Ω ab)
  ·rw[if_neg bm]at aC;by_cases cP:p<i-1
   ·rw[if_pos Ω]at ab;exact af _ _ _ _ Ω Ω Ω ab aC
   ·rw[if_neg Ω]at ab;by_cases c8:p<i
    ·rw[if_pos c8,show p-(i-(a+1))=a by omega,bd]at ab;cases ab;exact DQ _ _ Ω bE aC
    ·rw[if_neg c8]at ab;exact af _ _ _ _ Ω Ω bE ab aC
theorem akA(bs:rj lt){l lk:List α}{a m i:Nat}(oc:a<=i)(asM:i<=m)(ad:m+1<=l.length)(af:fs lt a m l){z:α}(bd:l[m]? =some z)(DT:∀h x,a<=h->h<i->l[h]? =some x->lt z x=false)(DQ:∀h x,i<=h->h<m->l[h]? =some x->lt z x=true)
  (aM:∀k,lk[k]? =l[im i m (m+1) k]?):fs lt a (m+1) lk:=by
 intro p q x y bF j0 bE ab aC;rw[aM]at ab aC;simp only[im]at ab aC;by_cases a1:q<i
 ·rw[if_pos Ω]at ab aC;exact af _ _ _ _ bF j0 Ω ab aC
 ·rw[if_neg a1]at aC;by_cases bm:q=i
  ·rw[if_pos Ω,show q+(m-i)=m by omega,bd]at aC;cases aC;rw[if_pos Ω]at ab;exact DT _ _ bF Ω ab
  ·rw[if_neg Ω,if_pos Ω]at aC;by_cases cP:p<i
   ·rw[if_pos cP]at ab;exact af _ _ _ _ bF Ω Ω ab aC
   ·rw[if_neg cP]at ab;by_cases c8:p=i
    ·rw[if_pos Ω,show p+(m-i)=m by omega,bd]at ab;cases ab;exact bs.asym _ _ (DQ _ _ Ω Ω aC)
    ·rw[if_neg Ω,if_pos Ω]at ab;exact af _ _ _ _ Ω Ω Ω ab aC
structure F1 (lt:α->α->Bool) (a s m e b mid:Nat) (lk:List α):Prop where
 s1:fs lt a s lk
 s2:fs lt s mid lk
 s3:fs lt mid e lk
 s4:fs lt e b lk
 cross:∀p q x y,a<=p->p<mid->mid<=q->q<b->lk[p]? =some x->lk[q]? =some y->lt y x=false
theorem fs.le(bs:rj lt){a b:Nat}{l:List α}(h:fs lt a b l){i j:Nat}{x y:α}(J:a<=i)(U:i<=j)(h3:j<b)(ab:l[i]? =some x)(aC:l[j]? =some y):lt y x=false:=by
 by_cases e:i=j
 ·subst e;rw[ab]at aC;cases aC;cases Wp:lt x x with
  |false=>rfl
  |true=>have:=bs.asym _ _ Wp;rw[Wp]at this;exact this
 ·exact h _ _ _ _ J Ω h3 ab aC
theorem akJ(bs:rj lt){l lk:List α}{a m b mid s e:Nat}(has:a<=s)(ea:s<=m)(asQ:m<=e)(asJ:e<=b)(ad:b<=l.length)(kR:s+e=mid+m)(J:fs lt a m l)(U:fs lt m b l)
  (bY:s=a\/e=b\/ ∃x y,l[s-1]? =some x/\l[e]? =some y/\lt y x=false) (cw:s=m\/e=m\/ ∃x y,l[s]? =some x/\l[e-1]? =some y/\lt y x=true) (aM:∀k,lk[k]? =l[im s m e k]?):F1 lt a s m e b mid lk:=by
 have g1:∀p,p<s->lk[p]? =l[p]?:=fun p bF=>by rw[aM];simp[im,bF]
 have g2:∀p,s<=p->p<mid->lk[p]? =l[p+(m-s)]?:=fun p h3 h4=>by rw[aM];simp only[im];rw[if_neg Ω,if_pos Ω]
 have g3:∀p,mid<=p->p<e->lk[p]? =l[p-(e-m)]?:=fun p h3 h4=>by rw[aM];simp only[im];rw[if_neg Ω,if_neg Ω,if_pos Ω]
 have g4:∀p,e<=p->lk[p]? =l[p]?:=fun p h3=>by
  rw[aM];simp only[im];rw[if_neg Ω];by_cases h5:p<s+(e-m)
  ·omega
  ·rw[if_neg h5,if_neg Ω]
 refine⟨fun p q x y bF j0 bE ab aC=>?_,fun p q x y bF j0 bE ab aC=>?_,fun p q x y bF j0 bE ab aC=>?_,fun p q x y bF j0 bE ab aC=>?_,fun p q x y bF aiR bE MM ab aC=>?_⟩
 ·rw[g1 _ Ω]at ab aC;exact J _ _ _ _ bF j0 Ω ab aC
 ·rw[g2 _ Ω Ω]at ab aC;exact U _ _ _ _ Ω Ω Ω ab aC
 ·rw[g3 _ Ω Ω]at ab aC;exact J _ _ _ _ Ω Ω Ω ab aC
 ·rw[g4 _ Ω]at ab aC;exact U _ _ _ _ Ω Ω Ω ab aC
 ·by_cases cP:p<s
  ·rw[g1 _ cP]at ab;by_cases a1:q<e
   ·rw[g3 _ bE a1]at aC;exact J _ _ _ _ bF Ω Ω ab aC
   ·rw[g4 _ Ω]at aC;rcases bY with bY|bY|⟨u,v,aS,bf,b4⟩
    ·omega
    ·omega
    ·exact bs.ntr _ _ _ (bs.ntr _ _ _ (fs.le bs J bF Ω Ω ab aS) b4) (fs.le bs U Ω Ω MM bf aC)
  ·rw[g2 _ Ω aiR]at ab;by_cases a1:q<e
   ·rw[g3 _ bE a1]at aC;rcases cw with cw|cw|⟨u,v,aS,bf,b4⟩
    ·omega
    ·omega
    ·exact bs.ntr _ _ _ (bs.ntr _ _ _ (fs.le bs U Ω Ω Ω ab bf) (bs.asym _ _ b4)) (fs.le bs J Ω Ω Ω aS aC)
   ·rw[g4 _ Ω]at aC;exact U _ _ _ _ Ω Ω MM ab aC
theorem akK{a mid b:Nat}(DE:a<=mid){lk ky hr:List α}(J:gF a mid lk ky)(s1:fs lt a mid ky)(U:gF mid b ky hr)(s2:fs lt mid b hr)(acZ:∀p q x y,a<=p->p<mid->mid<=q->q<b->lk[p]? =some x->lk[q]? =some y->lt y x=false):fs lt a b hr:=by
 intro p q x y bF j0 bE ab aC;by_cases h3:q<mid
 ·rw[U.out _ (.inl Ω)]at ab;rw[U.out _ (.inl Ω)]at aC;exact s1 _ _ _ _ bF j0 h3 ab aC
 ·by_cases h4:mid<=p
  ·exact s2 _ _ _ _ h4 j0 bE ab aC
  ·rw[U.out _ (.inl Ω)]at ab;refine U.all (fun y=>lt y x=false) (fun k y gJ jY aC=>?_) q y Ω bE aC;rw[J.out _ (.inr gJ)]at aC;exact J.all (fun x=>lt y x=false) (fun bI x aii aij ab=>acZ bI k x y aii aij gJ jY ab aC) p x bF Ω ab
end
section
open Go Go.Pv
variable {α:Type} {S:List α->cT} {n g cd:Nat} {lc ca:List aj} {lt:α->α->Bool}
def apk(lt:α->α->Bool)(l:List α)(mid m s0 r0:Nat)(x:Nat×Nat):Prop:=s0<=x.1/\x.1<=x.2/\x.2<=r0/\(x.1=s0\/ ∃u v,l[x.1-1]? =some u/\l[mid+m-x.1]? =some v/\lt v u=false)/\(x.2=r0\/ ∃u v,l[x.2]? =some u/\l[mid+m-x.2-1]? =some v/\lt v u=true)
attribute [local simp] eX
def F8(S:List α->cT)(n g cd:Nat)(lc ca:List aj)(lt:α->α->Bool)(d:Nat):Prop:=
 ∀(l:List α) (a m b:Nat),l.length=n->b-a<=d->a<m->m<b->b<=n->fs lt a m l->fs lt m b l->
  bG aw 188 [e7 g cd lc ca,.int .i64 a,.int .i64 m,.int .i64 b] (S l) fun r ah=>r= .tuple []/\∃a6,ah=S a6/\gF a b l a6/\fs lt a b a6
def F9(S:List α->cT)(g cd:Nat)(lc ca:List aj)(lt:α->α->Bool)(a b:Nat)(l:List α)(Q:Exit->bn->Prop):Prop:=∀hr t o,gF a b l hr->fs lt a b hr->Q .normal ⟨t,(.loc 0,[.func g lc,.func cd ca])::(S hr).b,(S hr).e,1,o⟩
section
variable {a m b mid i e d:Nat} {l:List α} {t:List (Nat×aj)} {o:List aL} {ob:List aL} {Q:Exit->bn->Prop}
theorem aoZ(H:fh S n g cd lc ca lt)(bN:F8 S n g cd lc ca lt d)(t3:Pv.get 3 t= .int .i64 b)(t4:Pv.get 4 t= .ptr (.loc 0) 0)(t16:Pv.get 16 t= .int .i64 mid)(t22:Pv.get 22 t= .int .i64 e)(av:l.length=n)(J:mid<=e)(U:e<=b)(ad:b<=n)(aG:b-mid<=d)(Wd:fs lt mid e l)(We:fs lt e b l)(ix:F9 S g cd lc ca lt mid b l Q):
  c4 aw ob Gx Q ⟨t,(.loc 0,[.func g lc,.func cd ca])::(S l).b,(S l).e,1,o⟩:=by
 unfold Gx;by_cases kr:mid<e/\e<b
 ·simp[t3,t4,t16,t22,kr.1,kr.2,Pv.look];simp only[iR H,H.slc,H.ssc,iF];refine H.doFn av (bN l mid e b av aG kr.1 kr.2 ad Wd We) (fun a6 h=>by rw[h.1.length];exact av) (by simp[aO,aJ,H.kdata av]) ?_;rintro hr ⟨jR,z2⟩;simp;exact ix _ _ _ jR z2
 ·have qT:fs lt mid b l:=by
   by_cases od:mid<e
   ·rwa[show e=b by omega]at Wd
   ·rwa[show e=mid by omega]at We
  by_cases od:mid<e
  ·have ahE:¬e<b:=Ω
   simp[t3,t16,t22,od,ahE];exact ix _ _ _ (.refl _) qT
  ·simp[t16,t22,od];exact ix _ _ _ (.refl _) qT
theorem ao0(H:fh S n g cd lc ca lt)(bN:F8 S n g cd lc ca lt d)(t1:Pv.get 1 t= .int .i64 a)(t3:Pv.get 3 t= .int .i64 b)(t4:Pv.get 4 t= .ptr (.loc 0) 0)(t16:Pv.get 16 t= .int .i64 mid)(t18:Pv.get 18 t= .int .i64 i)(t22:Pv.get 22 t= .int .i64 e)(av:l.length=n)(bz:a<=i/\i<=mid/\a<=m)(J:mid<=e)(U:e<=b)(ad:b<=n)(aG:b-mid<=d)(lZ:mid-a<=d)(fu:F1 lt a i m e b mid l)(ix:F9 S g cd lc ca lt a b l Q):
  c4 aw ob Gy Q ⟨t,(.loc 0,[.func g lc,.func cd ca])::(S l).b,(S l).e,1,o⟩:=by
 unfold Gy;have next:∀{ky t o},Pv.get 3 t= .int .i64 b->Pv.get 4 t= .ptr (.loc 0) 0->Pv.get 16 t= .int .i64 mid->Pv.get 22 t= .int .i64 e->ky.length=n->gF a mid l ky->fs lt a mid ky->c4 aw ob Gx Q ⟨t,(.loc 0,[.func g lc,.func cd ca])::(S ky).b,(S ky).e,1,o⟩:=fun aq aF bB ds sM cP c8=>by
  refine aoZ H bN aq aF bB ds sM J U ad aG (fun p q x y J U h3 ab aC=>?_) (fun p q x y J U h3 ab aC=>?_) fun hr t o a1 bm=>?_
  ·rw[cP.out _ (.inr J)]at ab;rw[cP.out _ (.inr Ω)]at aC;exact fu.s3 p q x y J U h3 ab aC
  ·rw[cP.out _ (.inr Ω)]at ab;rw[cP.out _ (.inr Ω)]at aC;exact fu.s4 p q x y J U h3 ab aC
  ·exact ix hr t o ((cP.mono Ω Ω).trans (a1.mono Ω Ω)) (akK Ω cP c8 a1 bm fu.cross)
 by_cases lY:a<i/\i<mid
 ·simp[t1,t4,t16,t18,lY.1,lY.2,Pv.look];simp only[iR H,H.slc,H.ssc,iF];refine H.doFn av (bN l a i mid av lZ lY.1 lY.2 Ω fu.s1 fu.s2) (fun a6 h=>by rw[h.1.length];exact av) (by simp[aO,aJ,H.kdata av]) ?_;rintro ky ⟨cP,c8⟩;simp;exact next (by simp[t3]) (by simp[t4]) (by simp[t16]) (by simp[t22]) (by rw[cP.length];exact av) cP c8
 ·have c8:fs lt a mid l:=by
   by_cases qL:a<i
   ·have:=fu.s1;rwa[show i=mid by omega]at this
   ·have:=fu.s2;rwa[show i=a by omega]at this
  by_cases qL:a<i
  ·have Hd:¬i<mid:=Ω
   simp[t1,t16,t18,qL,Hd];exact next (by simp[t3]) (by simp[t4]) (by simp[t16]) (by simp[t22]) av (.refl _) c8
  ·simp[t1,t18,qL];exact next (by simp[t3]) (by simp[t4]) (by simp[t16]) (by simp[t22]) av (.refl _) c8
theorem ao1(H:fh S n g cd lc ca lt)(bN:F8 S n g cd lc ca lt d)(t1:Pv.get 1 t= .int .i64 a)(t2:Pv.get 2 t= .int .i64 m)(t3:Pv.get 3 t= .int .i64 b)(t4:Pv.get 4 t= .ptr (.loc 0) 0)(t16:Pv.get 16 t= .int .i64 mid)(t18:Pv.get 18 t= .int .i64 i)(t22:Pv.get 22 t= .int .i64 e)(av:l.length=n)(bz:a<=i/\i<=mid/\a<=m)(J:mid<=e)(U:e<=b)(ad:b<=n)(aG:b-mid<=d)(lZ:mid-a<=d)(DU:∀lk:List α,(∀k,lk[k]? =l[im i m e k]?)->F1 lt a i m e b mid lk)(ix:F9 S g cd lc ca lt a b l Q):
  c4 aw ob K3 Q ⟨t,(.loc 0,[.func g lc,.func cd ca])::(S l).b,(S l).e,1,o⟩:=by
 unfold K3;have next:∀{lk t o},Pv.get 1 t= .int .i64 a->Pv.get 3 t= .int .i64 b->Pv.get 4 t= .ptr (.loc 0) 0->Pv.get 16 t= .int .i64 mid->Pv.get 18 t= .int .i64 i->Pv.get 22 t= .int .i64 e->lk.length=n->F1 lt a i m e b mid lk->gF a b l lk->c4 aw ob Gy Q ⟨t,(.loc 0,[.func g lc,.func cd ca])::(S lk).b,(S lk).e,1,o⟩:=fun aq aF bB ds ie ig hY fu ahB=>ao0 H bN aq aF bB ds ie ig hY bz J U ad aG lZ fu fun hr t o a1 bm=>ix hr t o (ahB.trans a1) bm
 by_cases HF:i<m/\m<e
 ·simp[t2,t4,t18,t22,HF.1,HF.2,Pv.look];simp only[iR H,H.slc,H.ssc,iF];refine H.doFn av (ag3 H l av i m e HF.1 HF.2 Ω) (fun a6 h=>by rw[h.1.length];exact av) (by simp[aO,aJ,H.kdata av]) ?_;rintro lk ⟨a1,bm⟩;simp;exact next (by simp[t1]) (by simp[t3]) (by simp[t4]) (by simp[t16]) (by simp[t18]) (by simp[t22]) (by rw[a1.length];exact av) (DU lk bm) (a1.mono Ω Ω)
 ·have fu:=DU l (fun k=>by
   congr 1;simp only[im];repeat' split
   all_goals omega)
  by_cases nF:i<m
  ·have aiU:¬m<e:=Ω
   simp[t2,t18,t22,nF,aiU];exact next (by simp[t1]) (by simp[t3]) (by simp[t4]) (by simp[t16]) (by simp[t18]) (by simp[t22]) av fu (.refl _)
  ·simp[t2,t18,nF];exact next (by simp[t1]) (by simp[t3]) (by simp[t4]) (by simp[t16]) (by simp[t18]) (by simp[t22]) av fu (.refl _)
theorem aac{bb:List (aL×List aj)}(H:fh S n g cd lc ca lt)(sG:Pv.look (.loc 0) bb=some [.func g lc,.func cd ca])(cI:∀k cs,Pv.look k (S l).b=some cs->Pv.look k bb=some cs)(bs:rj lt)(bN:F8 S n g cd lc ca lt d){s0 r0:Nat}(t1:Pv.get 1 t= .int .i64 a)(t2:Pv.get 2 t= .int .i64 m)(t3:Pv.get 3 t= .int .i64 b)(t4:Pv.get 4 t= .ptr (.loc 0) 0)(t16:Pv.get 16 t= .int .i64 mid)(t17:Pv.get 17 t= .int .i64 ((mid:Int)+m))(t18:Pv.get 18 t= .int .i64 s0)(t19:Pv.get 19 t= .int .i64 r0)(av:l.length=n)(bz:a<m/\m<b/\mid=(a+b)/2)(J:mid<m/\s0=mid+m-b/\r0=mid\/m<=mid/\s0=a/\r0=m)(ad:b<=n)(aG:b-a<=d+1)(ld:fs lt a m l)(qh:fs lt m b l)(ix:F9 S g cd lc ca lt a b l Q):
  c4 aw (c5 (S l)) K4 Q ⟨t,bb,(S l).e,1,o⟩:=by
 have hle:=H.le;unfold K4;simp[t17];(with_reducible repeat' first|refine ak ?_|simp[t17]);refine n2 (fun(x:Nat×Nat)=>⟨[(1,.int .i64 a),(2,.int .i64 m),(3,.int .i64 b),(4,.ptr (.loc 0) 0),(16,.int .i64 mid),(17,.int .i64 (mid+m)),(20,.int .i64 (mid+m-1)),(18,.int .i64 x.1),(19,.int .i64 x.2)],(.loc 0,[.func g lc,.func cd ca])::(S l).b,(S l).e,1,c5 (S l)⟩) (fun x=>x.2-x.1)
  (apk lt l mid m s0 r0) (s0,r0) (H.weak av av (by simp[aJ,t1,t2,t3,t4,t16,t17,t18,t19]) sG cI fun _ _ h=>h) ⟨Ψ,by simp;omega,Ψ,.inl rfl,.inl rfl⟩ ?_
 rintro⟨i,j⟩ ⟨aS,bf,b4,ep,df⟩ _;simp only at aS bf b4 ep df;have nG:=Hf i j Ω;by_cases mj:i<j
 ·simp[mj];(with_reducible repeat' first|refine ak ?_|simp[Pv.look]);obtain⟨c,ao⟩:∃c,c=(i+j)/2:=⟨_,rfl⟩;rw[<-ao]at nG;simp only[nG];(with_reducible repeat' first|refine ak ?_|simp[Pv.look]);obtain⟨u,uu⟩:∃u,l[c]? =some u:=⟨_,cg Ω⟩;obtain⟨v,M2⟩:∃v,l[mid+m-1-c]? =some v:=⟨_,cg Ω⟩;have ds:((mid:Int)+m-1-c)=(mid+m-1-c:Nat):=Ω
  simp only[H.slc,ds];refine H.doLess av (mid+m-1-c) c M2 uu ?_;simp;cases sY:lt v u with
  |false=>simp;(with_reducible repeat' first|refine ak ?_|simp);refine bR.whl (c+1,j) d7 ⟨by simp;omega,by simp;omega,b4,.inr ⟨u,v,by simpa using uu,?_,sY⟩,df⟩ (H.weakC av av d6);simp only;rw[show mid+m-(c+1)=mid+m-1-c by omega];exact M2
  |true=>simp;(with_reducible repeat' first|refine ak ?_|simp);refine bR.whl (i,c) d7 ⟨aS,by simp;omega,by simp;omega,ep,.inr ⟨u,v,uu,?_,sY⟩⟩ (H.weakC av av d6);simp only;rw[show mid+m-c-1=mid+m-1-c by omega];exact M2
 ·obtain rfl:i=j:=Ω
  obtain⟨e,he⟩:∃e,e=mid+m-i:=⟨_,rfl⟩;have ie:((mid:Int)+m-i)=(e:Nat):=Ω
  have bY:i=a\/e=b\/ ∃x y,l[i-1]? =some x/\l[e]? =some y/\lt y x=false:=by
   rcases ep with ep|⟨u,v,a1,bm,bW⟩
   ·omega
   ·exact .inr (.inr ⟨u,v,a1,by rw[he];exact bm,bW⟩)
  have cw:i=m\/e=m\/ ∃x y,l[i]? =some x/\l[e-1]? =some y/\lt y x=true:=by
   rcases df with df|⟨u,v,a1,bm,bW⟩
   ·omega
   ·exact .inr (.inr ⟨u,v,a1,by rw[he];exact bm,bW⟩)
  simp[mj];(with_reducible repeat' first|refine ak ?_|simp);rw[ie];exact ao1 H bN (a:=a) (m:=m) (b:=b) (mid:=mid) (i:=i) (e:=e) Ψ Ψ Ψ Ψ Ψ Ψ Ψ av Ω Ω Ω ad Ω Ω (fun lk aM=>akJ bs Ω Ω Ω Ω Ω Ω ld qh bY cw aM) ix
end
theorem U6(H:fh S n g cd lc ca lt)(bs:rj lt)(d:Nat):∀(l:List α) (a m b:Nat),l.length=n->b-a<=d->a<m->m<b->b<=n->fs lt a m l->fs lt m b l->
  bG aw 188 [e7 g cd lc ca,.int .i64 a,.int .i64 m,.int .i64 b] (S l) fun r ah=>r= .tuple []/\∃a6,ah=S a6/\gF a b l a6/\fs lt a b a6:=by
 induction d with
 |zero=>intro l a m b av aG DE qR;omega
 |succ d bN=>
 intro l a m b av aG DE qR ad ld qh;have af:=H.ok l;have au:∀l m,Pv.look (.loc m) (S l).b=none:=fun l=>(H.ok l).obj.1;have hu:∀l m cs,cB (.loc m) cs (S l).b=(S l).b++[(.loc m,cs)]:=fun l m cs=>kK (au l m);have ay:∀m,aL.loc m∉c5 (S l):=kD af.obj;have hle:=H.le;refine bG.mk mixed CB afq amh Ψ af.obj fun aQ cI=>?_;unfold SH;simp[e7,hu,ay,cV,au];(with_reducible repeat' first|((first|apply bJ|apply bM|apply bL)<;>intro h<;>try simp at h)|refine ak ?_|simp[hu,ay,cV,au])
 ·obtain rfl:m=a+1:=Ω
  have MQ:∀k,im a (a+1) (a+1) k=k:=by
   intro k;simp only[im];repeat' split
   all_goals omega
  obtain⟨z,bd⟩:∃z,l[a]? =some z:=⟨_,cg Ω⟩;refine n2 (fun(x:Nat×Nat)=>⟨[(1,.int .i64 a),(4,.ptr (.loc 0) 0),(8,.int .i64 x.1),(9,.int .i64 x.2)],(.loc 0,[.func g lc,.func cd ca])::(S l).b,(S l).e,1,c5 (S l)⟩) (fun x=>x.2-x.1)
   (fun x=>a+1<=x.1/\x.1<=x.2/\x.2<=b/\(∀h y,a+1<=h->h<x.1->l[h]? =some y->lt y z=true)/\(∀h y,x.2<=h->h<b->l[h]? =some y->lt y z=false)) (a+1,b)
   (H.weak av av d6 (by simp[cV,au]) aH aH) ⟨Ψ,by simp;omega,Ψ,fun h y J U=>by simp at U;omega,fun h y J U=>by simp at J;omega⟩ ?_
  rintro⟨i,j⟩ ⟨aS,bf,b4,ep,df⟩ _;simp only at aS bf b4 ep df;have hw:=Hf i j Ω;simp[Pv.look];(with_reducible repeat' first|((first|apply bJ|apply bM|apply bL)<;>intro h<;>try simp at h)|refine ak ?_|simp[Pv.look])
  ·obtain⟨c,ao⟩:∃c,c=(i+j)/2:=⟨_,rfl⟩;rw[<-ao]at hw;obtain⟨y,aC⟩:∃y,l[c]? =some y:=⟨_,cg Ω⟩;simp only[hw,H.slc];refine H.doLess av c a aC bd ?_;simp;cases sY:lt y z with
   |true=>
    simp;(with_reducible repeat' first|refine ak ?_|simp);refine bR.whl (c+1,j) d7 ⟨by simp;omega,by simp;omega,b4,fun h u J U hu=>?_,df⟩ (H.weakC av av d6);cases e:lt u z with
    |true=>rfl
    |false=>simp only at U;have:=bs.ntr _ _ _ e (fs.le bs qh J Ω Ω hu aC);rw[sY]at this;cases this
   |false=>simp;(with_reducible repeat' first|refine ak ?_|simp);refine bR.whl (i,c) d7 ⟨aS,by simp;omega,by simp;omega,ep,fun h u J U hu=>?_⟩ (H.weakC av av d6);exact bs.ntr _ _ _ sY (fs.le bs qh Ω J U aC hu)
  ·obtain rfl:i=j:=Ω
   refine n2 (fun(x:Nat×List α)=>⟨[(4,.ptr (.loc 0) 0),(8,.int .i64 i),(11,.int .i64 x.1)],(.loc 0,[.func g lc,.func cd ca])::(S x.2).b,(S x.2).e,1,c5 (S l)⟩) (fun x=>i-x.1)
    (fun x=>x.2.length=n/\a<=x.1/\x.1<i/\gF a b l x.2/\∀k,x.2[k]? =l[im a (a+1) (x.1+1) k]?) (a,l)
    (H.weakC av av d6) ⟨av,Ψ,by simp;omega,.refl _,fun k=>by simp[MQ]⟩ ?_
   rintro⟨k,lk⟩ ⟨a1,bm,bW,cZ,c6⟩ _;simp only at a1 bm bW cZ c6;simp[Pv.look];((with_reducible repeat' first|refine ak ?_|simp[Pv.look]|((first|apply bJ|apply bM|apply bL)<;>intro h<;>try simp at h))<;>(try exact ck))
   ·have bB:((k:Int)+1)=(k+1:Nat):=Ω
    rw[H.ssc,bB];refine H.doSwap a1 k (k+1) Ω Ω Ω ?_;simp;(with_reducible repeat' first|((first|apply bJ|apply bM|apply bL)<;>intro h<;>try simp at h)|refine ak ?_|simp);refine bR.whl (k+1,hA lk k (k+1)) d7 ⟨by simp[a1],by simp;omega,by simp;omega,.step cZ Ω Ω Ω Ω Ω Ω,fun t=>?_⟩ (H.weakC av (by simp[a1]) d6);rw[BL _ _ _ _ Ω Ω,c6,c6,c6];have:im a (a+1) (k+1+1) t=if t=k then im a (a+1) (k+1) (k+1)else if t=k+1 then im a (a+1) (k+1) k else im a (a+1) (k+1) t:=by
     simp only[im];repeat' split
     all_goals omega
    rw[this];split
    ·rfl
    ·split<;>rfl
   ·obtain rfl:i=k+1:=Ω
    refine H.ret av a1 (.inl rfl) ⟨rfl,lk,rfl,cZ,akz bs Ω b4 Ω qh bd ep df c6⟩
 ·obtain rfl:b=m+1:=Ω
  have MQ:∀k,im m m (m+1) k=k:=by
   intro k;simp only[im];repeat' split
   all_goals omega
  obtain⟨z,bd⟩:∃z,l[m]? =some z:=⟨_,cg Ω⟩;refine n2 (fun(x:Nat×Nat)=>⟨[(2,.int .i64 m),(4,.ptr (.loc 0) 0),(12,.int .i64 x.1),(13,.int .i64 x.2)],(.loc 0,[.func g lc,.func cd ca])::(S l).b,(S l).e,1,c5 (S l)⟩) (fun x=>x.2-x.1)
   (fun x=>a<=x.1/\x.1<=x.2/\x.2<=m/\(∀h y,a<=h->h<x.1->l[h]? =some y->lt z y=false)/\(∀h y,x.2<=h->h<m->l[h]? =some y->lt z y=true)) (a,m)
   (H.weak av av d6 (by simp[cV,au]) aH aH) ⟨Ψ,by simp;omega,Ψ,fun h y J U=>by simp at U;omega,fun h y J U=>by simp at J;omega⟩ ?_
  rintro⟨i,j⟩ ⟨aS,bf,b4,ep,df⟩ _;simp only at aS bf b4 ep df;have hw:=Hf i j Ω;simp[Pv.look];(with_reducible repeat' first|((first|apply bJ|apply bM|apply bL)<;>intro h<;>try simp at h)|refine ak ?_|simp[Pv.look])
  ·obtain⟨c,ao⟩:∃c,c=(i+j)/2:=⟨_,rfl⟩;rw[<-ao]at hw;obtain⟨y,aC⟩:∃y,l[c]? =some y:=⟨_,cg Ω⟩;simp only[hw,H.slc];refine H.doLess av m c bd aC ?_;simp;cases sY:lt z y with
   |false=>simp;((with_reducible repeat' first|refine ak ?_|simp|((first|apply bJ|apply bM|apply bL)<;>intro h<;>try simp at h))<;>(try exact ck));refine bR.whl (c+1,j) d7 ⟨by simp;omega,by simp;omega,b4,fun h u J U hu=>?_,df⟩ (H.weakC av av d6);simp only at U;exact bs.ntr _ _ _ (fs.le bs ld J Ω Ω hu aC) sY
   |true=>
    simp;((with_reducible repeat' first|refine ak ?_|simp|((first|apply bJ|apply bM|apply bL)<;>intro h<;>try simp at h))<;>(try exact ck));refine bR.whl (i,c) d7 ⟨aS,by simp;omega,by simp;omega,ep,fun h u J U hu=>?_⟩ (H.weakC av av d6);cases e:lt z u with
    |true=>rfl
    |false=>have:=bs.ntr _ _ _ (fs.le bs ld Ω J U aC hu) e;rw[sY]at this;cases this
  ·obtain rfl:i=j:=Ω
   refine n2 (fun(x:Nat×List α)=>⟨[(4,.ptr (.loc 0) 0),(12,.int .i64 i),(15,.int .i64 x.1)],(.loc 0,[.func g lc,.func cd ca])::(S x.2).b,(S x.2).e,1,c5 (S l)⟩) (fun x=>x.1)
    (fun x=>x.2.length=n/\i<=x.1/\x.1<=m/\gF a (m+1) l x.2/\∀k,x.2[k]? =l[im x.1 m (m+1) k]?) (m,l)
    (H.weakC av av d6) ⟨av,by simp;omega,Ψ,.refl _,fun k=>by simp[MQ]⟩ ?_
   rintro⟨k,lk⟩ ⟨a1,bm,bW,cZ,c6⟩ _;simp only at a1 bm bW cZ c6;simp[Pv.look];((with_reducible repeat' first|refine ak ?_|simp[Pv.look]|((first|apply bJ|apply bM|apply bL)<;>intro h<;>try simp at h))<;>(try exact ck))
   ·have bB:((k:Int)-1)=(k-1:Nat):=Ω
    rw[H.ssc,bB];refine H.doSwap a1 k (k-1) Ω Ω Ω ?_;simp;(with_reducible repeat' first|refine ak ?_|simp);refine bR.whl (k-1,hA lk k (k-1)) d7 ⟨by simp[a1],by simp;omega,by simp;omega,.step cZ Ω Ω Ω Ω Ω Ω,fun t=>?_⟩ (H.weakC av (by simp[a1]) (by simp[aJ];omega));rw[BL _ _ _ _ Ω Ω,c6,c6,c6];have:im (k-1) m (m+1) t=if t=k then im k m (m+1) (k-1)else if t=k-1 then im k m (m+1) k else im k m (m+1) t:=by
     simp only[im];repeat' split
     all_goals omega
    rw[this];split
    ·rfl
    ·split<;>rfl
   ·obtain rfl:i=k:=Ω
    refine H.ret av a1 (.inl rfl) ⟨rfl,lk,rfl,cZ,akA bs Ω b4 Ω ld bd ep df c6⟩
 ·obtain⟨mid,ME⟩:∃mid,mid=(a+b)/2:=⟨_,rfl⟩;have hw:=Hf a b Ω;rw[<-ME]at hw;simp only[hw];(with_reducible repeat' first|((first|apply bJ|apply bM|apply bL)<;>intro h<;>try simp at h)|refine ak ?_|simp[hu,ay,cV,au])
  ·exact aac (s0:=mid+m-b) (r0:=mid) H (by simp[cV,au]) aH bs bN (a:=a) (m:=m) (b:=b) (mid:=mid) Ψ Ψ Ψ Ψ Ψ Ψ d7 Ψ av ⟨DE,qR,ME⟩ Ω ad aG ld qh fun hr t o a1 bm=>H.ret av (by rw[a1.length];exact av) (.inr rfl) ⟨rfl,hr,rfl,a1,bm⟩
  ·exact aac (s0:=a) (r0:=m) H (by simp[cV,au]) aH bs bN (a:=a) (m:=m) (b:=b) (mid:=mid) Ψ Ψ Ψ Ψ Ψ Ψ Ψ Ψ av ⟨DE,qR,ME⟩ Ω ad aG ld qh fun hr t o a1 bm=>H.ret av (by rw[a1.length];exact av) (.inr rfl) ⟨rfl,hr,rfl,a1,bm⟩
end
section
open Go Go.Pv
variable {α:Type} {S:List α->cT} {n g cd:Nat} {lc ca:List aj} {lt:α->α->Bool}
def p1(lt:α->α->Bool)(z a b:Nat)(l:List α):Prop:= ∀i j x y,a<=i->i<j->j<b->i/z=j/z->l[i]? =some x->l[j]? =some y->lt y x=false
theorem p1.snoc{z q:Nat}(bd:0<z){l a6:List α}(h:p1 lt z 0 (q*z) l){b:Nat}(af:gF (q*z) b l a6)(U:fs lt (q*z) b a6):p1 lt z 0 b a6:=by
 intro i j x y hi mj ag aG ab aC;by_cases VL:j<q*z
 ·rw[af.out _ (.inl Ω)]at ab;rw[af.out _ (.inl VL)]at aC;exact h i j x y hi mj VL aG ab aC
 ·have h3:q<=j/z:=(Nat.le_div_iff_mul_le bd).2 Ω;have h4:q*z<=i:=(Nat.le_div_iff_mul_le bd).1 Ω;exact U i j x y h4 mj ag ab aC
theorem p1.srt{z q:Nat}(bd:0<z){l:List α}{a b:Nat}(h:p1 lt z a b l){c:Nat}(asD:a<=q*z)(ao:c<=(q+1)*z)(Mk:c<=b):fs lt (q*z) c l:=by intro i j x y hi mj ag ab aC;have hX:i/z=q:=Nat.div_eq_of_lt_le hi Ω;have oU:j/z=q:=Nat.div_eq_of_lt_le Ω Ω;exact h i j x y Ω mj Ω Ω ab aC
theorem p1.after{z a b bk b3:Nat}{l a6:List α}(h:p1 lt z a b l)(af:gF a bk l a6)(bg:a<=bk)(ad:b3<=b):p1 lt z bk b3 a6:=by intro i j x y hi mj ag aG ab aC;rw[af.out _ (.inr Ω)]at ab;rw[af.out _ (.inr Ω)]at aC;exact h i j x y Ω mj Ω aG ab aC
theorem L6(H:fh S n g cd lc ca lt)(bs:rj lt)(l:List α)(av:l.length=n):
  bG aw 161 [e7 g cd lc ca,.int .i64 n] (S l) fun r ah=>r= .tuple []/\∃a6,ah=S a6/\gF 0 n l a6/\fs lt 0 n a6:=by
 have af:=H.ok l;have au:∀l m,Pv.look (.loc m) (S l).b=none:=fun l=>(H.ok l).obj.1;have hu:∀l m cs,cB (.loc m) cs (S l).b=(S l).b++[(.loc m,cs)]:=fun l m cs=>kK (au l m);have ay:∀m,aL.loc m∉c5 (S l):=kD af.obj;have hle:=H.le;refine bG.mk mixed CB afo amf Ψ af.obj fun aQ cI=>?_;unfold SF;simp[e7,hu,ay,cV,au];refine n2 (fun(x:Nat×List α)=>⟨[(1,.int .i64 n),(2,.ptr (.loc 0) 0),(4,.int .i64 20),(5,.int .i64 (x.1*20)),(6,.int .i64 (x.1*20+20))],(.loc 0,[.func g lc,.func cd ca])::(S x.2).b,(S x.2).e,1,c5 (S l)⟩) (fun x=>n+20-x.1*20)
  (fun x=>x.2.length=n/\x.1*20<=n/\gF 0 n l x.2/\p1 lt 20 0 (x.1*20) x.2) (0,l)
  (H.weak av av d6 (by simp[cV,au]) aH aH) ⟨av,Ψ,.refl _,fun i j x y J U h3=>by simp at h3⟩ ?_
 rintro⟨q,lk⟩ ⟨J,U,h3,h4⟩ _;simp only at J U h3 h4;simp[Pv.look];((with_reducible repeat' first|refine ak ?_|simp[Pv.look]|((first|apply bJ|apply bM|apply bL)<;>intro h<;>try simp at h))<;>(try exact ck))
 ·have aq:((q:Int)*20)=(q*20:Nat):=Ω
  have aF:((q:Int)*20+20)=(q*20+20:Nat):=Ω
  simp only[iR H,H.slc,H.ssc,iF,aF];simp only[aq];refine H.doFn J (UX H bs lk J (q*20) (q*20+20) Ω Ω) (fun a6 h=>by rw[h.1.length];exact J) (by simp[aO,aJ,H.kdata J]) ?_;rintro a6 ⟨cP,c8⟩;have ui:a6.length=n:=by rw[cP.length];exact J
  simp;((with_reducible repeat' first|refine ak ?_|simp|((first|apply bJ|apply bM|apply bL)<;>intro h<;>try simp at h))<;>(try exact ck));refine bR.whl (q+1,a6) d7 ⟨ui,by simp;omega,h3.trans (cP.mono Ω Ω),?_⟩ (H.weakC av ui (by simp[aJ];omega));have:=h4.snoc Ω cP c8;rwa[show q*20+20=(q+1)*20 by omega]at this
 ·have aq:((q:Int)*20)=(q*20:Nat):=Ω
  simp only[iR H,H.slc,H.ssc,iF,aq];refine H.doFn J (UX H bs lk J (q*20) n Ω Ω) (fun a6 h=>by rw[h.1.length];exact J) (by simp[aO,aJ,H.kdata J]) ?_;rintro a6 ⟨cP,c8⟩;have ui:a6.length=n:=by rw[cP.length];exact J
  have fB:=h4.snoc Ω cP c8;simp;refine n2 (fun(x:Nat×List α)=>⟨[(1,.int .i64 n),(2,.ptr (.loc 0) 0),(4,.int .i64 x.1)],(.loc 0,[.func g lc,.func cd ca])::(S x.2).b,(S x.2).e,1,c5 (S l)⟩) (fun x=>1099511627776-x.1)
   (fun x=>x.2.length=n/\20<=x.1/\x.1<=2*n+20/\gF 0 n l x.2/\p1 lt x.1 0 n x.2) (20,a6)
   (H.weakC av ui d6) ⟨ui,Ψ,Ψ,h3.trans (cP.mono Ω Ω),fB⟩ ?_
  rintro⟨z,Xq⟩ ⟨jR,z2,z3,z4,z5⟩ _;simp only at jR z2 z3 z4 z5;simp[Pv.look];((with_reducible repeat' first|refine ak ?_|simp[Pv.look]|((first|apply bJ|apply bM|apply bL)<;>intro h<;>try simp at h))<;>(try exact ck))
  ·refine n2 (fun(x:Nat×List α)=>⟨[(1,.int .i64 n),(2,.ptr (.loc 0) 0),(4,.int .i64 z),(5,.int .i64 (x.1*(2*z):Nat)),(6,.int .i64 (x.1*(2*z)+2*z:Nat))],(.loc 0,[.func g lc,.func cd ca])::(S x.2).b,(S x.2).e,1,c5 (S l)⟩) (fun x=>n+2*z-x.1*(2*z))
    (fun x=>x.2.length=n/\x.1*(2*z)<=n/\gF 0 n l x.2/\p1 lt (2*z) 0 (x.1*(2*z)) x.2/\p1 lt z (x.1*(2*z)) n x.2) (0,Xq)
    (H.weakC av jR d6) ⟨jR,Ψ,z4,fun i j x y J U h3=>by simp at h3,by simpa using z5⟩ ?_
   rintro⟨p,Ey⟩ ⟨eY,dD,J1,yh,FN⟩ _;simp only at eY dD J1 yh FN;obtain⟨A,be⟩:∃A,A=p*(2*z):=⟨_,rfl⟩;have Hb:A=(2*p)*z:=by rw[be,Nat.mul_comm 2 p,Nat.mul_assoc]
   have Ma:(2*p+1)*z=A+z:=by rw[p0,<-Hb,Nat.one_mul]
   have ahp:(2*p+2)*z=A+2*z:=by rw[p0,<-Hb]
   have A0:(p+1)*(2*z)=A+2*z:=by rw[p0,<-be,Nat.one_mul]
   have ld:∀c,c<=A+z->c<=n->fs lt A c Ey:=fun c ao A6=>by have:=p1.srt (q:=2*p) Ω FN (c:=c) (by rw[<-Hb,be];omega) (by rw[Ma];exact ao) A6;rwa[<-Hb]at this
   have qh:∀c,c<=A+2*z->c<=n->fs lt (A+z) c Ey:=fun c ao A6=>by have:=p1.srt (q:=2*p+1) Ω FN (c:=c) (by rw[Ma,be];omega) (by rw[ahp];exact ao) A6;rwa[Ma]at this
   rw[<-be]at dD yh FN;simp only[<-be];simp[Pv.look];((with_reducible repeat' first|refine ak ?_|simp[Pv.look]|((first|apply bJ|apply bM|apply bL)<;>intro h<;>try simp at h))<;>(try exact ck))
   ·have bB:((A:Int)+z)=(A+z:Nat):=Ω
    have ds:((A:Int)+2*z)=(A+2*z:Nat):=Ω
    simp only[iR H,H.slc,H.ssc,iF,bB,ds];refine H.doFn eY (U6 H bs (A+2*z-A) Ey A (A+z) (A+2*z) eY Ω Ω Ω Ω (ld _ Ω Ω) (qh _ Ω Ω)) (fun a6 h=>by rw[h.1.length];exact eY) (by simp[aO,aJ,H.kdata eY]) ?_;rintro hr ⟨j6,nk⟩;have ml:hr.length=n:=by rw[j6.length];exact eY
    simp;(with_reducible repeat' first|refine ak ?_|simp);refine bR.whl (p+1,hr) (by simp only[A0,<-be];omega) ⟨ml,by simp only[A0];omega,J1.trans (j6.mono Ω Ω),?_,?_⟩ ?_
    ·simp only[A0];rw[be]at yh j6 nk;have:=yh.snoc Ω j6 nk;rwa[<-be]at this
    ·simp only[A0];exact FN.after j6 Ω Ω
    ·simp only[A0];have ahq:((p:Int)+1)*(2*(z:Int))=(A:Int)+2*z:=by have h:=eW (Nat.cast:Nat->Int) A0;push_cast at h;exact h
     exact H.weakC av ml (by simp[aJ,ahq])
   ·have bB:((A:Int)+z)=(A+z:Nat):=Ω
    simp only[iR H,H.slc,H.ssc,iF,bB];refine H.doFn eY (U6 H bs (n-A) Ey A (A+z) n eY Ω Ω Ω Ω (ld _ Ω Ω) (qh _ Ω Ω)) (fun a6 h=>by rw[h.1.length];exact eY) (by simp[aO,aJ,H.kdata eY]) ?_;rintro hr ⟨j6,nk⟩;have ml:hr.length=n:=by rw[j6.length];exact eY
    simp;((with_reducible repeat' first|refine ak ?_|simp|((first|apply bJ|apply bM|apply bL)<;>intro h<;>try simp at h))<;>(try exact ck));refine bR.whl (2*z,hr) d7 ⟨ml,by simp;omega,by simp;omega,J1.trans (j6.mono Ω Ω),?_⟩ (H.weakC av ml (by simp[aJ];omega));rw[be]at yh j6 nk;exact yh.snoc Ω j6 nk
   ·refine bR.whl (2*z,Ey) d7 ⟨eY,by simp;omega,by simp;omega,J1,?_⟩ (H.weakC av eY (by simp[aJ];omega));have h5:=ld n Ω Ω;rw[be]at yh h5;exact yh.snoc Ω (.refl _) h5
  ·refine H.ret av jR (.inr rfl) ?_;refine⟨rfl,Xq,rfl,z4,fun i j x y J U h3=>z5 i j x y J U h3 ?_⟩;rw[Nat.div_eq_of_lt Ω,Nat.div_eq_of_lt Ω]
end
section
open Go Go.Pv Go.Sort Go.RowKit
theorem aiN{w:World}{base:Nat}{e:hh}{sz:Nat}{v:Value}{n:Nat}{us:List Value}(h:w.ownsRow base e sz v n us)(az:v≠ .slice none 0 0):
  ∃g cap,v= .slice (some ⟨g,0,none⟩) n cap/\g<w.heap.size/\cap<=maxLen/\n<=cap/\us.length=n*sz/\Holds id w g 0 us.toArray:=by
 rcases h.2 with⟨lV,_⟩|⟨g,cap,cur,rfl,ad,aW,au,hm,af,aI⟩
 ·exact absurd lV az
 ·have bs:g<w.heap.size:=by
   rcases Nat.lt_or_ge g w.heap.size with b9|b9
   ·exact b9
   ·rw[Array.getElem?_eq_none b9]at aW;cases aW
  refine⟨g,cap,rfl,bs,hm,au,h.1,fun j ag=>?_⟩;have jX:j<us.length:=by simpa using ag
  have av:=h.1;refine⟨?_,by simp[World.frozen?,aW]⟩;have aq:(cur.toList.take (n*sz))[j]? =us[j]?:=by rw[aI]
  rw[List.getElem?_take,if_pos Ω,u7,cg jX]at aq;simp only[World.cell?,aW,Nat.zero_add];simp only[k1,hg,if_false];rw[aq];simp[getElem!_pos,jX]
theorem ana{w:World}{base:Nat}{e:hh}{sz g n cap q:Nat}{us:List Value}{F:Array Value}(h:w.ownsRow base e sz (.slice (some ⟨g,0,none⟩) n cap) n us)(gy:F.size=n*sz):
  (putRow id (Sort.ahead w q) g 0 F).ownsRow base e sz (.slice (some ⟨g,0,none⟩) n cap) n F.toList:=by
 rcases h.2 with⟨lV,_⟩|⟨fb,Da,cur,lV,ad,aW,au,hm,af,aI⟩
 ·cases lV
 ·injection lV with aq _ bB;injection aq with aq;injection aq with aq;subst aq;subst bB;refine⟨by simpa using gy,.inr ⟨g,cap,putCells id 0 F cur,rfl,ad,?_,au,hm,by simpa[putCells]using af,?_⟩⟩
  ·simp[putRow,mapBlock,Sort.ahead,Array.getElem?_modify,aW,onCells]
  ·have hle:n*sz<=cur.size:=by rw[af];exact rh _ au
   apply List.ext_getElem?;intro j;rw[List.getElem?_take,u7,u7];by_cases ag:j<n*sz
   ·have aif:j<cur.size:=Ω
    simp only[if_pos ag,putCells,Array.getElem?_mapIdx,Array.getElem?_eq_getElem aif,oK];rw[if_pos Ω];simp[getElem!_pos,show j<F.size by omega]
   ·simp[ag];omega
end
end Go.Proofs.YtohaalphocaebaaGreatDoor
namespace Go.Pv
section
open Go Go.RowKit Go.Lib Go.Sort Go.Proofs.YtohaalphocaebaaGreatDoor
theorem W3{S:aL->Prop}:∀{l:List aj},aO S l↔∀x∈l,aJ S x
 |[]=>by simp[aO]
 |x::r=>by simp only[aO,W3 (l:=r),fm,forall_eq_or_imp]
theorem WW{α:Type}{s:cT}{l:List (aL×α)}:kx s l↔∀k,(look k l).isSome->inObs s k:=by
 refine⟨fun h k ae=>BC h k ae,fun h=>?_⟩;have:∀a6:List (aL×α),(∀x∈a6,inObs s x.1)->kx s a6:=by
  intro a6;induction a6 with
  |nil=>intro _;trivial
  |cons x r bN=>obtain⟨k,x⟩:=x;exact fun h=>⟨h (k,x) Ψ,bN fun y aC=>h y (by simp[aC])⟩
 exact this l fun x ab=>h x.1 (wb (x:=x.2) ab)
theorem Pj{w:World}{Z:bc}{sz:Nat}:∀{xs:List aj} {us:List Value} {i:Nat} {p:aj},dH w Z sz xs us->xs[i]? =some p->∃u,(us.drop (i*sz)).take sz=u.cells.toList/\a8 w Z p u/\u.cells.size=sz/\∀c∈u.cells.toList,c.oneCell'=true
 |[],_,_,_,_,bF=>by simp at bF
 |x::xs,us,0,p,h,bF=>by simp only[dH]at h;obtain⟨u,cj,rfl,⟨J,U,h3⟩,_⟩:=h;simp at bF;subst bF;refine⟨u,?_,J,U,h3⟩;simp only[Nat.zero_mul,List.drop_zero];rw[List.take_append_of_le_length (by simp[U])];exact hl (by simp[U])
 |x::xs,us,i+1,p,h,bF=>by simp only[dH]at h;obtain⟨u,cj,rfl,⟨J,U,h3⟩,h5⟩:=h;obtain⟨v,aq,aF⟩:=Pj (i:=i) h5 (by simpa using bF);refine⟨v,?_,aF⟩;rw[<-aq,Nat.succ_mul,Nat.add_comm,<-List.drop_drop];congr 2;rw[List.drop_append_of_le_length (by simp[U]),List.drop_of_length_le (by simp[U])];rfl
theorem PB:∀(a7:List Value) (s:Nat) (F:Array Value),s+a7.length<=F.size->(setMany F s a7).toList=F.toList.take s++a7++F.toList.drop (s+a7.length)
 |[],s,F,h=>by simp[setMany]
 |v::r,s,F,h=>by
  simp only[mG]at h;rw[setMany,PB r (s+1) _ d7];have bs:s<F.toList.length:=by simp;omega
  have aq:(F.setIfInBounds s v).toList=F.toList.set s v:=by simp
  rw[aq];have aF:(F.toList.set s v).take (s+1)=F.toList.take s++[v]:=by rw[List.take_succ,List.getElem?_set_self bs,List.take_set_of_le (dZ _)];simp
  have bB:(F.toList.set s v).drop (s+1+r.length)=F.toList.drop (s+(v::r).length):=by rw[List.drop_set_of_lt Ω];congr 1;simp;omega
  rw[aF,bB];simp
theorem acn(w:World):Sort.ahead w 0=w:=by simp[Sort.ahead]
theorem U5{P:cK}(yM:Bool)(cd:Nat)(ab:∀args W,(callFunc cd args).run P W=((FV yM args).run P W).andThen fun v w'=>.ok (.value v) w')(e:hh)(eB:TypeInfo)(ug:P.info? e=some eB)(yQ:(∀w,(Go.isAgg e).run P w= .ok true w)\/(eB.size=1/\∀w,(Go.isAgg e).run P w= .ok false w)){s:cT}(af:dP s){K n el sz:Nat}(dS:eB.size=sz){xs:List aj}(ae:look (.obj K) s.e=some ⟨n,el,sz,some xs⟩)
  (i j:Nat) (hi:i<n) (ag:j<n):bG P cd [.int .i64 i,.int .i64 j,.row sz (.obj K) n,.cst (typeHandle P e)] s fun r ah=>r= .tuple []/\ah=⟨s.b,cB (.obj K) ⟨n,el,sz,some (hA xs i j)⟩ s.e⟩:=by
 subst dS;refine bG.sem af.obj fun w Z a7 lf aM=>?_;right;have s0:=aM.slot 0;have s1:=aM.slot 1;have s2:=aM.slot 2;have s3:=aM.slot 3;simp[j2,get,a8]at s0 s1 s2 s3;obtain⟨v,us,a1,bm,bW,cZ⟩:=aM.good.own (.obj K) _ ae;obtain⟨c6,o1,wm⟩:=cZ _ rfl;simp only at c6 o1 a1 bm;obtain⟨⟨g0,acT,sG⟩,_,n',fl,aq,aF,bB⟩:=s2;rw[a1]at aq;simp only[dE,j7]at aq;obtain⟨rfl,rfl⟩:=aq;have az:=bB rfl;have cA:v≠ .slice none 0 0:=by rw[<-az,sG];simp
 obtain⟨g,cap,rfl,rG,qQ,ah5,DN,DA⟩:=aiN bm cA;have ajc:a7= #[.int .i64 i,.int .i64 j,.slice (some ⟨g,0,none⟩) n cap,typeHandle P e]:=by
  have J:a7.size=4:=by simpa using lf
  apply Array.ext (by simpa using J);intro t U h3;simp at h3;rcases(by omega:t=0\/t=1\/t=2\/t=3)with rfl|rfl|rfl|rfl
  ·simpa[Array.getD,J]using s0
  ·simpa[Array.getD,J]using s1
  ·simpa[Array.getD,J]using az
  ·simpa[Array.getD,J]using s3
 subst ajc;obtain⟨p,bF⟩:∃p,xs[i]? =some p:=⟨_,cg Ω⟩;obtain⟨q,bE⟩:∃q,xs[j]? =some q:=⟨_,cg Ω⟩;obtain⟨u,jx,j5,ra,Aa⟩:=Pj o1 bF;obtain⟨x,pV,tD,tE,J6⟩:=Pj o1 bE;have VW:i*eB.size+eB.size<=n*eB.size:=by have:=rh eB.size (show i+1<=n from hi);rwa[p0,Nat.one_mul]at this
 have VX:j*eB.size+eB.size<=n*eB.size:=by have:=rh eB.size (show j+1<=n from ag);rwa[p0,Nat.one_mul]at this
 have cell:∀t v,us[t]? =some v->w.cell? ⟨g,t,none⟩=some v:=fun t v aI=>by obtain⟨J,U⟩:=fD.1 aI;have:=(DA t (by simpa using J)).1;simp at this;rw[this];simp[getElem!_pos,J,U]
 have G2:∀t,t<n*eB.size->w.frozen? ⟨g,t,none⟩=false:=fun t aI=>by have:=(DA t (by simpa[DN]using aI)).2;simpa using this
 have run:(FV yM #[.int .i64 i,.int .i64 j,.slice (some ⟨g,0,none⟩) n cap,typeHandle P e]).run P w= .ok (.tuple #[]) ((w.setCells g (0+i*eB.size) x.cells.toList).setCells g (0+j*eB.size) u.cells.toList):=by
  rcases yQ with yQ|⟨G9,yQ⟩
  ·exact run_swap_cells (P:=P) yM e eB ug yQ g 0 n cap i j hi ag u.cells.toList x.cells.toList (by simp[ra]) (by simp[tE]) Aa J6 w
     (fun k v az=>by
      rw[<-jx,List.getElem?_take]at az;split at az
      ·rw[List.getElem?_drop]at az;simpa using cell _ _ az
      ·cases az)
     (fun k v az=>by
      rw[<-pV,List.getElem?_take]at az;split at az
      ·rw[List.getElem?_drop]at az;simpa using cell _ _ az
      ·cases az)
     (fun k ae=>by simpa using G2 (i*eB.size+k) Ω) (fun k ae=>by simpa using G2 (j*eB.size+k) Ω)
  ·rw[G9]at jx ra pV tE⊢;obtain⟨GI,Ml⟩:∃c,u.cells.toList=[c]:=List.length_eq_one_iff.1 (by simpa using ra);obtain⟨p7,kf⟩:∃c,x.cells.toList=[c]:=List.length_eq_one_iff.1 (by simpa using tE);rw[Ml]at jx Aa⊢;rw[kf]at pV J6⊢;simp only[World.setCells,Nat.mul_one]at jx pV⊢;have U8:us[i]? =some GI:=by have:=eW (·[0]?) jx;simpa using this
   have Va:us[j]? =some p7:=by have:=eW (·[0]?) pV;simpa using this
   have:=run_swap_one (P:=P) yM e eB ug G9 yQ g 0 n cap i j hi ag GI p7 (Aa GI Ψ) (J6 p7 Ψ) w (by simpa using cell i GI U8) (by simpa using cell j p7 Va) (by simpa using G2 i (by rw[G9];omega)) (by simpa using G2 j (by rw[G9];omega));simpa using this
 have aje:putRow id w g 0 us.toArray=w:=putRow_self id w g 0 _ DA;have ai5:us.toArray.size=n*eB.size:=by simpa using DN
 have zc:w.setCells g (0+i*eB.size) x.cells.toList=putRow id w g 0 (setMany us.toArray (i*eB.size) x.cells.toList):=by have J:=setCells_putRow w g 0 x.cells.toList (i*eB.size) us.toArray (by simp[tE,DN];exact VW);rw[aje]at J;exact J
 obtain⟨iC,n5⟩:∃iC,iC=setMany us.toArray (i*eB.size) x.cells.toList:=⟨_,rfl⟩;have ahw:iC.toList=us.take (i*eB.size)++x.cells.toList++us.drop (i*eB.size+eB.size):=by rw[n5,PB _ _ _ (by simp[tE,DN];exact VW)];simp[tE]
 have Mc:iC.size=n*eB.size:=by rw[n5,size_setMany];exact ai5
 have nG:(w.setCells g (0+i*eB.size) x.cells.toList).setCells g (0+j*eB.size) u.cells.toList=putRow id w g 0 (setMany iC (j*eB.size) u.cells.toList):=by rw[zc,<-n5,setCells_putRow w g 0 u.cells.toList (j*eB.size) iC (by simp[ra,Mc];exact VX)]
 obtain⟨iT,Dz⟩:∃iT,iT=setMany iC (j*eB.size) u.cells.toList:=⟨_,rfl⟩;have ahx:iT.toList=iC.toList.take (j*eB.size)++u.cells.toList++iC.toList.drop (j*eB.size+eB.size):=by rw[Dz,PB _ _ _ (by simp[ra,Mc];exact VX)];simp[ra]
 have ahy:iT.size=n*eB.size:=by rw[Dz,size_setMany];exact Mc
 have eu:=Jj o1 bF tD tE J6;rw[<-ahw]at eu;have fe:=Jj (i:=j) (q:=q) eu (by rw[List.getElem?_set];split;(rename_i e;subst e;rw[if_pos Ω]);exact bE) j5 ra Aa;rw[<-ahx]at fe;have HJ:(xs.set i q).set j p=hA xs i j:=by simp[hA,bF,bE]
 rw[HJ]at fe;have hlen:(hA xs i j).length=n:=by simpa using c6
 have mo:=ana (q:=0) (F:=iT) bm ahy;rw[acn]at mo;obtain⟨j6,nk,_⟩:=aM.setRowM (w':=putRow id w g 0 iT) ae rfl a1 (bl:=g) rfl (v':= .slice (some ⟨g,0,none⟩) n cap) rfl (xs':=hA xs i j) (us:=iT.toList) (.inl ⟨hlen,rfl⟩) rfl rfl rfl
  (fun t aI=>by simp[putRow,mapBlock,Array.getElem?_modify,lR aI]) (by simp[putRow,mapBlock]) (by rw[hlen];exact mo) fe
 refine⟨.tuple #[],putRow id w g 0 iT,?_,?_⟩
 ·rw[ab,run,nG,<-Dz];rfl
 ·have gU:∀k,inObs ⟨s.b,cB (.obj K) ⟨n,el,eB.size,some (hA xs i j)⟩ s.e⟩ k↔inObs s k:=fun k=>by
   unfold inObs;simp only[ju];by_cases c7:aL.obj K=k
   ·subst c7;simp[ae]
   ·simp[c7]
  refine⟨_,_,_,_,.tuple [],⟨s.b,cB (.obj K) ⟨n,el,eB.size,some (hA xs i j)⟩ s.e⟩,rfl,j6,by simp[a8,cX],WW.2 fun k nD=>(gU k).2 (.inl nD),WW.2 fun k nD=>(gU k).2 (.inr nD),fun k cs ao=>⟨ao,(gU k).2 (.inl (by simp at ao;simp[ao])),ki (fun k h=>(gU k).2 h) _ (af.kb k cs ao)⟩,fun k o ay=>⟨by simpa[hlen]using ay,?_,fun ys aC=>?_⟩,⟨af.obj.1,fun m=>?_⟩,by simp[aJ,aO],rfl,rfl⟩
  ·exact(.inr (by simp at ay;simp[ay]))
  ·simp only[ju]at ay;split at ay
   ·cases ay;simp only[dE]at aC;subst aC;have VQ:=af.ke _ _ ae xs rfl;refine ki (fun k h=>(gU k).2 h) _ ?_;rw[W3]at VQ⊢;exact fun z bd=>VQ z ((Xp xs i j).mem_iff.1 bd)
   ·exact ki (fun k h=>(gU k).2 h) _ (af.ke k o ay ys aC)
  ·simp only[ju];simp[af.obj.2 m]
theorem U4{P:cK}(yM:Bool)(cd:Nat)(ab:∀args W,(callFunc cd args).run P W=((FV yM args).run P W).andThen fun v w'=>.ok (.value v) w')(e:hh)(eB:TypeInfo)(ug:P.info? e=some eB)(yQ:∀w,(Go.isAgg e).run P w= .ok true w){s:cT}(af:dP s){K n el sz:Nat}(dS:eB.size=sz){xs:List aj}(ae:look (.obj K) s.e=some ⟨n,el,sz,some xs⟩)
  (i j:Nat) (hi:i<n) (ag:j<n):bG P cd [.int .i64 i,.int .i64 j,.row sz (.obj K) n,.cst (typeHandle P e)] s fun r ah=>r= .tuple []/\ah=⟨s.b,cB (.obj K) ⟨n,el,sz,some (hA xs i j)⟩ s.e⟩:=U5 yM cd ab e eB ug (.inl yQ) af dS ae i j hi ag
end
end Go.Pv
namespace Go.Proofs.YtohaalphocaebaaGreatDoor
section
open Go Go.RowKit Go.Lib Go.Sort Go.Pv
set_option maxRecDepth 100000 in
theorem aoU(t e:hh)(i eB:TypeInfo)(hi:aw.info? t=some i)(aG:i.desc= .slice e)(D0:aw.packed t=false)(ug:aw.info? e=some eB)(ke:Nat)(vH:∀w,(abJ e).run aw w= .ok ke w)
  (p:Option Addr) (n c:Nat) (au:n<4611686018427387904) (f:Nat) (aN:aw.funcs.findIdx? (·.name== "internal/reflectlite" ++ ".Swapper$" ++toString (swapperK n eB ke))=some f) (Xl:Fn) (Nz rR:Array Value) (w:World) (R:World->Prop)
  (bF:Calls aw 161 #[.agg #[.func Xl Nz rR,.func (.func f) #[] (sliceBound aw e eB ke p n c)],.int .i64 n] ((w.alloc (.cells #[.slice p n c] t)).alloc (.cells #[typeHandle aw t,.pointer (some ⟨w.heap.size,0,none⟩),.int .u64 151] 150)) fun e w'=>e= .returned (.tuple #[])/\R w'):
  Calls aw 138 #[.iface t (.slice p n c),.func Xl Nz rR] w fun e w'=>e= .returned (.tuple #[])/\R w':=by
 have az:=run_valueOf_slice (P:=aw) t e i hi aG p n c w;have af:=fun w=>run_swapper_slice (P:=aw) t e i eB hi aG ug ke vH p n c f aN w;have av:=fun a w bg=>run_valueLen_slice (P:=aw) t e i hi aG D0 a p n c w bg;unfold sliceBound at bF;generalize (if swapperK n eB ke<=2 then(#[]:Array Value)else #[.slice p n c,typeHandle aw e])=B at af bF;have ah9:aw.globals.size=3:=by kernel_rfl
 simp only[typeHandle,ah9]at az av bF;have GN:∀args w,(callFunc 161 args).run aw w= .ok (.enter 161 args) w:=enters_of Tryz.func161 co rfl;go_enter Tryz.func138,Tryz.ntmps138;go_wp2;rw[run_callFunc_extern Tryz.func159 co co co (e:=fun args=>aq3 (args.getD 0 (.tuple #[]))) co,
  show Sem.run aw ((fun args:Array Value=>aq3 (args.getD 0 (.tuple #[]))) #[.iface t (.slice p n c)]) w=_ from az]
 simp only[Result.andThen];rw[Oper.upon_value];go_wp2;rw[run_callFunc_extern Tryz.func160 co co co (e:=avr "internal/reflectlite" (aq4 "Swapper")) co,af];simp only[Result.andThen];rw[Oper.upon_value];go_wp2;rw[run_callFunc_extern Tryz.func162 co co co (e:=avt (aq4 "reflectlite.Value.Len" 0) avs) co,
  av _ _ Ψ]
 simp only[Result.andThen];rw[Oper.upon_value];go_wp2_with (go_at_fn 161;refine bF.mono ?_;rintro e w' ⟨rfl,bH⟩);go_end0;exact⟨rfl,bH⟩
theorem _root_.Go.Pv.Good.prMono{pr E1:Nat->Prop}{w:World}{Z:bc}{b:List (aL×List aj)}{e:List (aL×fP)}(h:Pv.Good pr w Z b e)(bF:∀bl,pr bl->fA Z ⟨b,e⟩ bl->E1 bl):Pv.Good E1 w Z b e:=by
 refine⟨h.alt,fun k cs ae=>?_,h.inj,fun g o aW=>?_,h.oinj,h.obx,h.one,h.otr⟩
 ·obtain⟨bl,us,el,f1,f2,f3⟩:=h.box k cs ae;exact⟨bl,us,el,f1,bF bl f2 (.inl ⟨k,by simp[ae],f1⟩),f3⟩
 ·obtain⟨v,us,f1,f2,f3,f4⟩:=h.own g o aW;exact⟨v,us,f1,f2,fun bl ad=>⟨bF bl (f3 bl ad).1 (.inr ⟨g,o.n,v,by simp[aW],f1,ad⟩),(f3 bl ad).2⟩,f4⟩
theorem Vb(w:World)(ei ee:Obj):w.grownBy ((w.alloc ei).alloc ee) none:=by
 have J:w.heap.size<=(w.alloc ei).heap.size:=by simp
 have U:(w.alloc ei).heap.size<=((w.alloc ei).alloc ee).heap.size:=by simp
 exact⟨rfl,rfl,rfl,ha J U,fun k ae _=>(Below.heap_alloc _ ee k (Nat.lt_of_lt_of_le ae J)).trans (Below.heap_alloc w ei k ae)⟩
def dT{α:Type}(e:α->aj)(K B el sz:Nat)(l:List α):cT:=⟨[(.obj B,[.row sz (.obj K) l.length])],[(.obj K,⟨l.length,el,sz,some (l.map e)⟩)]⟩
section
variable {α:Type} {e:α->aj} (he:∀S x,aJ S (e x)) {K B el sz:Nat}
include he
theorem aj3(S:aL->Prop)(l:List α):aO S (l.map e):=by
 induction l with
 |nil=>simp[aO]
 |cons x r bN=>simp only[gZ,aO];exact⟨he S x,bN⟩
theorem yu(l:List α):dP (dT e K B el sz l):=by unfold dT;refine dP.of ⟨by intro m;simp[Pv.look],by intro m;simp[Pv.look]⟩ f8 ?_;intro x ab xs gA;simp at ab;subst ab;simp at gA;subst gA;exact aj3 he _ l
omit he in
theorem yv(l a6:List α):Same (dT e K B el sz l) (dT e K B el sz a6):=by
 refine⟨fun k=>?_,fun k=>?_⟩
 ·simp only[dT,Pv.look];split<;>rfl
 ·simp only[dT,Pv.look];split<;>rfl
theorem agD(t:hh)(i eB:TypeInfo)(hi:aw.info? t=some i)(aG:i.desc= .slice el)(D0:aw.packed t=false)(ug:aw.info? el=some eB)(ke:Nat)(vH:∀w,(abJ el).run aw w= .ok ke w)(kp:∀n,2<=n->swapperK n eB ke=9)
  (g:Nat) (lt:α->α->Bool) (bs:rj lt) (l:List α) (av:l.length<=68719476736)
  (y1:∀a6:List α,a6.length=l.length->∀(i j:Nat) x y,a6[i]? =some x->a6[j]? =some y->bG aw g [.int .i64 i,.int .i64 j,.ptr (.obj B) 0] (dT e K B el sz a6) fun r ah=>r= .bool (lt x y)/\ah=dT e K B el sz a6)
  (Bo:∀a6:List α,a6.length=l.length->∀i j:Nat,i<l.length->j<l.length->bG aw 186 [.int .i64 i,.int .i64 j,.row sz (.obj K) l.length,.cst (typeHandle aw el)] (dT e K B el sz a6) fun r ah=>r= .tuple []/\ah=dT e K B el sz (hA a6 i j)):
  bG aw 138 [.iface t (.row sz (.obj K) l.length),.func g [.ptr (.obj B) 0]] (dT e K B el sz l) fun r ah=>r= .tuple []/\∃a6,ah=dT e K B el sz a6/\a6.Perm l/\a6.Pairwise fun x y=>lt y x=false:=by
 have DK:aw.funcs.findIdx? (·.name== "internal/reflectlite" ++ ".Swapper$" ++toString 1)=some 178:=by kernel_rfl
 have vD:aw.funcs.findIdx? (·.name== "internal/reflectlite" ++ ".Swapper$" ++toString 2)=some 179:=by kernel_rfl
 have Ms:aw.funcs.findIdx? (·.name== "internal/reflectlite" ++ ".Swapper$" ++toString 9)=some 186:=by kernel_rfl
 have MW:∃f ca,aw.funcs.findIdx? (·.name== "internal/reflectlite" ++ ".Swapper$" ++toString (swapperK l.length eB ke))=some f/\(ca=(if swapperK l.length eB ke<=2 then []else [aj.row sz (.obj K) l.length,.cst (typeHandle aw el)]))/\
   bG aw 161 [e7 g f [.ptr (.obj B) 0] ca,.int .i64 l.length] (dT e K B el sz l) fun r ah=>r= .tuple []/\∃a6,ah=dT e K B el sz a6/\gF 0 l.length l a6/\fs lt 0 l.length a6:=by
  have eh:=fun a6=>yu (K:=K) (B:=B) (el:=el) (sz:=sz) he a6;rcases(by omega:l.length=0\/l.length=1\/2<=l.length)with bz|J|U
  ·refine⟨178,[],by rw[bz];exact DK,by rw[bz];rfl,L6 (lt:=lt) ⟨eh,fun ky hr _ _=>yv ky hr,fun a6 _=>by simp[aO,aJ,inObs,dT,Pv.look],fun a6 _=>by simp[aO],by simp[eb,dq],rfl,av,fun a6 h=>y1 a6 h,fun a6 _ U i j hi=>Ω⟩ bs l rfl⟩
  ·refine⟨179,[],by rw[J];exact vD,by rw[J];rfl,L6 (lt:=lt) ⟨eh,fun ky hr _ _=>yv ky hr,fun a6 _=>by simp[aO,aJ,inObs,dT,Pv.look],fun a6 _=>by simp[aO],by simp[eb,dq],rfl,av,fun a6 h=>y1 a6 h,fun a6 _ U i j hi ag=>Ω⟩ bs l rfl⟩
  ·refine⟨186,_,by rw[kp _ U];exact Ms,rfl,?_⟩;rw[kp _ U];simp only[show¬((9:Nat)<=2)from by decide,if_false];exact L6 (lt:=lt) ⟨eh,fun ky hr _ _=>yv ky hr,fun a6 _=>by simp[aO,aJ,inObs,dT,Pv.look],fun a6 _=>by simp[aO,aJ,inObs,dT,Pv.look],by simp[eb,dq],by simp[eb,dq],av,fun a6 h=>y1 a6 h,fun a6 h _ i j hi ag=>Bo a6 h i j hi ag⟩ bs l rfl
 obtain⟨f,ca,aN,MS,dd⟩:=MW;intro w Z a7 aW ab aM;have pF:=c2.start (yu he l).obj aW ab aM;have MN:=aM;simp only[cX,a8]at aM;obtain⟨v0,vs1,hv0,⟨u,rfl,⟨b,cap,rfl⟩,h7,n',fl,aq,aF,bB⟩,v1,vs2,hv1,⟨rR,rfl,rI⟩,rfl⟩:=aM;have lf:a7= #[.iface t (.slice (some ⟨b,0,none⟩) l.length cap),.func (.func g) #[] rR]:=by apply Array.ext';rw[hv0,hv1]
 subst lf;have qg:∃fn,aw.funcs[(138:Nat)]? =some fn/\fn.body.isSome=true/\(fn.name== "runtime.NumGoroutine")=false:=⟨_,Tryz.func138,by kernel_rfl,by kernel_rfl⟩;refine .inl ⟨qg,?_⟩;obtain⟨dD,nG⟩:∃dD,dD=(w.alloc (.cells #[.slice (some ⟨b,0,none⟩) l.length cap] t)).alloc (.cells #[typeHandle aw t,.pointer (some ⟨w.heap.size,0,none⟩),.int .u64 151] 150):=⟨_,rfl⟩;have ks:w.grownBy dD none:=by rw[nG];exact Vb _ _ _
 have MO:=pF.grown ks;have lG:ma w Z dD Z:=⟨fun b o be=>⟨be,GF ks (aW.alt b o be)⟩,fun _ _ _ h=>h,fun _ n u _ h=>⟨n,u,h,.inl ⟨rfl,rfl⟩⟩,fun b o be=>xY (ks.block b (aW.alt b o be) Ψ),fun _ _ _ _ h=>h⟩;have qQ:Pv.Good (fA Z (dT e K B el sz l)) dD Z (dT e K B el sz l).b (dT e K B el sz l).e:=MO.good.prMono fun bl _ h=>h;have l0:=Jn lG MN;simp only[cX]at l0;obtain⟨a0,acC,ua,D2,bA,acD,lY,aiV,rfl⟩:=l0;simp at ua;obtain⟨rfl,rfl⟩:=ua;simp at lY;subst lY;have MR:a8 dD Z (.row sz (.obj K) l.length) (.slice (some ⟨b,0,none⟩) l.length cap):=by simp only[a8]at D2;obtain⟨u,hu,h⟩:=D2;simp at hu;obtain⟨_,rfl⟩:=hu;simp only[a8];exact h
 have lH:cX dD Z ca (sliceBound aw el eB ke (some ⟨b,0,none⟩) l.length cap).toList:=by
  unfold sliceBound;rw[MS];split
  ·simp[cX]
  ·simp only[cX];exact⟨_,_,rfl,MR,_,_,rfl,by simp[a8],rfl⟩
 have vz:cX dD Z [e7 g f [.ptr (.obj B) 0] ca,.int .i64 l.length] (#[.agg #[.func (.func g) #[] rR,.func (.func f) #[] (sliceBound aw el eB ke (some ⟨b,0,none⟩) l.length cap)],.int .i64 l.length]:Array Value).toList:=by simp only[cX,e7];refine⟨_,_,rfl,?_,_,_,rfl,by simp[a8],rfl⟩;simp only[a8,dm];exact⟨_,rfl,_,_,rfl,⟨⟨rR,rfl,Jn lG rI⟩,rfl⟩,_,_,rfl,⟨⟨_,rfl,lH⟩,rfl⟩,rfl⟩
 have Mp:=dd dD Z _ qQ ab vz;have GN:∀args w,(callFunc 161 args).run aw w= .ok (.enter 161 args) w:=enters_of Tryz.func161 co rfl;rcases Mp with⟨_,ao⟩|⟨v,w',ao,_⟩
 ·have MD:=aoU t el i eB hi aG D0 ug ke vH (some ⟨b,0,none⟩) l.length cap Ω f aN (.func g) #[] rR w
   (fun w'=> ∃ah bh,(∃a6,ah=dT e K B el sz a6/\gF 0 l.length l a6/\fs lt 0 l.length a6)/\Pv.Good (fun bl=>fA Z (dT e K B el sz l) bl\/dD.heap.size<=bl) w' bh ah.b ah.e/\pw bh ah/\je ah/\qB ⟨dD,Z,fA Z (dT e K B el sz l),0,c5 (dT e K B el sz l)⟩ w' bh) (by
    rw[<-nG];refine ao.mono ?_;rintro e w' ⟨v,r,ah,bh,rfl,⟨rfl,bE⟩,xr,h4,h5,c9,dX⟩;simp only[a8,cX]at xr;obtain⟨us,rfl,rL⟩:=xr;have:us= #[]:=by apply Array.ext';simpa using rL
    subst this;exact⟨rfl,ah,bh,bE,h4,h5,c9,dX⟩)
  refine MD.mono ?_;rintro e w' ⟨rfl,ah,bh,⟨a6,rfl,HI,Bn⟩,h4,h5,c9,dX⟩;refine⟨.tuple #[],.tuple [],_,bh,rfl,⟨rfl,a6,rfl,HI.perm,?_⟩,by simp[a8,cX],h4.prMono fun bl h _=>?_,h5,c9,⟨dX.os.trans ks.os,dX.tape.trans ks.tape,dX.output.trans ks.output,ha ks.size dX.size,fun k ae hm=>?_,fun b o be=>?_,fun b o be=>?_,dX.obj,dX.obn,dX.row,dX.obr,dX.trd,fun k j b ad=>⟨(dX.trb k j b ad).1.imp id (fun h=>ha ks.size h),(dX.trb k j b ad).2⟩,dX.trn,fun b o be=>(dX.sh b o be).trans (lG.sh b o be)⟩⟩
  ·have y2:=HI.length;rw[<-y2]at Bn;exact Bn.pairwise
  ·rcases h with h|h
   ·exact .inl h
   ·exact .inr (ha ks.size h)
  ·rw[dX.block k (Nat.lt_of_lt_of_le ae ks.size) hm];exact ks.block k ae Ψ
  ·obtain⟨aS,bf⟩:=dX.keep b o be;exact⟨aS,bf.trans (lG.A b o be).2⟩
  ·rcases dX.fresh b o be with h|h|h
   ·exact .inl h
   ·exact .inr (.inl h)
   ·exact .inr (.inr (ha ks.size h))
 ·rw[GN]at ao;cases ao
end
end
end Go.Proofs.YtohaalphocaebaaGreatDoor
namespace Go.Proofs
section
open Go.Shelf
def Tryz.lays6_ren:Go.Shelf.Ren:=⟨fun|6=>147|10=>159|11=>160|12=>162|13=>169|14=>170|24=>194|25=>195|26=>187|27=>196|28=>197|29=>198|30=>199|31=>200|32=>201|33=>202|34=>209|35=>210|36=>211|37=>212|38=>213|39=>218|n=>n,fun|20=>20|26=>138|35=>150|0=>0|37=>152|3=>3|41=>117|44=>156|49=>181|51=>170|4=>4|54=>183|53=>182|58=>161|5=>5|9=>9|60=>190|64=>194|66=>197|67=>198|17=>17|32=>147|33=>148|82=>227|12=>12|75=>220|76=>221|77=>222|78=>223|79=>224|80=>225|n=>n,fun|n=>n⟩
theorem Tryz.lays6:Go.Proofs.LaysGg.n6 aw Tryz.lays6_ren:={
 mixed:=by kernel_rfl
 f6:=Tryz.func147.trans (eW some co)
 f10:=Tryz.func159.trans (eW some co)
 f11:=Tryz.func160.trans (eW some co)
 f12:=Tryz.func162.trans (eW some co)
 f13:=Tryz.func169.trans (eW some co)
 f14:=Tryz.func170.trans (eW some co)
 f24:=Tryz.func194.trans (eW some co)
 f25:=Tryz.func195.trans (eW some co)
 f26:=Tryz.func187.trans (eW some co)
 f27:=Tryz.func196.trans (eW some co)
 f28:=Tryz.func197.trans (eW some co)
 f29:=Tryz.func198.trans (eW some co)
 f30:=Tryz.func199.trans (eW some co)
 f31:=Tryz.func200.trans (eW some co)
 f32:=Tryz.func201.trans (eW some co)
 f33:=Tryz.func202.trans (eW some co)
 f34:=Tryz.func209.trans (eW some co)
 f35:=Tryz.func210.trans (eW some co)
 f36:=Tryz.func211.trans (eW some co)
 f37:=Tryz.func212.trans (eW some co)
 f38:=Tryz.func213.trans (eW some co)
 f39:=Tryz.func218.trans (eW some co)
 t0:=Tryz.underlying0
 a0:=Tryz.isAgg0
 z0:=Tryz.sizeOf0
 v0:=Tryz.zeroValue0
 i0:=by kernel_rfl
 t3:=Tryz.underlying3
 a3:=Tryz.isAgg3
 z3:=Tryz.sizeOf3
 v3:=Tryz.zeroValue3
 i3:=by kernel_rfl
 t4:=Tryz.underlying4
 a4:=Tryz.isAgg4
 z4:=Tryz.sizeOf4
 v4:=Tryz.zeroValue4
 i4:=by kernel_rfl
 t5:=Tryz.underlying5
 a5:=Tryz.isAgg5
 z5:=Tryz.sizeOf5
 v5:=Tryz.zeroValue5
 i5:=by kernel_rfl
 t9:=Tryz.underlying9
 a9:=Tryz.isAgg9
 z9:=Tryz.sizeOf9
 v9:=Tryz.zeroValue9
 i9:=by kernel_rfl
 t12:=Tryz.underlying12
 a12:=Tryz.isAgg12
 z12:=Tryz.sizeOf12
 v12:=Tryz.zeroValue12
 i12:=by kernel_rfl
 t17:=Tryz.underlying17
 a17:=Tryz.isAgg17
 z17:=Tryz.sizeOf17
 v17:=Tryz.zeroValue17
 i17:=by kernel_rfl
 t20:=Tryz.underlying20
 a20:=Tryz.isAgg20
 z20:=Tryz.sizeOf20
 v20:=Tryz.zeroValue20
 i20:=by kernel_rfl
 t26:=Tryz.underlying138
 a26:=Tryz.isAgg138
 z26:=Tryz.sizeOf138
 v26:=Tryz.zeroValue138
 i26:=by kernel_rfl
 t32:=Tryz.underlying147
 a32:=Tryz.isAgg147
 z32:=Tryz.sizeOf147
 v32:=Tryz.zeroValue147
 i32:=by kernel_rfl
 t33:=Tryz.underlying148
 a33:=Tryz.isAgg148
 z33:=Tryz.sizeOf148
 v33:=Tryz.zeroValue148
 i33:=by kernel_rfl
 t35:=Tryz.underlying150
 a35:=Tryz.isAgg150
 z35:=Tryz.sizeOf150
 v35:=Tryz.zeroValue150
 i35:=by kernel_rfl
 t37:=Tryz.underlying152
 a37:=Tryz.isAgg152
 z37:=Tryz.sizeOf152
 v37:=Tryz.zeroValue152
 i37:=by kernel_rfl
 t41:=Tryz.underlying117
 a41:=Tryz.isAgg117
 z41:=Tryz.sizeOf117
 v41:=Tryz.zeroValue117
 i41:=by kernel_rfl
 t44:=Tryz.underlying156
 a44:=Tryz.isAgg156
 z44:=Tryz.sizeOf156
 v44:=Tryz.zeroValue156
 i44:=by kernel_rfl
 t49:=Tryz.underlying181
 a49:=Tryz.isAgg181
 z49:=Tryz.sizeOf181
 v49:=Tryz.zeroValue181
 i49:=by kernel_rfl
 t51:=Tryz.underlying170
 a51:=Tryz.isAgg170
 z51:=Tryz.sizeOf170
 v51:=Tryz.zeroValue170
 i51:=by kernel_rfl
 t53:=Tryz.underlying182
 a53:=Tryz.isAgg182
 z53:=Tryz.sizeOf182
 v53:=Tryz.zeroValue182
 i53:=by kernel_rfl
 t54:=Tryz.underlying183
 a54:=Tryz.isAgg183
 z54:=Tryz.sizeOf183
 v54:=Tryz.zeroValue183
 i54:=by kernel_rfl
 t58:=Tryz.underlying161
 a58:=Tryz.isAgg161
 z58:=Tryz.sizeOf161
 v58:=Tryz.zeroValue161
 i58:=by kernel_rfl
 t60:=Tryz.underlying190
 a60:=Tryz.isAgg190
 z60:=Tryz.sizeOf190
 v60:=Tryz.zeroValue190
 i60:=by kernel_rfl
 t64:=Tryz.underlying194
 a64:=Tryz.isAgg194
 z64:=Tryz.sizeOf194
 v64:=Tryz.zeroValue194
 i64:=by kernel_rfl
 t66:=Tryz.underlying197
 a66:=Tryz.isAgg197
 z66:=Tryz.sizeOf197
 v66:=Tryz.zeroValue197
 i66:=by kernel_rfl
 t67:=Tryz.underlying198
 a67:=Tryz.isAgg198
 z67:=Tryz.sizeOf198
 v67:=Tryz.zeroValue198
 i67:=by kernel_rfl
 t75:=Tryz.underlying220
 a75:=Tryz.isAgg220
 z75:=Tryz.sizeOf220
 v75:=Tryz.zeroValue220
 i75:=by kernel_rfl
 t76:=Tryz.underlying221
 a76:=Tryz.isAgg221
 z76:=Tryz.sizeOf221
 v76:=Tryz.zeroValue221
 i76:=by kernel_rfl
 t77:=Tryz.underlying222
 a77:=Tryz.isAgg222
 z77:=Tryz.sizeOf222
 v77:=Tryz.zeroValue222
 i77:=by kernel_rfl
 t78:=Tryz.underlying223
 a78:=Tryz.isAgg223
 z78:=Tryz.sizeOf223
 v78:=Tryz.zeroValue223
 i78:=by kernel_rfl
 t79:=Tryz.underlying224
 a79:=Tryz.isAgg224
 z79:=Tryz.sizeOf224
 v79:=Tryz.zeroValue224
 i79:=by kernel_rfl
 t80:=Tryz.underlying225
 a80:=Tryz.isAgg225
 z80:=Tryz.sizeOf225
 v80:=Tryz.zeroValue225
 i80:=by kernel_rfl
 t82:=Tryz.underlying227
 a82:=Tryz.isAgg227
 z82:=Tryz.sizeOf227
 v82:=Tryz.zeroValue227
 i82:=by kernel_rfl}
end
end Go.Proofs
namespace Go.Proofs.YtohaalphocaebaaGreatDoor
section
open Go Go.RowKit Go.Lib Go.Pv Go.Proofs
theorem acM(n:Nat)(h:n<1099511627776):Lib.bitLen n<=1000:=by
 have:∀f x,bitLenAux f x<=f:=by
  intro f;induction f with
  |zero=>intro x;simp[bitLenAux]
  |succ f bN=>
   intro x;rw[bitLenAux];split
   ·omega
   ·have:=bN (x/2);omega
 have:=this 64 n;unfold Lib.bitLen;omega
theorem anf{α:Type}[Inhabited α]{lt:α->α->Bool}{l:List α}{cm:Array α}(h:Sort.PermIn 0 l.length l.toArray cm)(af:Sort.SortedIn lt 0 l.length cm):cm.toList.Perm l/\cm.toList.Pairwise fun x y=>lt y x=false:=by
 obtain⟨jR,_,z3⟩:=h;have dS:cm.size=l.length:=by simpa using jR
 have aq:cm.extract 0 l.length=cm:=by rw[<-dS];simp
 have aF:l.toArray.extract 0 l.length=l.toArray:=by simp
 rw[aq,aF]at z3;refine⟨by simpa using z3,?_⟩;rw[pY];intro i j hi ag mj;have J:=af i j Ω mj (by simpa[dS]using ag);have uf:i<cm.size:=by simpa using hi
 have jX:j<cm.size:=by simpa using ag
 rw[getElem!_pos cm i uf,getElem!_pos cm j jX]at J;simpa using J
section
variable {α:Type} {e:α->aj} (he:∀S x,aJ S (e x)) {K B el sz:Nat}
include he
theorem UR[Inhabited α](Vi:K≠901/\K≠902)(Vf:B≠901/\B≠902)(t:hh)(i eB:TypeInfo)(hi:aw.info? t=some i)(aG:i.desc= .slice el)(D0:aw.packed t=false)(ug:aw.info? el=some eB)(ke:Nat)(vH:∀w,(abJ el).run aw w= .ok ke w)(kp:∀n,2<=n->swapperK n eB ke=9)
  (g:Nat) (lt:α->α->Bool) (bs:Sort.SWO lt) (l:List α) (av:l.length<=68719476736)
  (y1:∀a6:List α,a6.length=l.length->∀(i j:Nat) x y,a6[i]? =some x->a6[j]? =some y->bG aw g [.int .i64 i,.int .i64 j,.ptr (.obj B) 0] (dT e K B el sz a6) fun r ah=>r= .bool (lt x y)/\ah=dT e K B el sz a6)
  (Bo:∀a6:List α,a6.length=l.length->∀i j:Nat,i<l.length->j<l.length->bG aw 186 [.int .i64 i,.int .i64 j,.row sz (.obj K) l.length,.cst (typeHandle aw el)] (dT e K B el sz a6) fun r ah=>r= .tuple []/\ah=dT e K B el sz (hA a6 i j)):
  bG aw 147 [.iface t (.row sz (.obj K) l.length),.func g [.ptr (.obj B) 0]] (dT e K B el sz l) fun r ah=>r= .tuple []/\∃a6,ah=dT e K B el sz a6/\a6.Perm l/\a6.Pairwise fun x y=>lt y x=false:=by
 have DK:aw.funcs.findIdx? (·.name== "internal/reflectlite" ++ ".Swapper$" ++toString 1)=some 178:=by kernel_rfl
 have vD:aw.funcs.findIdx? (·.name== "internal/reflectlite" ++ ".Swapper$" ++toString 2)=some 179:=by kernel_rfl
 have Ms:aw.funcs.findIdx? (·.name== "internal/reflectlite" ++ ".Swapper$" ++toString 9)=some 186:=by kernel_rfl
 have y7:te (dT e K B el sz) 901:=fun l=>⟨by simp[dT,Pv.look,Vf.1],by simp[dT,Pv.look,Vi.1]⟩;have y8:te (dT e K B el sz) 902:=fun l=>⟨by simp[dT,Pv.look,Vf.2],by simp[dT,Pv.look,Vi.2]⟩;have fB:=acM l.length Ω;have MW:∃f ca,aw.funcs.findIdx? (·.name== "internal/reflectlite" ++ ".Swapper$" ++toString (swapperK l.length eB ke))=some f/\(ca=(if swapperK l.length eB ke<=2 then []else [aj.row sz (.obj K) l.length,.cst (typeHandle aw el)]))/\
   bG aw 170 [e7 g f [.ptr (.obj B) 0] ca,.int .i64 0,.int .i64 l.length,.int .i64 (Lib.bitLen l.length)] (dT e K B el sz l) fun r ah=>r= .tuple []/\∃a6,ah=dT e K B el sz a6/\a6.Perm l/\a6.Pairwise fun x y=>lt y x=false:=by
  have eh:=fun a6=>yu (K:=K) (B:=B) (el:=el) (sz:=sz) he a6;have key:∀{cd:Nat} {ca:List aj},fh (dT e K B el sz) l.length g cd [.ptr (.obj B) 0] ca lt->bG aw 170 [e7 g cd [.ptr (.obj B) 0] ca,.int .i64 0,.int .i64 l.length,.int .i64 (Lib.bitLen l.length)] (dT e K B el sz l) fun r ah=>r= .tuple []/\∃a6,ah=dT e K B el sz a6/\a6.Perm l/\a6.Pairwise fun x y=>lt y x=false:=by intro cd ca H;have:=agY H y7 y8 bs l.length l.toArray Ψ 0 l.length (Lib.bitLen l.length) Ω Ω (dZ _) Ω (.inl rfl);simp only[Int.ofNat_zero,Int.natCast_zero,Int.cast_ofNat_Int]at this;refine bG.mono this ?_;rintro r ah ⟨a1,cm,bm,bW,cZ⟩;obtain⟨cP,c8⟩:=anf bW cZ;exact⟨a1,cm.toList,bm,cP,c8⟩
  rcases(by omega:l.length=0\/l.length=1\/2<=l.length)with bz|J|U
  ·refine⟨178,[],by rw[bz];exact DK,by rw[bz];rfl,key ⟨eh,fun ky hr _ _=>yv ky hr,fun a6 _=>by simp[aO,aJ,inObs,dT,Pv.look],fun a6 _=>by simp[aO],by simp[eb,dq],rfl,av,fun a6 h=>y1 a6 h,fun a6 _ U i j hi=>Ω⟩⟩
  ·refine⟨179,[],by rw[J];exact vD,by rw[J];rfl,key ⟨eh,fun ky hr _ _=>yv ky hr,fun a6 _=>by simp[aO,aJ,inObs,dT,Pv.look],fun a6 _=>by simp[aO],by simp[eb,dq],rfl,av,fun a6 h=>y1 a6 h,fun a6 _ U i j hi ag=>Ω⟩⟩
  ·refine⟨186,_,by rw[kp _ U];exact Ms,rfl,?_⟩;rw[kp _ U];simp only[show¬((9:Nat)<=2)from by decide,if_false];exact key ⟨eh,fun ky hr _ _=>yv ky hr,fun a6 _=>by simp[aO,aJ,inObs,dT,Pv.look],fun a6 _=>by simp[aO,aJ,inObs,dT,Pv.look],by simp[eb,dq],by simp[eb,dq],av,fun a6 h=>y1 a6 h,fun a6 h _ i j hi ag=>Bo a6 h i j hi ag⟩
 obtain⟨f,ca,aN,MS,dd⟩:=MW;intro w Z a7 aW ab aM;have pF:=c2.start (yu he l).obj aW ab aM;have MN:=aM;simp only[cX,a8]at aM;obtain⟨v0,vs1,hv0,⟨u,rfl,⟨b,cap,rfl⟩,h7,n',fl,aq,aF,bB⟩,v1,vs2,hv1,⟨rR,rfl,rI⟩,rfl⟩:=aM;have lf:a7= #[.iface t (.slice (some ⟨b,0,none⟩) l.length cap),.func (.func g) #[] rR]:=by apply Array.ext';rw[hv0,hv1]
 subst lf;have qg:∃fn,aw.funcs[(147:Nat)]? =some fn/\fn.body.isSome=true/\(fn.name== "runtime.NumGoroutine")=false:=⟨_,Tryz.func147,by kernel_rfl,by kernel_rfl⟩;refine .inl ⟨qg,?_⟩;obtain⟨dD,nG⟩:∃dD,dD=sliceWorld aw Tryz.lays6_ren t (some ⟨b,0,none⟩) l.length cap w:=⟨_,rfl⟩;have ks:w.grownBy dD none:=by rw[nG];unfold sliceWorld;exact Vb _ _ _
 have MO:=pF.grown ks;have lG:ma w Z dD Z:=⟨fun b o be=>⟨be,GF ks (aW.alt b o be)⟩,fun _ _ _ h=>h,fun _ n u _ h=>⟨n,u,h,.inl ⟨rfl,rfl⟩⟩,fun b o be=>xY (ks.block b (aW.alt b o be) Ψ),fun _ _ _ _ h=>h⟩;have qQ:Pv.Good (fA Z (dT e K B el sz l)) dD Z (dT e K B el sz l).b (dT e K B el sz l).e:=MO.good.prMono fun bl _ h=>h;have l0:=Jn lG MN;simp only[cX]at l0;obtain⟨a0,acC,ua,D2,bA,acD,lY,aiV,rfl⟩:=l0;simp at ua;obtain⟨rfl,rfl⟩:=ua;simp at lY;subst lY;have MR:a8 dD Z (.row sz (.obj K) l.length) (.slice (some ⟨b,0,none⟩) l.length cap):=by simp only[a8]at D2;obtain⟨u,hu,h⟩:=D2;simp at hu;obtain⟨_,rfl⟩:=hu;simp only[a8];exact h
 have lH:cX dD Z ca (sliceBound aw el eB ke (some ⟨b,0,none⟩) l.length cap).toList:=by
  unfold sliceBound;rw[MS];split
  ·simp[cX]
  ·simp only[cX];exact⟨_,_,rfl,MR,_,_,rfl,by simp[a8],rfl⟩
 have vz:cX dD Z [e7 g f [.ptr (.obj B) 0] ca,.int .i64 0,.int .i64 l.length,.int .i64 (Lib.bitLen l.length)] (#[.agg #[.func (.func g) #[] rR,.func (.func f) #[] (sliceBound aw el eB ke (some ⟨b,0,none⟩) l.length cap)],.int .i64 0,.int .i64 l.length,.int .i64 (Lib.bitLen l.length)]:Array Value).toList:=by simp only[cX,e7];refine⟨_,_,rfl,?_,_,_,rfl,by simp[a8],_,_,rfl,by simp[a8],_,_,rfl,by simp[a8],rfl⟩;simp only[a8,dm];exact⟨_,rfl,_,_,rfl,⟨⟨rR,rfl,Jn lG rI⟩,rfl⟩,_,_,rfl,⟨⟨_,rfl,lH⟩,rfl⟩,rfl⟩
 have Mp:=dd dD Z _ qQ ab vz;have GN:∀args w,(callFunc 170 args).run aw w= .ok (.enter 170 args) w:=enters_of Tryz.func170 co rfl;rcases Mp with⟨_,ao⟩|⟨v,w',ao,_⟩
 ·have MD:=Any.sort_Slice_of_pdq Tryz.lays6 t el i eB hi aG D0 ug ke vH (some ⟨b,0,none⟩) l.length cap Ω f aN (.func g) #[] rR w
   (fun w'=> ∃ah bh,(∃a6,ah=dT e K B el sz a6/\a6.Perm l/\a6.Pairwise fun x y=>lt y x=false)/\Pv.Good (fun bl=>fA Z (dT e K B el sz l) bl\/dD.heap.size<=bl) w' bh ah.b ah.e/\pw bh ah/\je ah/\qB ⟨dD,Z,fA Z (dT e K B el sz l),0,c5 (dT e K B el sz l)⟩ w' bh) (by
    rw[<-nG];refine ao.mono ?_;rintro e w' ⟨v,r,ah,bh,rfl,⟨rfl,bE⟩,xr,h4,h5,c9,dX⟩;simp only[a8,cX]at xr;obtain⟨us,rfl,rL⟩:=xr;have:us= #[]:=by apply Array.ext';simpa using rL
    subst this;exact⟨rfl,ah,bh,bE,h4,h5,c9,dX⟩)
  refine MD.mono ?_;rintro e w' ⟨rfl,ah,bh,⟨a6,rfl,HI,Bn⟩,h4,h5,c9,dX⟩;refine⟨.tuple #[],.tuple [],_,bh,rfl,⟨rfl,a6,rfl,HI,Bn⟩,by simp[a8,cX],h4.prMono fun bl h _=>?_,h5,c9,⟨dX.os.trans ks.os,dX.tape.trans ks.tape,dX.output.trans ks.output,ha ks.size dX.size,fun k ae hm=>?_,fun b o be=>?_,fun b o be=>?_,dX.obj,dX.obn,dX.row,dX.obr,dX.trd,fun k j b ad=>⟨(dX.trb k j b ad).1.imp id (fun h=>ha ks.size h),(dX.trb k j b ad).2⟩,dX.trn,fun b o be=>(dX.sh b o be).trans (lG.sh b o be)⟩⟩
  ·rcases h with h|h
   ·exact .inl h
   ·exact .inr (ha ks.size h)
  ·rw[dX.block k (Nat.lt_of_lt_of_le ae ks.size) hm];exact ks.block k ae Ψ
  ·obtain⟨aS,bf⟩:=dX.keep b o be;exact⟨aS,bf.trans (lG.A b o be).2⟩
  ·rcases dX.fresh b o be with h|h|h
   ·exact .inl h
   ·exact .inr (.inl h)
   ·exact .inr (.inr (ha ks.size h))
 ·rw[GN]at ao;cases ao
end
end
section
open Go Go.Pv Go.Lib
abbrev yt(l:List bj):cT:=dT bj.e 814 815 56 2 l
theorem XT:∀(S:aL->Prop) (x:bj),aJ S x.e:=fun S x=>by simp
theorem Kj(l:List bj):dP (yt l):=yu XT l
theorem akn:Sort.SWO (h8 fx):=by
 refine⟨fun x=>?_,fun x y z J U=>?_,fun x y z J U=>?_⟩
 ·simp only[h8,gD];have:=mz.refl x;omega
 ·simp only[h8,eN]at*;exact mz.ltr J Ω
 ·simp only[h8,gD]at*;have aq:=mz.neg x y;have aF:=mz.neg y z;have bB:=mz.neg x z;have:=mz.tr z y x Ω Ω;omega
theorem agy(l:List bj)(i j:Nat)(x y:bj)(av:l.length<=68719476736)(hi:l[i]? =some x)(ag:l[j]? =some y):bG aw 150 [.int .i64 i,.int .i64 j,.ptr (.obj 815) 0] (yt l) fun r ah=>r= .bool (h8 fx x y)/\ah=yt l:=by have af:=Kj l;obtain⟨mR,hX⟩:=fD.1 hi;obtain⟨ec,oU⟩:=fD.1 ag;unfold yt dT at af⊢;refine bG.mk mixed kH aei ak7 Ψ af.obj fun aQ cI=>?_;unfold Rw;simp[mR,ec,hX,oU];(with_reducible repeat' first|refine ak ?_|refine aA (CG _ _) ?_|refine aB (CG _ _) ?_|simp[mR,ec,hX,oU]);refine cL.at _ (.inl rfl) af (Same.refl _) aH aH ?_;simp[cM,YM,aV,aY,aU]
noncomputable def Tryz.maT:TypeInfo:=(aw.info? 26).get co
noncomputable def Tryz.maE:TypeInfo:=(aw.info? 56).get co
theorem Tryz.maK(n:Nat)(U:2<=n):Lib.swapperK n Tryz.maE 25=9:=by
 have a:Tryz.maE.hasPointers=true:=by kernel_rfl
 have b:Tryz.maE.bytes=24:=by kernel_rfl
 have c:(n==0)=false:=by simp;omega
 have d:(n==1)=false:=by simp;omega
 simp[Lib.swapperK,a,b,c,d]
theorem Xo{α β:Type}(f:α->β)(l:List α)(i j:Nat):(hA l i j).map f=hA (l.map f) i j:=by
 unfold hA;simp only[List.getElem?_map];cases l[i]? with
 |none=>simp
 |some x=>
  cases l[j]? with
  |none=>simp
  |some y=>simp[List.map_set]
theorem aha(l:List bj)(av:l.length<=68719476736):bG aw 147 [.iface 26 (.row 2 (.obj 814) l.length),.func 150 [.ptr (.obj 815) 0]] (yt l) fun r ah=>r= .tuple []/\ah=yt (o4 fx l):=by
 refine(UR XT (K:=814) (B:=815) (sz:=2) (by decide) (by decide) 26 Tryz.maT Tryz.maE co co co co 25 (fun _=>by kernel_rfl) Tryz.maK 150 (h8 fx) akn l av (fun a6 h i j x y hi ag=>agy a6 i j x y Ω hi ag) (fun a6 h i j hi ag=>?_)).mono ?_
 ·have:=U4 (P:=aw) false 186 (fun args W=>run_callFunc_extern Tryz.func186 co co co (e:=FV false) co args W)
   56 Tryz.maE co (fun _=>by kernel_rfl) (Kj a6) (K:=814) (n:=l.length) (el:=56) (sz:=2) co (xs:=a6.map bj.e) (by simp[dT,Pv.look,h]) i j hi ag
  refine this.mono ?_;rintro r ah ⟨rfl,rfl⟩;refine⟨rfl,?_⟩;simp[dT,cB,Xo,h]
 ·rintro r ah ⟨rfl,a6,rfl,J,U⟩;exact⟨rfl,by rw[aal mz J U]⟩
def o0(l:List bj):List aj:= .hdm l.length (List.range l.length)::l.flatMap fun m=>[m.e,.bool true]
def lT(m:bj)(l:List bj):List bj:=if m∈l then l else l++[m]
theorem ajY(a b:bj):rO (.a [false,true]) a.e b.e=some (decide (a=b)):=by simp only[bj.e,rO,kP,if_true,oK];congr 1;rw[qz];cases a;cases b;simp
theorem ajZ(a:bj):vV (.a [false,true]) a.e=true:=by simp[bj.e,vV,kP,-Kw]
theorem XX(m:bj):∀l:List bj,td (.a [false,true]) m.e (.bool true) (l.flatMap fun m=>[m.e,.bool true])=some (if m∈l then some (l.flatMap fun m=>[m.e,.bool true])else none)
 |[]=>rfl
 |a::l=>by
  simp only[List.flatMap_cons,bP,bU,td,ajY];by_cases h:m=a
  ·subst h;simp
  ·have b9:decide (m=a)=false:=by simp[h]
   rw[b9];simp only[XX m l];by_cases hm:m∈l
   ·simp[hm]
   ·simp[hm,h]
@[simp]theorem aug(m:bj)(l:List bj):ot (.a [false,true]) m.e (.bool true) (o0 l)=some (o0 (lT m l)):=by
 simp only[o0,ot,ajZ,Bool.true_eq_false,reduceCtorEq,if_false,XX,lT];by_cases h:m∈l
 ·simp[h]
 ·simp[h,List.range_succ]
end
section
open Go Go.Pv
@[simp]theorem BG(S:aL->Prop)(l:List bj):aO S (o0 l)=True:=by
 refine eq_true ?_;unfold o0;have:∀l:List bj,aO S (l.flatMap fun m=>[m.e,aj.bool true]):=fun l=>by
  induction l with
  |nil=>simp[aO]
  |cons x r bN=>simp only[List.flatMap_cons,bP,bU,aO,aj4,aJ,true_and];exact bN
 simp only[aO,aJ,true_and];exact this l
@[simp]theorem atV:[aj.hdm 0 []]=o0 []:=rfl
def pj(tag:List UInt8)(l:List bj):cT:=⟨[(.obj 811,[.str tag]),(.obj 812,o0 l),(.obj 813,[.gmap (.obj 812)])],[]⟩
theorem F6(tag:List UInt8)(l:List bj):dP (pj tag l):=by unfold pj;refine dP.of ⟨by intro m;simp[Pv.look],by intro m;simp[Pv.look]⟩ f8 Ψ
theorem Kk(tag:List UInt8)(l a6:List bj):Same (pj tag l) (pj tag a6):=Same.keys (by simp[pj]) (by simp[pj])
theorem agx(tag:List UInt8)(v:Int)(l:List bj):bG aw 149 [.int .i64 v,.ptr (.obj 813) 0,.ptr (.obj 811) 0] (pj tag l) fun r ah=>r= .tuple []/\ah=pj tag (lT ⟨v,tag⟩ l):=by have af:=F6 tag l;have fX:=F6 tag (lT ⟨v,tag⟩ l);have ea:=Kk tag l (lT ⟨v,tag⟩ l);unfold pj at af fX ea⊢;refine bG.mk mixed kH aeh ak6 Ψ af.obj fun aQ cI=>?_;unfold Rv;simp;refine cL.at _ (.inr rfl) fX ea aH aH ?_;simp[cM,YL,aV,aY,aU]
end
section
open Go Go.Pv Go.Lib
abbrev wJ(l:List b8):cT:=dT b8.e 803 804 59 2 l
theorem WT:∀(S:aL->Prop) (x:b8),aJ S x.e:=fun S x=>by simp
theorem F4(l:List b8):dP (wJ l):=yu WT l
def xH(x y:b8):Bool:=decide (x.v<y.v)
theorem akm:Sort.SWO xH:=⟨fun x=>by simp[xH],fun x y z J U=>by simp[xH]at*;omega,fun x y z J U=>by simp[xH]at*;omega⟩
theorem agz(l:List b8)(i j:Nat)(x y:b8)(av:l.length<=68719476736)(hi:l[i]? =some x)(ag:l[j]? =some y):bG aw 148 [.int .i64 i,.int .i64 j,.ptr (.obj 804) 0] (wJ l) fun r ah=>r= .bool (xH x y)/\ah=wJ l:=by have af:=F4 l;obtain⟨mR,hX⟩:=fD.1 hi;obtain⟨ec,oU⟩:=fD.1 ag;unfold wJ dT at af⊢;refine bG.mk mixed kH aej ak8 Ψ af.obj fun aQ cI=>?_;unfold Rx;simp[mR,ec,hX,oU];(with_reducible repeat' first|refine ak ?_|simp);refine cL.at _ (.inl rfl) af (Same.refl _) aH aH ?_;simp[cM,YN,aV,aY,aU,xH]
noncomputable def Tryz.vkT:TypeInfo:=(aw.info? 25).get co
noncomputable def Tryz.vkE:TypeInfo:=(aw.info? 59).get co
theorem Tryz.vkK(n:Nat)(U:2<=n):Lib.swapperK n Tryz.vkE 25=9:=by
 have a:Tryz.vkE.hasPointers=false:=by kernel_rfl
 have b:Tryz.vkE.bytes=16:=by kernel_rfl
 have c:(n==0)=false:=by simp;omega
 have d:(n==1)=false:=by simp;omega
 simp[Lib.swapperK,a,b,c,d]
theorem akl{α β:Type}(f:α->β)(l:List α)(i j:Nat):(hA l i j).map f=hA (l.map f) i j:=by
 unfold hA;simp only[List.getElem?_map];cases l[i]? with
 |none=>simp
 |some x=>
  cases l[j]? with
  |none=>simp
  |some y=>simp[List.map_set]
theorem U3(l:List b8)(av:l.length<=68719476736):bG aw 147 [.iface 25 (.row 2 (.obj 803) l.length),.func 148 [.ptr (.obj 804) 0]] (wJ l) fun r ah=>r= .tuple []/\∃a6,ah=wJ a6/\a6.Perm l/\a6.Pairwise fun x y=>xH y x=false:=by
 refine(UR WT (K:=803) (B:=804) (sz:=2) (by decide) (by decide) 25 Tryz.vkT Tryz.vkE co co co co 25 (fun _=>by kernel_rfl) Tryz.vkK 148 xH akm l av (fun a6 h i j x y hi ag=>agz a6 i j x y Ω hi ag) (fun a6 h i j hi ag=>?_));have:=U4 (P:=aw) false 186 (fun args W=>run_callFunc_extern Tryz.func186 co co co (e:=FV false) co args W)
  59 Tryz.vkE co (fun _=>by kernel_rfl) (F4 a6) (K:=803) (n:=l.length) (el:=59) (sz:=2) co (xs:=a6.map b8.e) (by simp[dT,Pv.look,h]) i j hi ag
 refine this.mono ?_;rintro r ah ⟨rfl,rfl⟩;refine⟨rfl,?_⟩;simp[dT,cB,akl,h]
end
section
open Go Go.Pv
def gm(o:Option (List b8)):aj:= .tuple [.slice 2 .no ((o.getD []).map b8.e),.bool o.isSome]
@[simp]theorem atF(S:aL->Prop)(o:Option (List b8)):aJ S (gm o)=True:=by simp[gm]
theorem aaT{l:List b8}(h:hj l):bK aw 54 [.slice 2 .no (l.map b8.e)] (.bool true):=by have:=aaS l;simpa only[h,decide_true]using this
theorem Ac{t:T}(h:t.fit=true):bK aw 89 [t.e] (.bool true):=by have:=ap3 t;rwa[h]at this
theorem apJ{s:List ai}(af:ev s){l:List b8}(av:hj l)(t:T)(aI:t.fit=true)(k:Int):
  bK aw 98 [.slice 5 .no (s.map ai.e),.slice 2 .no (l.map b8.e),t.e,.int .i64 k] (gm (if(k=2\/k=3)/\(t.ap (aR s)).size<=5000 then ib l (t.ap (aR s)) k else none)):=by
 have y2:=q0 av;have kS:=pT af;have dt:=Ac aI;have dg:=aaT av;have fG:=FI s t af.len af.sol.asc af.fit;generalize ab:t.ap (aR s)=x at fG⊢;generalize dn:(if(k=2\/k=3)/\x.size<=5000 then ib l x k else none)=O;by_cases ae:k=2\/k=3;rotate_left
 ·have gJ:(k !=2)=true:=by simp;omega
  have jY:(k !=3)=true:=by simp;omega
  rw[if_neg (fun h=>ae h.1)]at dn;rw[<-dn];refine bo kH ss th fun aQ=>?_;unfold rs;simp;(with_reducible repeat' first|refine ak ?_|refine aA kS ?_|refine aB kS ?_|refine aA dt ?_|refine aB dt ?_|refine aA dg ?_|refine aB dg ?_|simp[gJ,jY]);simp[bp,kF,aV,aY,aU];simp[gm]
 by_cases bd:x.size<=5000;rotate_left
 ·rw[if_neg (fun h=>bd h.2)]at dn;rw[<-dn];rw[if_neg bd,h0 bd]at fG;refine bo kH ss th fun aQ=>?_;unfold rs;simp;rcases ae with rfl|rfl;all_goals(with_reducible repeat' first|refine ak ?_|refine aA kS ?_|refine aB kS ?_|refine aA dt ?_|refine aB dt ?_|refine aA dg ?_|refine aB dg ?_|refine aA fG ?_|refine aB fG ?_|simp)
  all_goals simp[bp,kF,aV,aY,aU]
  all_goals simp[gm]
 rw[if_pos ⟨ae,bd⟩]at dn;rw[if_pos bd,hb bd]at fG;have xj:(k !=2)=true->(k !=3)=false:=fun h=>by simp at h⊢;omega
 have vG:((k !=2)=false)\/((k !=2)=true/\(k !=3)=false):=by
  rcases ae with rfl|rfl
  ·left;rfl
  ·right;exact⟨rfl,rfl⟩
 clear xj;cases x with
 |var n=>
  have dU:O=match jd l n with|some bI=>if bI=k then some l else none|none=>some (mv ⟨n,k⟩ l):=by rw[<-dn];rfl
  refine bo kH ss th fun aQ=>?_;unfold rs;simp;rcases vG with bE|⟨bE,lb⟩
  ·(with_reducible repeat' first|refine ak ?_|refine aA kS ?_|refine aB kS ?_|refine aA dt ?_|refine aB dt ?_|refine aA dg ?_|refine aB dg ?_|refine aA fG ?_|refine aB fG ?_|simp[bE]);refine eJ [3,10,12,55,56] (fun i (_:Unit)=>[(57,.int .i64 i)]) l.length (fun i _=> ∀j y,j<i->l[j]? =some y->y.v≠n) () b7 (fun j y ag=>Ω) (fun _ ag _=>?_) (fun i _ hi ag _=>?_)
   ·have aW:jd l n=none:=zj.2 fun y aC=>by obtain⟨m,hm,e⟩:=oI aC;exact ag m y hm (by rw[cg hm,e])
    rw[aW]at dU;simp only at dU;simp;(with_reducible repeat' first|refine ak ?_|simp);all_goals first|(refine⟨by unfold lim;omega,?_⟩)|skip
    have key:=U3 (l++[⟨n,k⟩]) d7;have eh:=F4 (l++[⟨n,k⟩]);have hlen:(l++[(⟨n,k⟩:b8)]).length=l.length+1:=by simp
    unfold wJ dT at key eh;rw[hlen,List.map_append,gZ,nn]at key eh;refine cQ.ob key eh aH aH (by simp[inObs,Pv.look]) ?_;rintro r ah ⟨rfl,a6,rfl,J,U⟩;have ui:a6=mv ⟨n,k⟩ l:=WU (J.trans ((List.perm_append_comm (l₁:=l) (l₂:=[⟨n,k⟩])).trans (Nf ⟨n,k⟩ l).symm)) (HS av.asc (zj.1 aW)) U;subst ui;refine⟨Same.keys Ψ Ψ,?_⟩;rw[dU];simp[cb];(with_reducible repeat' first|refine ak ?_|simp);simp[bp,kF,aV,aY,aU];simp[gm]
   ·obtain⟨b,ad,cJ⟩:=eI hi;by_cases mO:b.v=n
    ·have aW:jd l n=some b.k:=by rw[<-mO];exact Er av.asc (eF ad)
     rw[aW]at dU;simp only at dU;by_cases pB:b.k=k
     ·rw[if_pos pB]at dU;rw[dU];have yS:(b.k !=k)=false:=by simp[pB]
      have sH:(b.v==n)=true:=by simp[mO]
      simp[hi,cJ];(with_reducible repeat' first|refine ak ?_|simp[cJ,hi,yS,sH,pB,mO]);simp[bp,kF,aV,aY,aU];simp[gm]
     ·rw[if_neg pB]at dU;rw[dU];have yS:(b.k !=k)=true:=by simp[pB]
      have sH:(b.v==n)=true:=by simp[mO]
      simp[hi,cJ];(with_reducible repeat' first|refine ak ?_|simp[cJ,hi,yS,sH,pB,mO]);simp[bp,kF,aV,aY,aU];simp[gm]
    ·have sH:(b.v==n)=false:=by simp[mO]
     simp[hi,cJ];(with_reducible repeat' first|refine ak ?_|simp[cJ,hi,sH,mO]);exact bR.rng () hi (fun j y jX aC=>by
      rcases(by omega:j<i\/j=i)with h|rfl
      ·exact ag j y h aC
      ·rw[ad]at aC;cases aC;exact mO) b7
  ·(with_reducible repeat' first|refine ak ?_|refine aA kS ?_|refine aB kS ?_|refine aA dt ?_|refine aB dt ?_|refine aA dg ?_|refine aB dg ?_|refine aA fG ?_|refine aB fG ?_|simp[bE,lb]);refine eJ [3,10,12,55,56] (fun i (_:Unit)=>[(57,.int .i64 i)]) l.length (fun i _=> ∀j y,j<i->l[j]? =some y->y.v≠n) () b7 (fun j y ag=>Ω) (fun _ ag _=>?_) (fun i _ hi ag _=>?_)
   ·have aW:jd l n=none:=zj.2 fun y aC=>by obtain⟨m,hm,e⟩:=oI aC;exact ag m y hm (by rw[cg hm,e])
    rw[aW]at dU;simp only at dU;simp;(with_reducible repeat' first|refine ak ?_|simp);all_goals first|(refine⟨by unfold lim;omega,?_⟩)|skip
    have key:=U3 (l++[⟨n,k⟩]) d7;have eh:=F4 (l++[⟨n,k⟩]);have hlen:(l++[(⟨n,k⟩:b8)]).length=l.length+1:=by simp
    unfold wJ dT at key eh;rw[hlen,List.map_append,gZ,nn]at key eh;refine cQ.ob key eh aH aH (by simp[inObs,Pv.look]) ?_;rintro r ah ⟨rfl,a6,rfl,J,U⟩;have ui:a6=mv ⟨n,k⟩ l:=WU (J.trans ((List.perm_append_comm (l₁:=l) (l₂:=[⟨n,k⟩])).trans (Nf ⟨n,k⟩ l).symm)) (HS av.asc (zj.1 aW)) U;subst ui;refine⟨Same.keys Ψ Ψ,?_⟩;rw[dU];simp[cb];(with_reducible repeat' first|refine ak ?_|simp);simp[bp,kF,aV,aY,aU];simp[gm]
   ·obtain⟨b,ad,cJ⟩:=eI hi;by_cases mO:b.v=n
    ·have aW:jd l n=some b.k:=by rw[<-mO];exact Er av.asc (eF ad)
     rw[aW]at dU;simp only at dU;by_cases pB:b.k=k
     ·rw[if_pos pB]at dU;rw[dU];have yS:(b.k !=k)=false:=by simp[pB]
      have sH:(b.v==n)=true:=by simp[mO]
      simp[hi,cJ];(with_reducible repeat' first|refine ak ?_|simp[cJ,hi,yS,sH,pB,mO]);simp[bp,kF,aV,aY,aU];simp[gm]
     ·rw[if_neg pB]at dU;rw[dU];have yS:(b.k !=k)=true:=by simp[pB]
      have sH:(b.v==n)=true:=by simp[mO]
      simp[hi,cJ];(with_reducible repeat' first|refine ak ?_|simp[cJ,hi,yS,sH,pB,mO]);simp[bp,kF,aV,aY,aU];simp[gm]
    ·have sH:(b.v==n)=false:=by simp[mO]
     simp[hi,cJ];(with_reducible repeat' first|refine ak ?_|simp[cJ,hi,sH,mO]);exact bR.rng () hi (fun j y jX aC=>by
      rcases(by omega:j<i\/j=i)with h|rfl
      ·exact ag j y h aC
      ·rw[ad]at aC;cases aC;exact mO) b7
 |nil=>
  have dU:O=if T.nil.kind=k then some l else none:=by rw[<-dn];rfl
  by_cases hK:T.nil.kind=k
  ·rw[if_pos hK]at dU;rw[dU];refine bo kH ss th fun aQ=>?_;unfold rs;simp;simp at hK;rcases vG with bE|⟨bE,lb⟩
   ·((with_reducible repeat' first|refine ak ?_|refine aA kS ?_|refine aB kS ?_|refine aA dt ?_|refine aB dt ?_|refine aA dg ?_|refine aB dg ?_|refine aA fG ?_|refine aB fG ?_|simp[bE,hK]|((first|apply bJ|apply bM|apply bL)<;>intro h<;>try simp at h))<;>(try exact ck));all_goals simp[bp,kF,aV,aY,aU]
    all_goals simp[gm]
   ·((with_reducible repeat' first|refine ak ?_|refine aA kS ?_|refine aB kS ?_|refine aA dt ?_|refine aB dt ?_|refine aA dg ?_|refine aB dg ?_|refine aA fG ?_|refine aB fG ?_|simp[bE,lb,hK]|((first|apply bJ|apply bM|apply bL)<;>intro h<;>try simp at h))<;>(try exact ck));all_goals simp[bp,kF,aV,aY,aU]
    all_goals simp[gm]
  ·rw[if_neg hK]at dU;rw[dU];refine bo kH ss th fun aQ=>?_;unfold rs;simp;simp at hK;rcases vG with bE|⟨bE,lb⟩
   ·((with_reducible repeat' first|refine ak ?_|refine aA kS ?_|refine aB kS ?_|refine aA dt ?_|refine aB dt ?_|refine aA dg ?_|refine aB dg ?_|refine aA fG ?_|refine aB fG ?_|simp[bE,hK]|((first|apply bJ|apply bM|apply bL)<;>intro h<;>try simp at h))<;>(try exact ck));all_goals simp[bp,kF,aV,aY,aU]
    all_goals simp[gm]
   ·((with_reducible repeat' first|refine ak ?_|refine aA kS ?_|refine aB kS ?_|refine aA dt ?_|refine aB dt ?_|refine aA dg ?_|refine aB dg ?_|refine aA fG ?_|refine aB fG ?_|simp[bE,lb,hK]|((first|apply bJ|apply bM|apply bL)<;>intro h<;>try simp at h))<;>(try exact ck));all_goals simp[bp,kF,aV,aY,aU]
    all_goals simp[gm]
 |sym a=>
  have dU:O=if(T.sym a).kind=k then some l else none:=by rw[<-dn];rfl
  by_cases hK:(T.sym a).kind=k
  ·rw[if_pos hK]at dU;rw[dU];refine bo kH ss th fun aQ=>?_;unfold rs;simp;simp at hK;rcases vG with bE|⟨bE,lb⟩
   ·((with_reducible repeat' first|refine ak ?_|refine aA kS ?_|refine aB kS ?_|refine aA dt ?_|refine aB dt ?_|refine aA dg ?_|refine aB dg ?_|refine aA fG ?_|refine aB fG ?_|simp[bE,hK]|((first|apply bJ|apply bM|apply bL)<;>intro h<;>try simp at h))<;>(try exact ck));all_goals simp[bp,kF,aV,aY,aU]
    all_goals simp[gm]
   ·((with_reducible repeat' first|refine ak ?_|refine aA kS ?_|refine aB kS ?_|refine aA dt ?_|refine aB dt ?_|refine aA dg ?_|refine aB dg ?_|refine aA fG ?_|refine aB fG ?_|simp[bE,lb,hK]|((first|apply bJ|apply bM|apply bL)<;>intro h<;>try simp at h))<;>(try exact ck));all_goals simp[bp,kF,aV,aY,aU]
    all_goals simp[gm]
  ·rw[if_neg hK]at dU;rw[dU];refine bo kH ss th fun aQ=>?_;unfold rs;simp;simp at hK;rcases vG with bE|⟨bE,lb⟩
   ·((with_reducible repeat' first|refine ak ?_|refine aA kS ?_|refine aB kS ?_|refine aA dt ?_|refine aB dt ?_|refine aA dg ?_|refine aB dg ?_|refine aA fG ?_|refine aB fG ?_|simp[bE,hK]|((first|apply bJ|apply bM|apply bL)<;>intro h<;>try simp at h))<;>(try exact ck));all_goals simp[bp,kF,aV,aY,aU]
    all_goals simp[gm]
   ·((with_reducible repeat' first|refine ak ?_|refine aA kS ?_|refine aB kS ?_|refine aA dt ?_|refine aB dt ?_|refine aA dg ?_|refine aB dg ?_|refine aA fG ?_|refine aB fG ?_|simp[bE,lb,hK]|((first|apply bJ|apply bM|apply bL)<;>intro h<;>try simp at h))<;>(try exact ck));all_goals simp[bp,kF,aV,aY,aU]
    all_goals simp[gm]
 |num a=>
  have dU:O=if(T.num a).kind=k then some l else none:=by rw[<-dn];rfl
  by_cases hK:(T.num a).kind=k
  ·rw[if_pos hK]at dU;rw[dU];refine bo kH ss th fun aQ=>?_;unfold rs;simp;simp at hK;rcases vG with bE|⟨bE,lb⟩
   ·((with_reducible repeat' first|refine ak ?_|refine aA kS ?_|refine aB kS ?_|refine aA dt ?_|refine aB dt ?_|refine aA dg ?_|refine aB dg ?_|refine aA fG ?_|refine aB fG ?_|simp[bE,hK]|((first|apply bJ|apply bM|apply bL)<;>intro h<;>try simp at h))<;>(try exact ck));all_goals simp[bp,kF,aV,aY,aU]
    all_goals simp[gm]
   ·((with_reducible repeat' first|refine ak ?_|refine aA kS ?_|refine aB kS ?_|refine aA dt ?_|refine aB dt ?_|refine aA dg ?_|refine aB dg ?_|refine aA fG ?_|refine aB fG ?_|simp[bE,lb,hK]|((first|apply bJ|apply bM|apply bL)<;>intro h<;>try simp at h))<;>(try exact ck));all_goals simp[bp,kF,aV,aY,aU]
    all_goals simp[gm]
  ·rw[if_neg hK]at dU;rw[dU];refine bo kH ss th fun aQ=>?_;unfold rs;simp;simp at hK;rcases vG with bE|⟨bE,lb⟩
   ·((with_reducible repeat' first|refine ak ?_|refine aA kS ?_|refine aB kS ?_|refine aA dt ?_|refine aB dt ?_|refine aA dg ?_|refine aB dg ?_|refine aA fG ?_|refine aB fG ?_|simp[bE,hK]|((first|apply bJ|apply bM|apply bL)<;>intro h<;>try simp at h))<;>(try exact ck));all_goals simp[bp,kF,aV,aY,aU]
    all_goals simp[gm]
   ·((with_reducible repeat' first|refine ak ?_|refine aA kS ?_|refine aB kS ?_|refine aA dt ?_|refine aB dt ?_|refine aA dg ?_|refine aB dg ?_|refine aA fG ?_|refine aB fG ?_|simp[bE,lb,hK]|((first|apply bJ|apply bM|apply bL)<;>intro h<;>try simp at h))<;>(try exact ck));all_goals simp[bp,kF,aV,aY,aU]
    all_goals simp[gm]
 |pair a b=>
  have dU:O=if(T.pair a b).kind=k then some l else none:=by rw[<-dn];rfl
  by_cases hK:(T.pair a b).kind=k
  ·rw[if_pos hK]at dU;rw[dU];refine bo kH ss th fun aQ=>?_;unfold rs;simp;simp at hK;rcases vG with bE|⟨bE,lb⟩
   ·((with_reducible repeat' first|refine ak ?_|refine aA kS ?_|refine aB kS ?_|refine aA dt ?_|refine aB dt ?_|refine aA dg ?_|refine aB dg ?_|refine aA fG ?_|refine aB fG ?_|simp[bE,hK]|((first|apply bJ|apply bM|apply bL)<;>intro h<;>try simp at h))<;>(try exact ck));all_goals simp[bp,kF,aV,aY,aU]
    all_goals simp[gm]
   ·((with_reducible repeat' first|refine ak ?_|refine aA kS ?_|refine aB kS ?_|refine aA dt ?_|refine aB dt ?_|refine aA dg ?_|refine aB dg ?_|refine aA fG ?_|refine aB fG ?_|simp[bE,lb,hK]|((first|apply bJ|apply bM|apply bL)<;>intro h<;>try simp at h))<;>(try exact ck));all_goals simp[bp,kF,aV,aY,aU]
    all_goals simp[gm]
  ·rw[if_neg hK]at dU;rw[dU];refine bo kH ss th fun aQ=>?_;unfold rs;simp;simp at hK;rcases vG with bE|⟨bE,lb⟩
   ·((with_reducible repeat' first|refine ak ?_|refine aA kS ?_|refine aB kS ?_|refine aA dt ?_|refine aB dt ?_|refine aA dg ?_|refine aB dg ?_|refine aA fG ?_|refine aB fG ?_|simp[bE,hK]|((first|apply bJ|apply bM|apply bL)<;>intro h<;>try simp at h))<;>(try exact ck));all_goals simp[bp,kF,aV,aY,aU]
    all_goals simp[gm]
   ·((with_reducible repeat' first|refine ak ?_|refine aA kS ?_|refine aB kS ?_|refine aA dt ?_|refine aB dt ?_|refine aA dg ?_|refine aB dg ?_|refine aA fG ?_|refine aB fG ?_|simp[bE,lb,hK]|((first|apply bJ|apply bM|apply bL)<;>intro h<;>try simp at h))<;>(try exact ck));all_goals simp[bp,kF,aV,aY,aU]
    all_goals simp[gm]
def jf(o:Option (List bj)):aj:= .tuple [.slice 2 .no ((o.getD []).map bj.e),.bool o.isSome]
@[simp]theorem atH(S:aL->Prop)(o:Option (List bj)):aJ S (jf o)=True:=by simp[jf]
theorem aaV{l:List bj}(h:iN l):bK aw 55 [.slice 2 .no (l.map bj.e)] (.bool true):=by have:=aaU l;simpa only[h,decide_true]using this
theorem apQ{s:List UInt8}(h:iK s=true):bK aw 109 [.str s] (.bool true):=by have:=u3 s;rwa[h]at this
def EB(l:List bj):List aj:=l.flatMap fun m=>[m.e,.bool true]
theorem Xs(l:List bj):o0 l= .hdm l.length (List.range l.length)::EB l:=rfl
theorem NV(b:Nat):∀(n:Nat) (l:List bj),nN b (List.range' n l.length) (EB l)=(if n<=b then(l[b-n]?).map fun x=>.tuple [x.e,.bool true]else none)
 |n,[]=>by simp[nN,EB]
 |n,x::r=>by
  have e:EB (x::r)=x.e:: .bool true::EB r:=rfl;simp only[mG,List.range'_succ,e,nN];by_cases h:n=b
  ·subst h;simp
  ·rw[if_neg h,NV b (n+1) r];by_cases U:n<=b
   ·rw[if_pos U,if_pos Ω];have:b-n=(b-(n+1))+1:=Ω
    rw[this];simp
   ·rw[if_neg U,if_neg Ω]
@[simp]theorem auu(l:List bj):h9 (o0 l)=false:=rfl
@[simp]theorem auD(m:aL)(l:List bj):zK m (o0 l)=some (cn l.length [] m):=rfl
theorem aky(f:aL->Option (List aj))(fF mk:aL)(n:Nat)(seen:List Nat)(b:Nat)(l:List bj)(x:bj)(hi:f fF=some (cn n (seen++[b]) mk))(hm:f mk=some (o0 l))(au:n=l.length)(ab:l[b]? =some x):qn f (.ptr fF 0)=some (True,.tuple [x.e,.bool true]):=by subst au;simp only[XB,hi,hm,cn,Xs,List.getLast?_append,List.getLast?_singleton,Option.some_or,List.range_eq_range',NV,Nat.zero_le,if_true,Nat.sub_zero,Option.map_map];simp[ab]
theorem adr{st:bn}{d:Nat}{K:bn->Prop}{fF mk:aL}{n:Nat}{seen:List Nat}{l:List bj}(hi:Pv.look fF st.b=some (cn n seen mk))(hm:Pv.look mk st.b=some (o0 l))(au:n=l.length)
  (J:(∀b,b<l.length->b∈seen)->K {st with t:=Pv.put d (.tuple [.bool false]) st.t}) (U:∀b x,l[b]? =some x->b∉seen->K {st with t:=Pv.put d (.tuple [.bool true,x.e,.bool true]) st.t,b:=cB fF (cn n (seen++[b]) mk) st.b}):
  tX st d (.ptr fF 0) K:=by
 subst au;simp only[tX,hi,cn,hm,Xs,N9,and_self,true_and];refine⟨fun h=>J fun b ad=>h b (by simpa using ad),fun b k v y4 ad=>?_⟩;rw[List.range_eq_range',NV]at y4;simp only[Nat.zero_le,if_true,Nat.sub_zero,gv,aj.tuple.injEq,yk,and_true]at y4;obtain⟨x,aq,aF,bB⟩:=y4;subst aF bB;exact U b x aq ad
theorem akt{m x:bj}{l:List bj}:x∈lT m l↔x=m\/x∈l:=by
 unfold lT;split
 ·constructor
  ·exact .inr
  ·rintro(rfl|h)<;>assumption
 ·simp[or_comm]
theorem aci{m:bj}{l:List bj}(h:l.Nodup):(lT m l).Nodup:=by
 unfold lT;split
 ·exact h
 ·rw[List.nodup_append];exact⟨h,Ψ,fun a bg b ad=>by simp at ad;subst ad;intro e;subst e;contradiction⟩
theorem ach(m:bj)(l:List bj):(lT m l).length<=l.length+1:=by unfold lT;split<;>simp
theorem agq(s:List UInt8)(t:T):∀l:List bj,(t.fold (fun v l=>lT ⟨v,s⟩ l) l).length<=l.length+t.size:=by
 induction t with
 |var n=>intro l;simp only[T.fold,T.size];exact ach _ _
 |pair a b dz dA=>intro l;simp only[T.fold,T.size];have:=dz l;have:=dA (a.fold (fun v l=>lT ⟨v,s⟩ l) l);omega
 |_=>intro l;simp[T.fold,T.size]
theorem agr(s:List UInt8)(t:T):∀{l:List bj},l.Nodup->(t.fold (fun v l=>lT ⟨v,s⟩ l) l).Nodup:=by
 induction t with
 |var n=>intro l h;exact aci h
 |pair a b dz dA=>intro l h;exact dA (dz h)
 |_=>intro l h;exact h
theorem aku(s:List UInt8)(t:T)(x:bj):∀{l:List bj},x∈t.fold (fun v l=>lT ⟨v,s⟩ l) l↔x∈l\/(x.s=s/\t.occ x.v=true):=by
 induction t with
 |var n=>
  intro l;simp only[T.fold,akt,T.occ,dM];constructor
  ·rintro(rfl|h)
   ·exact .inr ⟨rfl,rfl⟩
   ·exact .inl h
  ·rintro(h|⟨J,U⟩)
   ·exact .inr h
   ·left;cases x;simp at J U;subst J U;rfl
 |pair a b dz dA=>
  intro l;simp only[T.fold,dA,dz,T.occ,lP];constructor
  ·rintro((h|h)|h)
   ·exact .inl h
   ·exact .inr ⟨h.1,.inl h.2⟩
   ·exact .inr ⟨h.1,.inr h.2⟩
  ·rintro(h|⟨J,U|U⟩)
   ·exact .inl (.inl h)
   ·exact .inl (.inr ⟨J,U⟩)
   ·exact .inr ⟨J,U⟩
 |_=>intro l;simp[T.fold,T.occ]
def ajE(M:List bj)(k:Nat)(st:bn):Prop:=∃(seen:List Nat) (xs:List bj),seen.Nodup/\(∀b∈seen,b<M.length)/\k=M.length-seen.length/\xs=seen.filterMap (fun b=>M[b]?)/\xs.length=seen.length/\st=⟨[(15,.ptr (.obj 815) 0),(63,.ptr (.loc 2) 0)],[(.obj 812,o0 M),(.loc 2,cn M.length seen (.obj 812)),(.obj 815,[.row 2 (.obj 814) xs.length])],[(.obj 814,⟨xs.length,56,2,some (xs.map bj.e)⟩)],3,[.obj 815,.obj 814,.obj 813,.obj 812,.obj 811]⟩
theorem apI{s:List ai}(af:ev s){l:List bj}(av:iN l)(y2:l.length<=68719470000)(t:T)(aI:t.fit=true){g:List UInt8}(aW:iK g=true):
  bK aw 100 [.slice 5 .no (s.map ai.e),.slice 2 .no (l.map bj.e),t.e,.str g] (jf (if(t.ap (aR s)).size<=5000 then iV l (t.ap (aR s)) g else none)):=by
 have kS:=pT af;have dt:=Ac aI;have ed:=aaV av;have il:=apQ aW;have fG:=FI s t af.len af.sol.asc af.fit;generalize ab:t.ap (aR s)=x at fG⊢;generalize dn:(if x.size<=5000 then iV l x g else none)=O;by_cases bd:x.size<=5000;rotate_left
 ·rw[if_neg bd]at dn;rw[<-dn];rw[if_neg bd,h0 bd]at fG;refine bo kH LA Og fun aQ=>?_;unfold Gn;simp;(with_reducible repeat' first|refine ak ?_|refine aA kS ?_|refine aB kS ?_|refine aA dt ?_|refine aB dt ?_|refine aA ed ?_|refine aB ed ?_|refine aA il ?_|refine aB il ?_|refine aA fG ?_|refine aB fG ?_|simp);simp[bp,IS,aV,aY,aU];simp[jf]
 rw[if_pos bd]at dn;rw[if_pos bd,hb bd]at fG;have BE:=ap8 g x;cases cE:x.has g;rotate_left
 ·rw[cE]at BE;have dU:O=none:=by rw[<-dn];unfold iV;rw[cE];rfl
  rw[dU];refine bo kH LA Og fun aQ=>?_;unfold Gn;simp;(with_reducible repeat' first|refine ak ?_|refine aA kS ?_|refine aB kS ?_|refine aA dt ?_|refine aB dt ?_|refine aA ed ?_|refine aB ed ?_|refine aA il ?_|refine aB il ?_|refine aA fG ?_|refine aB fG ?_|refine aA BE ?_|refine aB BE ?_|simp);simp[bp,IS,aV,aY,aU];simp[jf]
 rw[cE]at BE;refine bo kH LA Og fun aQ=>?_;unfold Gn;simp;(with_reducible repeat' first|refine ak ?_|refine aA kS ?_|refine aB kS ?_|refine aA dt ?_|refine aB dt ?_|refine aA ed ?_|refine aB ed ?_|refine aA il ?_|refine aB il ?_|refine aA fG ?_|refine aB fG ?_|refine aA BE ?_|refine aB BE ?_|simp);have DW:l.Nodup:=hS.nodup mz av.asc;have gA:∀xs:List bj,xs.Perm (x.fold (fun v l=>lT ⟨v,g⟩ l) l)->O=some (o4 fx xs):=fun xs bF=>by
  rw[<-dn];refine Kr cE ?_ fun y=>?_
  ·have J:=PR mz xs;have U:(o4 fx xs).Nodup:=(((xZ fx xs).trans bF).nodup_iff).2 (agr g x DW);exact(J.and U).imp fun{a b} h=>by have:=mt (mz.zero a b).1 h.2;omega
  ·rw[((xZ fx xs).trans bF).mem_iff,aku]
 have hlen:(x.fold (fun v l=>lT ⟨v,g⟩ l) l).length<=68719475000:=by have:=agq g x l;omega
 rw[show kj []=o0 []from rfl];refine hI (fun i (_:Unit)=>⟨[(7,.ptr (.obj 811) 0),(10,.ptr (.loc 1) 0),(12,.ptr (.obj 813) 0),(49,.slice 2 .no (l.map bj.e)),(50,.int .i64 l.length),(51,.int .i64 i)],[(.obj 811,[.str g]),(.loc 1,[.int .i64 x.kind,.int .i64 x.int,.str x.name,.slice 4 .no (x.args.map T.e)]),(.obj 812,o0 (l.take i)),(.obj 813,[.gmap (.obj 812)])],[],2,[.obj 813,.obj 812,.obj 811]⟩) l.length (fun _ _=>True) () b7 trivial (fun _ _ _=>?_) (fun i _ hi _ _=>?_)
 ·rw[lQ];simp;(with_reducible repeat' first|refine ak ?_|simp);have key:=UT (pj g) (F6 g) (Kk g) 149 [.ptr (.obj 813) 0,.ptr (.obj 811) 0] (by intro a;simp[inObs,pj,Pv.look,aO,aJ]) Ψ (fun v l=>lT ⟨v,g⟩ l) (fun v a=>agx g v a) x l;refine cQ.ob key (F6 g l) (by unfold pj;exact aH) (by unfold pj;exact aH) (by simp[inObs,pj,Pv.look]) ?_;rintro r ah ⟨rfl,rfl⟩;refine⟨Kk g _ _,?_⟩;unfold pj;generalize fu:x.fold (fun v l=>lT ⟨v,g⟩ l) l=M at gA hlen⊢;simp[cb];(with_reducible repeat' first|refine ak ?_|simp);refine n1 (ajE M) M.length _ ⟨by simp[fresh,aO,aJ,cn,inObs,Pv.look,BG],ek (by simp[fresh,aO,aJ,cn,inObs,Pv.look,BG]),en (by simp[fresh,aO,aJ,dW,inObs,Pv.look,BG]),Ψ⟩ ⟨[],[],Ψ,Ψ,Ψ,Ψ,Ψ,rfl⟩ ?_;rintro k st ⟨seen,xs,aG,bs,ae,Wo,pI,rfl⟩ jF cI;clear jF cI;have hle:=JA aG bs;simp;refine adr (mk:= .obj 812) (seen:=seen) (l:=M) Ψ Ψ rfl (fun lE=>?_) (fun b y aC ad=>?_)
  ·have xp:=Pz aG bs lE;rw[<-Wo]at xp;have dG:=gA xs xp;simp;(with_reducible repeat' first|refine ak ?_|simp);have key:=aha xs Ω;have eh:=Kj xs;unfold yt dT at key eh;refine cQ.ob key eh aH aH (by simp[inObs,Pv.look]) ?_;rintro r ah ⟨rfl,rfl⟩;refine⟨Same.keys Ψ Ψ,?_⟩;rw[dG];simp[cb];(with_reducible repeat' first|refine ak ?_|simp);simp[bp,IS,aV,aY,aU];simp[jf]
  ·have Bf:∀f:aL->Option (List aj),f (.loc 2)=some (cn M.length (seen++[b]) (.obj 812))->f (.obj 812)=some (o0 M)->qn f (.ptr (.loc 2) 0)=some (True,.tuple [y.e,.bool true]):=fun f J U=>aky f (.loc 2) (.obj 812) M.length seen b M y J U rfl aC;have fB:b<M.length:=(fD.1 aC).1;have qT:=PA aG bs fB ad;simp[Bf];(with_reducible repeat' first|refine ak ?_|simp[Bf]);all_goals first|(refine⟨by unfold lim;omega,?_⟩)|skip
   have y0:∀S:aL->Prop,aO S (xs.map bj.e++[y.e])=True:=fun S=>by
    have e:xs.map bj.e++[y.e]=(xs++[y]).map bj.e:=by simp
    rw[e];simp[-List.map_append]
   refine bR.next (M.length-(seen.length+1)) Ω ⟨seen++[b],xs++[y],Od aG ad,(by simp;intro c ao;rcases ao with ao|rfl;exact bs c ao;exact fB),Ψ,by rw[List.filterMap_append,<-Wo];simp[aC],by simp[pI],rfl⟩ ⟨by simp[fresh,aO,aJ,cn,inObs,Pv.look,BG,y0],ek (by simp[fresh,aO,aJ,cn,inObs,Pv.look,BG,y0]),en (by simp[fresh,aO,aJ,dW,inObs,Pv.look,BG,y0]),Ψ⟩
 ·obtain⟨b,ad,cJ⟩:=eI hi;have ku:lT b (l.take i)=l.take (i+1):=by
   have J:b∉l.take i:=fun h=>by
    obtain⟨j,ag,e⟩:=oI h;have jX:j<i:=by simp at ag;omega
    rw[List.getElem_take]at e;have:=(List.nodup_iff_pairwise_ne.1 DW);exact(pY.1 this j i Ω hi jX) (by rw[e,cJ])
   rw[List.take_succ,ad];simp[lT,J]
  exact hN
def RN:C:=(aa [bq 4 false] (.seq (aa [I 7 0,cD 8 7,cf 9 0] (ff 10 9 8 (.seq (.block 1 (aa [cC 11 5 7 9,aX 12 5 11,cR 6 iM,bD 5 6 12] (aa [aK 13 0 1 6,ax 14 1 13,I 15 1,bt 16 .geq 14 15,I 17 16,ar 17 false (hZ 18 1 4 6),ar 17 false (aX 19 4 18),ys 17 false (.bsl 20 4 36 [.t 19]),ar 17 false (cH 21 88 20),bT 17 false 22 1,ar 17 false (bt 23 .gtr 21 22),c3 24 17 23] (aZ 24 (aa [bq 4 false] .ret) .skip)))) (.region [aT 25 .add 9 1,I 9 25])))) (aa [bq 4 true] .ret)))
@[simp] def anG:List bV:=[.tmp 4]
def RL:C:=(aa [cf 2 0] (.seq (aa [I 6 0,cH 7 87 6,cx 8 7] (aZ 8 (aa [cf 2 (-1)] .ret) .skip)) (aa [cS (.alloc 3 (some 831) (.int .i64 0)),cS (.store 1 (.t 3) (ef 0))] (.seq (aa [I 9 0,cD 10 9,cf 11 0] (ff 12 11 10 (.seq (.block 1 (aa [cC 13 4 9 11,aX 14 4 13,cR 5 da,bD 4 5 14] (.region [aX 15 4 5,bS 16 (.mkf 135 [.t 3]),cc 17 107 15 16]))) (.region [aT 18 .add 11 1,I 11 18])))) (aa [ax 19 1 3,I 2 19] .ret)))))
@[simp] def anD:List bV:=[.tmp 2]
def RG:C:=(aa [eM 4 2,bq 5 false] (.seq (aa [I 11 0,cH 12 53 11,cx 13 12,I 14 13,bT 14 false 15 1,ar 14 false (cH 16 54 15),ar 14 false (cx 17 16),c3 18 14 17] (aZ 18 (aa [eM 4 2,bq 5 false] .ret) .skip)) (aa [dV 19 2 59 [],I 6 19] (.seq (.seq (.fg false 6 (.region [I 20 1,cD 21 20,cf 22 0])) (ff 23 22 21 (.seq (.block 1 (aa [cC 24 2 20 22,aX 25 2 24,cS (.alloc 8 none (.agg [.int .i64 0,.int .i64 0])),bD 2 8 25] (.seq (.drawn true 42 [I 27 0,I 28 6,aK 29 0 1 8,ax 30 1 29,cH 31 28 30,aK 32 1 1 8,ax 33 1 32,c0 34 98 [.t 27,.t 28,.t 31,.t 33],I 26 34,cp 35 0 26,cp 36 1 26,I 9 35,I 10 36]) (.seq (aa [I 37 10,cx 38 37] (aZ 38 (aa [eM 4 2,bq 5 false] .ret) .skip)) (.region [I 39 9,I 6 39]))))) (.region [aT 40 .add 22 1,I 22 40])))) (aa [I 41 6,I 4 41,bq 5 true] .ret)))))
@[simp] def OK:List bV:=[.tmp 4,.tmp 5]
def RH:C:=(aa [eM 4 2,bq 5 false] (.seq (aa [I 11 0,cH 12 53 11,cx 13 12,I 14 13,bT 14 false 15 1,ar 14 false (cH 16 55 15),ar 14 false (cx 17 16),c3 18 14 17] (aZ 18 (aa [eM 4 2,bq 5 false] .ret) .skip)) (aa [dV 19 2 56 [],I 6 19] (.seq (.seq (.fg false 6 (.region [I 20 1,cD 21 20,cf 22 0])) (ff 23 22 21 (.seq (.block 1 (aa [cC 24 2 20 22,aX 25 2 24,cS (.alloc 8 none (.agg [.int .i64 0,.str []])),bD 2 8 25] (.seq (.drawn true 42 [I 27 0,I 28 6,aK 29 0 1 8,ax 30 1 29,cH 31 28 30,aK 32 1 1 8,ax 33 1 32,c0 34 100 [.t 27,.t 28,.t 31,.t 33],I 26 34,cp 35 0 26,cp 36 1 26,I 9 35,I 10 36]) (.seq (aa [I 37 10,cx 38 37] (aZ 38 (aa [eM 4 2,bq 5 false] .ret) .skip)) (.region [I 39 9,I 6 39]))))) (.region [aT 40 .add 22 1,I 22 40])))) (aa [I 41 6,I 4 41,bq 5 true] .ret)))))
@[simp] def OL:List bV:=[.tmp 4,.tmp 5]
def RD:C:=(aa [eM 2 1] (.seq (aa [I 12 0,cD 13 12,cf 14 0] (ff 15 14 13 (.seq (.block 1 (aa [cC 16 1 12 14,ax 17 1 16,I 4 17] (aa [I 18 4,cH 19 53 18,cx 20 19] (aZ 20 (aa [eM 2 1] .ret) .skip)))) (.region [aT 21 .add 14 1,I 14 21])))) (aa [cS (.bslm 22 (some 821) 1 23 []),I 23 0,cS (.appm 24 none 1 23 (.t 22) (.t 23)),cS (.alloc 5 (some 822) (.slice 1 .nil [])),bD 1 5 24] (aa [ax 25 1 5,bS 26 (.mkif 24 (.t 25)),bS 27 (.mkf 139 [.t 5]),cc 28 138 26 27] (aa [dV 29 1 23 [],I 6 29] (.seq (aa [ax 30 1 5,cD 31 30,cf 32 0] (.block 2 (.loop (aa [bt 33 .lss 32 31] (.seq (aZ 33 .skip (.exit 2)) (.seq (.block 3 (aa [I 34 32,cC 35 1 30 32,ax 36 1 35,I 7 34,I 8 36] (.seq (aa [I 37 7,aT 38 .gtr 37 0,I 39 38,ar 39 true (ax 40 1 5),bT 39 true 41 7,ar 39 true (aT 42 .sub 41 1),ar 39 true (cC 43 1 40 42),ar 39 true (ax 44 1 43),bT 39 true 45 8,ar 39 true (cc 46 140 44 45),ar 39 true (aT 47 .eql 46 0),dh 48 39 47] (aZ 48 (.exit 3) .skip)) (aa [bq 9 true] (.seq (aa [ax 49 1 5,cD 50 49,cf 51 0] (.block 4 (.loop (aa [bt 52 .lss 51 50] (.seq (aZ 52 .skip (.exit 4)) (.seq (.block 5 (aa [cC 53 1 49 51,ax 54 1 53,I 11 54] (aa [I 55 11,I 56 8,cc 57 140 55 56,aT 58 .neq 57 0,I 59 58,bT 59 true 60 11,bT 59 true 61 8,ar 59 true (cc 62 141 60 61),dh 63 59 62] (aZ 63 (.region [bq 9 false]) .skip)))) (.region [aT 64 .add 51 1,I 51 64]))))))) (aa [I 65 9] (aZ 65 (.region [I 66 6,I 67 8,cH 68 91 67,dV 69 1 23 [.t 68],gN 70 1 23 66 69,I 6 70]) .skip))))))) (.region [aT 71 .add 32 1,I 32 71]))))))) (aa [I 72 6,I 2 72] .ret)))))))
@[simp] def anx:List bV:=[.tmp 2]
def KQ:C:=(.region [ax 3 1 1,I 4 0,aT 5 .add 4 1,bS 6 (.max2 (.t 3) (.t 5)),bD 1 1 6])
@[simp] def ON:List bV:=[]
def RE:C:=(aa [bq 5 false] (.seq (.drawn true 16 [ax 6 1 2,I 7 0,cC 8 1 6 7,ax 9 1 8,ax 10 1 2,I 11 1,cC 12 1 10 11,ax 13 1 12,cc 14 140 9 13,aT 15 .lss 14 0,I 5 15]) .ret))
@[simp] def YT:List bV:=[.tmp 5]
def ya:List (Nat×dy):=[
 (3,⟨1,8,.int .i64,.int .i64 0⟩),
 (9,⟨1,16,.str,.str []⟩),
 (23,⟨1,24,.slice 54,.slice 5 .nil []⟩),
 (24,⟨1,24,.slice 23,.slice 1 .nil []⟩),
 (25,⟨1,24,.slice 59,.slice 2 .nil []⟩),
 (26,⟨1,24,.slice 56,.slice 2 .nil []⟩),
 (34,⟨1,24,.slice 36,.slice 4 .nil []⟩),
 (36,⟨4,56,.struct [(0,3),(1,3),(2,9),(3,34)],.agg [.int .i64 0,.int .i64 0,.str [],.slice 4 .nil []]⟩),
 (54,⟨5,64,.struct [(0,3),(1,36)],.agg [.int .i64 0,.int .i64 0,.int .i64 0,.str [],.slice 4 .nil []]⟩),
 (56,⟨2,24,.struct [(0,3),(1,9)],.agg [.int .i64 0,.str []]⟩),
 (59,⟨2,16,.struct [(0,3),(1,3)],.agg [.int .i64 0,.int .i64 0]⟩)]
theorem yc:fJ aw ya=true:=by kernel_rfl
theorem alp:b6 ya RN anG 2 Tryz.f56=true:=by kernel_rfl
theorem aez:aw.funcs[(56:Nat)]? =some Tryz.f56:=Tryz.func56
theorem aln:b6 ya RL anD 1 Tryz.f88=true:=by kernel_rfl
theorem aex:aw.funcs[(88:Nat)]? =some Tryz.f88:=Tryz.func88
theorem alh:b6 ya RG OK 2 Tryz.f92=true:=by kernel_rfl
theorem aes:aw.funcs[(92:Nat)]? =some Tryz.f92:=Tryz.func92
theorem ali:b6 ya RH OL 2 Tryz.f93=true:=by kernel_rfl
theorem aet:aw.funcs[(93:Nat)]? =some Tryz.f93:=Tryz.func93
theorem ale:b6 ya RD anx 1 Tryz.f96=true:=by kernel_rfl
theorem aep:aw.funcs[(96:Nat)]? =some Tryz.f96:=Tryz.func96
theorem Yf:b6 ya KQ ON 2 Tryz.f135=true:=by kernel_rfl
theorem Ul:aw.funcs[(135:Nat)]? =some Tryz.f135:=Tryz.func135
theorem alf:b6 ya RE YT 3 Tryz.f139=true:=by kernel_rfl
theorem aeq:aw.funcs[(139:Nat)]? =some Tryz.f139:=Tryz.func139
def WG(s:List ai)(l:List b8)(i:Nat)(a:List b8):Prop:=hj a/\fM s (l.drop i) a=fM s l []
theorem aaX{s:List ai}(af:ev s){l:List b8}(av:hj l):bK aw 92 [.slice 5 .no (s.map ai.e),.slice 2 .no (l.map b8.e)] (gm (fM s l [])):=by
 have y2:=q0 av;have kS:=pT af;have dg:=aaT av;refine bo yc aes alh fun aQ=>?_;unfold RG;simp;(with_reducible repeat' first|refine ak ?_|refine aA kS ?_|refine aB kS ?_|refine aA dg ?_|refine aB dg ?_|simp);refine eJ [0,20,21] (fun i (a:List b8)=>[(6,.slice 2 .no (a.map b8.e)),(22,.int .i64 i)]) l.length (WG s l) [] b7 ⟨⟨Ψ,Ψ⟩,rfl⟩ (fun a ag _=>?_) (fun i a hi ag _=>?_)
 ·obtain⟨_,ag⟩:=ag;rw[List.drop_length]at ag;simp only[fM]at ag;rw[<-ag];simp;(with_reducible repeat' first|refine ak ?_|simp);simp[bp,OK,aV,aY,aU];simp[gm]
 ·obtain⟨bg,ag⟩:=ag;obtain⟨b,ad,cJ⟩:=eI hi;have pA:=av.at' b (eF ad);rw[lu hi,cJ]at ag;simp only[fM]at ag;have kA:=apJ af bg (.var b.v) (by simp[T.fit,T.ok,T.size,pA.1]) b.k;have bd:((T.var b.v).ap (aR s)).size<=5000:=Ft af b.v;rw[if_pos ⟨pA.2,bd⟩,show(T.var b.v).ap (aR s)=aR s b.v from rfl]at kA;simp[hi,cJ];cases dU:ib a (aR s b.v) b.k with
  |none=>rw[dU]at ag kA;simp only at ag;rw[<-ag];simp only[gm]at kA;(with_reducible repeat' first|refine ak ?_|refine aA (lr _) ?_|refine aB (lr _) ?_|refine aA kA ?_|refine aB kA ?_|simp[cJ,hi]);simp[bp,OK,aV,aY,aU];simp[gm]
  |some bk=>rw[dU]at ag kA;simp only[gm]at kA;(with_reducible repeat' first|refine ak ?_|refine aA (lr _) ?_|refine aB (lr _) ?_|refine aA kA ?_|refine aB kA ?_|simp[cJ,hi]);exact bR.rng bk hi ⟨Gc bg (zW af pA.1) pA.2 dU,ag⟩ b7
def WH(s:List ai)(G:List (List UInt8))(l:List bj)(i:Nat)(a:List bj):Prop:=iN a/\kG G a/\fI s (l.drop i) a=fI s l []
theorem aaY{s:List ai}(af:ev s){l:List bj}(av:iN l){G:List (List UInt8)}(iH:G.length<=687000)(aW:kG G l):bK aw 93 [.slice 5 .no (s.map ai.e),.slice 2 .no (l.map bj.e)] (jf (fI s l [])):=by
 have hlen:∀{a:List bj},iN a->kG G a->a.length<=68719470000:=fun J U=>by have:=ED J U;omega
 have y2:=hlen av aW;have kS:=pT af;have dg:=aaV av;refine bo yc aet ali fun aQ=>?_;unfold RH;simp;(with_reducible repeat' first|refine ak ?_|refine aA kS ?_|refine aB kS ?_|refine aA dg ?_|refine aB dg ?_|simp);refine eJ [0,20,21] (fun i (a:List bj)=>[(6,.slice 2 .no (a.map bj.e)),(22,.int .i64 i)]) l.length (WH s G l) [] b7 ⟨⟨Ψ,by simp[hS]⟩,fun x ab=>by simp at ab,rfl⟩ (fun a ag _=>?_) (fun i a hi ag _=>?_)
 ·obtain⟨_,_,ag⟩:=ag;rw[List.drop_length]at ag;simp only[fI]at ag;rw[<-ag];simp;(with_reducible repeat' first|refine ak ?_|simp);simp[bp,OL,aV,aY,aU];simp[jf]
 ·obtain⟨bg,D6,ag⟩:=ag;obtain⟨b,ad,cJ⟩:=eI hi;have pA:=av.at' b (eF ad);have Mj:=aW b (eF ad);rw[lu hi,cJ]at ag;simp only[fI]at ag;have kA:=apI af bg (hlen bg D6) (.var b.v) (by simp[T.fit,T.ok,T.size,pA.1]) pA.2;have bd:((T.var b.v).ap (aR s)).size<=5000:=Ft af b.v;rw[if_pos bd,show(T.var b.v).ap (aR s)=aR s b.v from rfl]at kA;simp[hi,cJ];cases dU:iV a (aR s b.v) b.s with
  |none=>rw[dU]at ag kA;simp only at ag;rw[<-ag];simp only[jf]at kA;(with_reducible repeat' first|refine ak ?_|refine aA (lr _) ?_|refine aB (lr _) ?_|refine aA kA ?_|refine aB kA ?_|simp[cJ,hi]);simp[bp,OL,aV,aY,aU];simp[jf]
  |some bk=>rw[dU]at ag kA;simp only[jf]at kA;(with_reducible repeat' first|refine ak ?_|refine aA (lr _) ?_|refine aB (lr _) ?_|refine aA kA ?_|refine aB kA ?_|simp[cJ,hi]);exact bR.rng bk hi ⟨Gd bg (zW af pA.1) pA.2 dU,CY D6 Mj dU,ag⟩ b7
end
section
open Go Go.Pv Go.Lib
def cF(d:List ai):aj:= .slice 5 .no (d.map ai.e)
@[simp]theorem atz(S:aL->Prop)(d:List ai):aJ S (cF d)=True:=by simp[cF]
@[simp]theorem arQ(d:List ai):cells (cF d)=[cF d]:=rfl
@[simp]theorem auT(d:List ai):e4 (cF d)=true:=rfl
@[simp]theorem ave(d:List ai):eb (cF d)=cF d:=by simp[cF]
theorem TP:∀(S:aL->Prop) (x:List ai),aJ S (cF x):=fun S x=>by simp
theorem Nx(S:aL->Prop):∀l:List (List ai),aO S (l.map cF)
 |[]=>by simp[aO]
 |x::xs=>by simp[aO,Nx S xs]
@[simp]theorem Xa(S:aL->Prop)(l:List (List ai)):aO S (l.map cF)=True:=eq_true (Nx S l)
@[simp]theorem PW:∀l:List (List ai),dq (l.map cF)=l.map cF
 |[]=>rfl
 |x::xs=>by simp[dq,PW xs]
def mh(d:List dO):aj:= .slice 5 .no (d.map dO.e)
@[simp]theorem arR(d:List dO):cells (mh d)=[mh d]:=rfl
@[simp]theorem auU(d:List dO):e4 (mh d)=true:=rfl
theorem Ln(d:List ai):mh (d.map ai.b)=cF d:=by simp only[mh,cF,uK]
theorem Lo(l:List (List ai)):(l.map fun d=>d.map ai.b).map mh=l.map cF:=by rw[List.map_map];exact List.map_congr_left fun d _=>Ln d
@[simp]theorem atA(S:aL->Prop)(d:List dO):aJ S (mh d)=True:=by simp[mh]
@[simp]theorem avf(d:List dO):eb (mh d)=mh d:=by simp[mh]
theorem Xb(S:aL->Prop):∀l:List (List dO),aO S (l.map mh)
 |[]=>by simp[aO]
 |x::xs=>by simp[aO,Xb S xs]
@[simp]theorem atu(S:aL->Prop)(l:List (List dO)):aO S (l.map mh)=True:=eq_true (Xb S l)
abbrev vf(l:List (List ai)):cT:=dT cF 821 822 23 1 l
theorem Kg(l:List (List ai)):dP (vf l):=yu TP l
theorem agA(l:List (List ai))(av:l.length<=68719476736)(i j:Nat)(x y:List ai)(hi:l[i]? =some x)(ag:l[j]? =some y):bG aw 139 [.int .i64 i,.int .i64 j,.ptr (.obj 822) 0] (vf l) fun r ah=>r= .bool (h8 eE x y)/\ah=vf l:=by have af:=Kg l;obtain⟨mR,hX⟩:=fD.1 hi;obtain⟨ec,oU⟩:=fD.1 ag;have aS:bK aw 140 [cF x,cF y] (.int .i64 (eE x y)):=JX x y;unfold vf dT at af⊢;refine bG.mk mixed yc aeq alf Ψ af.obj fun aQ cI=>?_;unfold RE;simp[mR,ec,hX,oU];(with_reducible repeat' first|refine ak ?_|refine aA aS ?_|refine aB aS ?_|simp[mR,ec,hX,oU]);refine cL.at _ (.inl rfl) af (Same.refl _) aH aH ?_;simp[cM,YT,aV,aY,aU,h8]
noncomputable def Tryz.dsT:TypeInfo:=(aw.info? 24).get co
noncomputable def Tryz.dsE:TypeInfo:=(aw.info? 23).get co
theorem Tryz.dsK(n:Nat)(U:2<=n):Lib.swapperK n Tryz.dsE 23=9:=by
 have a:Tryz.dsE.hasPointers=true:=by kernel_rfl
 have b:Tryz.dsE.bytes=24:=by kernel_rfl
 have c:(n==0)=false:=by simp;omega
 have d:(n==1)=false:=by simp;omega
 simp[Lib.swapperK,a,b,c,d]
theorem ag8(l:List (List ai))(av:l.length<=68719476736):bG aw 138 [.iface 24 (.row 1 (.obj 821) l.length),.func 139 [.ptr (.obj 822) 0]] (vf l) fun r ah=>r= .tuple []/\ah=vf (o4 eE l):=by
 refine(agD TP (K:=821) (B:=822) (sz:=1) 24 Tryz.dsT Tryz.dsE co co co co 23 (fun _=>by kernel_rfl) Tryz.dsK 139 (h8 eE) lJ.ltOk l av (fun a6 h i j x y hi ag=>agA a6 Ω i j x y hi ag) (fun a6 h i j hi ag=>?_)).mono ?_
 ·have:=U5 (P:=aw) false 186 (fun args W=>run_callFunc_extern Tryz.func186 co co co (e:=FV false) co args W)
   23 Tryz.dsE co (.inr ⟨by kernel_rfl,fun _=>by kernel_rfl⟩) (Kg a6) (K:=821) (n:=l.length) (el:=23) (sz:=1) co (xs:=a6.map cF) (by simp[dT,Pv.look,h]) i j hi ag
  refine this.mono ?_;rintro r ah ⟨rfl,rfl⟩;refine⟨rfl,?_⟩;simp[dT,cB,Xo,h]
 ·rintro r ah ⟨rfl,a6,rfl,J,U⟩;exact⟨rfl,by rw[aal lJ J U]⟩
end
section
open Go Go.Pv
theorem BK{α:Type}{s:List α}{i:Nat}{t:α}(h:s[i]? =some t):s.drop i=t::s.drop (i+1):=by obtain⟨hi,e⟩:=fD.1 h;rw[lu hi,e]
def q6(L:List (List ai))(a:List (List ai))(e:List ai):List (List ai):=if iL L e=true then kT eE e a else a
theorem N5{L:List (List ai)}:∀(xs:List (List ai)) {a:List (List ai)},hS eE a->hS eE (xs.foldl (q6 L) a)
 |[],_,h=>h
 |x::xs,a,h=>N5 xs (a:=q6 L a x) (by unfold q6;split<;>first|exact Nb lJ h|exact h)
theorem XP{L:List (List ai)}{x:List ai}:∀(xs:List (List ai)) {a:List (List ai)},x∈xs.foldl (q6 L) a↔x∈a\/(x∈xs/\iL L x=true)
 |[],a=>by simp
 |y::xs,a=>by
  rw[List.foldl_cons,XP xs,fm];unfold q6;by_cases ae:iL L y=true
  ·rw[if_pos ae,Io lJ];constructor
   ·rintro((rfl|h)|h)
    ·exact .inr ⟨.inl rfl,ae⟩
    ·exact .inl h
    ·exact .inr ⟨.inr h.1,h.2⟩
   ·rintro(h|⟨rfl|J,U⟩)
    ·exact .inl (.inr h)
    ·exact .inl (.inl rfl)
    ·exact .inr ⟨J,U⟩
  ·rw[if_neg ae];constructor
   ·rintro(h|h)
    ·exact .inl h
    ·exact .inr ⟨.inr h.1,h.2⟩
   ·rintro(h|⟨rfl|J,U⟩)
    ·exact .inl h
    ·exact absurd U ae
    ·exact .inr ⟨J,U⟩
theorem XO{L:List (List ai)}:∀(xs a:List (List ai)),(xs.foldl (q6 L) a).length<=a.length+xs.length
 |[],a=>by simp
 |y::xs,a=>by
  have J:=XO (L:=L) xs (q6 L a y);have U:(q6 L a y).length<=a.length+1:=by
   unfold q6;split
   ·exact Nd _ _
   ·omega
  simp only[List.foldl_cons,mG];omega
theorem akN(L:List (List ai)):jL L=L.foldl (q6 L) []:=XK (N5 L (by simp[hS])) fun x=>by rw[XP];simp
def zh(L:List (List ai))(i:Nat)(a:List (List ai)):Prop:=a=(L.take i).foldl (q6 L) []
theorem zh.step{L:List (List ai)}{i:Nat}{a:List (List ai)}(h:zh L i a){e:List ai}(he:L[i]? =some e):zh L (i+1) (q6 L a e):=by rw[zh,mC he,List.foldl_append,h];rfl
def xD(e d:List ai):Bool:=decide (d=e)|| !kE d e
def qX(L:List (List ai))(e:List ai)(j:Nat)(k:Bool):Prop:=k=(L.take j).all (xD e)
theorem qX.step{L:List (List ai)}{e:List ai}{j:Nat}{k:Bool}(h:qX L e j k){d:List ai}(aG:L[j]? =some d):qX L e (j+1) (k&&xD e d):=by rw[qX,mC aG,List.all_append,h];simp
def HX(a:List (List ai))(e:List ai)(k:Nat):Prop:=k<=a.length/\∀c,a[k]? =some c->0<=eE c e
theorem HX.fin{a:List (List ai)}{e:List ai}{k:Nat}(h:HX a e k)(bg:hS eE a)(ao:∀d,0<k->a[k-1]? =some d->eE d e<0):kT eE e a=if(match a[k]? with|some y=>decide (eE y e=0)|none=>false)=true then a else a.take k++e::a.drop k:=
 (Nc lJ e a k (fun i c hi jq=>by
  have ae:=h.1;obtain⟨d,aG⟩:∃d,a[k-1]? =some d:=⟨_,cg Ω⟩;have J:=ao d Ω aG;rcases Nat.lt_or_ge i (k-1)with U|U
  ·have uf:=(fD.1 jq);have lZ:=(fD.1 aG);have:=pY.1 bg i (k-1) uf.1 lZ.1 U;rw[uf.2,lZ.2]at this;exact lJ.ltr this Ω
  ·have:i=k-1:=Ω
   subst this;rw[aG]at jq;cases jq;exact J) h.2 h.1).trans (by cases a[k]?<;>rfl)
theorem WV(L:List (List ai))(e:List ai):iL L e=L.all (xD e):=rfl
theorem aak{l:List (List ai)}{x:List ai}:x∈o4 eE l↔x∈l:=(xZ eE l).mem_iff
theorem akM(l:List (List ai)):jL l=(cN none (o4 eE l)).filter (iL (o4 eE l)):=by have h:iL l=iL (o4 eE l):=funext fun e=>ajX (fun x=>aak.symm) e;rw[jL,h];rfl
def nK(s:List (List ai))(i:Nat)(acc:List (List ai)):Prop:=acc++(cN (if i=0 then none else s[i-1]?) (s.drop i)).filter (iL s)=(cN none s).filter (iL s)
def dY:br:=⟨0,[],[],[],[]⟩
noncomputable def tt(s:br):br:=match fM s.b s.k []with
 |none=>dY
 |some k=>match fI s.b s.m []with
  |none=>dY
  |some m=>match fw s.b k (m.filter (iO k)) s.d with
   |none=>dY
   |some L=>⟨s.n,s.b,jL L,k,m.filter (iO k)⟩
theorem PD{s ah:br}(h:fy s=some ah):tt s=ah:=by
 unfold fy at h;unfold tt;cases J:fM s.b s.k []with
 |none=>rw[J]at h;cases h
 |some k=>
  rw[J]at h;simp only at h⊢;cases U:fI s.b s.m []with
  |none=>rw[U]at h;cases h
  |some m=>
   rw[U]at h;simp only at h⊢;cases h3:fw s.b k (m.filter (iO k)) s.d with
   |none=>rw[h3]at h;cases h
   |some L=>
    rw[h3]at h;simp only at h⊢;split at h
    ·cases h;rfl
    ·cases h
theorem ace{k:List b8}(ae:hj k)(v:Int):(ib k (.var v) 2).isSome=(jd k v !=some 3):=by
 unfold ib;simp only;cases h:jd k v with
 |none=>simp
 |some x=>have:=(ae.at' _ (BD h)).2;simp only at this;rcases this with rfl|rfl<;>simp
theorem acr{k:List b8}(bg:k.Pairwise fun x y=>x.v<y.v)(v:Int):(k.any fun x=>x.v==v&&x.k==3)=(jd k v==some 3):=by
 rw[qz,List.any_eq_true,dM];constructor
 ·rintro⟨x,ab,h⟩;simp only[cr,dM]at h;have:=Er bg ab;rw[h.1,h.2]at this;exact this
 ·intro h;exact⟨_,BD h,Ψ⟩
theorem NC{b:List ai}{k:List b8}{m:List bj}{d:List ai}{r:List (List ai)}(h:mgu b (gf d)=none):fw b k m (d::r)=fw b k m r:=by rw[fw,h]
theorem NB{b:List ai}{k:List b8}{m:List bj}{d x:List ai}{r:List (List ai)}(h:mgu b (gf d)=some x)(ae:fM x k []=none\/fI x m []=none):fw b k m (d::r)=fw b k m r:=by rw[fw,h];simp only[if_pos ae]
theorem NA{b:List ai}{k:List b8}{m:List bj}{d x:List ai}{r:List (List ai)}(h:mgu b (gf d)=some x)(ae:¬(fM x k []=none\/fI x m []=none))(au:dN b x=[]):fw b k m (d::r)=none:=by rw[fw,h];simp only[if_neg ae,if_pos au]
theorem ND{b:List ai}{k:List b8}{m:List bj}{d x:List ai}{r:List (List ai)}(h:mgu b (gf d)=some x)(ae:¬(fM x k []=none\/fI x m []=none))(au:dN b x≠[]):fw b k m (d::r)=(fw b k m r).map (dN b x:: ·):=by rw[fw,h];simp only[if_neg ae,if_neg au]
def qY(b:List ai)(k:List b8)(m:List bj)(D:List (List ai))(i:Nat)(a:List (List ai)):Prop:=a.length<=i/\(∀x∈a,ev x)/\(fw b k m (D.drop i)).map (a++ ·)=fw b k m D
def dK(n:Int):T->Bool
 | .var v=>decide (v<n)
 | .pair a b=>dK n a&&dK n b
 |_=>true
theorem sj{n:Int}:∀{t:T},dK n t=true↔wM t n
 | .var v=>by simp[dK,wM,T.occ]
 | .pair a b=>by simp only[dK,cr,sj (t:=a),sj (t:=b),wM,T.occ,lP];exact⟨fun h v az=>az.elim (h.1 v) (h.2 v),fun h=>⟨fun v az=>h v (.inl az),fun v az=>h v (.inr az)⟩⟩
 | .nil=>by simp[dK,wM,T.occ]
 | .sym _=>by simp[dK,wM,T.occ]
 | .num _=>by simp[dK,wM,T.occ]
def lA(n:Int)(b:ai):Bool:=decide (b.v<n)&&dK n b.t
theorem wP{n:Int}{s:List ai}:s.all (lA n)=true↔oO s n:=by simp[fV,lA,oO,sj]
def sb(v m:Int):Int:=if m<v+1 then v+1 else m
theorem J0{n:Int}:∀(t:T) (m:Int),t.fold sb m<=n↔m<=n/\dK n t=true
 | .var v,m=>by simp only[T.fold,sb,dK,eN];split<;>omega
 | .pair a b,m=>by simp only[T.fold,J0 b,J0 a,dK,cr,and_assoc]
 | .nil,m=>by simp[T.fold,dK]
 | .sym _,m=>by simp[T.fold,dK]
 | .num _,m=>by simp[T.fold,dK]
def FM(v m:Int):Option Int:=if 0<=v/\v<=100000 then some (sb v m)else none
theorem Qu:∀(t:T) (m:Int),t.ok=true->t.foldO FM m=some (t.fold sb m)
 | .var v,m,h=>by
  have:0<=v/\v<=100000:=by simpa[T.ok]using h
  simp[T.foldO,T.fold,FM,this]
 | .pair a b,m,h=>by
  have J:a.ok=true/\b.ok=true:=by simpa[T.ok]using h
  simp[T.foldO,T.fold,Qu a m J.1,Qu b _ J.2]
 | .nil,m,_=>rfl
 | .sym _,m,_=>rfl
 | .num _,m,_=>rfl
theorem nK.fst{s:List (List ai)}{t:List ai}{acc:List (List ai)}(h:nK s 0 acc)(aI:s[0]? =some t):nK s 1 (if iL s t=true then acc++[t]else acc):=by
 unfold nK at*;rw[BK aI]at h;have e:(if(1:Nat)=0 then none else s[1-1]?)=some t:=by simpa using aI
 have b9:acc++(t::cN (some t) (s.drop 1)).filter (iL s)=(cN none s).filter (iL s):=by rw[<-h];simp[cN]
 rw[e,<-b9];by_cases ae:iL s t=true<;>simp[ae]
theorem nK.eq{s:List (List ai)}{i:Nat}{t:List ai}{acc:List (List ai)}(h:nK s i acc)(hi:i≠0)(bF:s[i-1]? =some t)(aI:s[i]? =some t):nK s (i+1) acc:=by
 unfold nK at*;rw[if_neg hi,bF,BK aI]at h;have e:(if i+1=0 then none else s[i+1-1]?)=some t:=by rw[if_neg Ω];exact aI
 rw[e,<-h];simp[cN]
theorem nK.ne{s:List (List ai)}{i:Nat}{p t:List ai}{acc:List (List ai)}(h:nK s i acc)(hi:i≠0)(bF:s[i-1]? =some p)(aI:s[i]? =some t)(au:¬p=t):nK s (i+1) (if iL s t=true then acc++[t]else acc):=by
 unfold nK at*;rw[if_neg hi,bF,BK aI]at h;have e:(if i+1=0 then none else s[i+1-1]?)=some t:=by rw[if_neg Ω];exact aI
 have aG:cN (some p) (t::s.drop (i+1))=t::cN (some t) (s.drop (i+1)):=by simp[cN,au]
 rw[aG]at h;rw[e,<-h];by_cases ae:iL s t=true<;>simp[ae]
theorem ao9(l:List (List ai)):(o4 eE l).length=l.length:=(xZ eE l).length_eq
theorem zk(S:aL->Prop)(l:List (List ai))(d:List ai):aO S (l.map cF++[cF d])=True:=by have:=Nx S (l++[d]);rw[List.map_append]at this;exact eq_true this
theorem apZ(l:List (List ai))(ft:∀d∈l,ev d):bK aw 96 [.slice 1 .no (l.map cF)] (.slice 1 .no ((jL l).map cF)):=by
 generalize bH:jL l=R;rw[akM]at bH;refine bo yc aep ale fun aQ=>?_;unfold RD;have h7:l.length<=68719476736:=by simp[gQ,gi,gH,lim]at aQ;omega
 simp;refine eJ [0,12,13] (fun i (_:Unit)=>[(14,.int .i64 i)]) l.length (fun _ _=>True) () b7 trivial (fun _ _ _=>?_) (fun i _ hi _ _=>?_);rotate_left
 ·obtain⟨e,he,Mq⟩:=eI hi;have kS:bK aw 53 [cF e] (.bool true):=pT (ft e (eF he));exact hN
 simp;(with_reducible repeat' first|refine ak ?_|simp);all_goals first|(refine⟨by unfold lim;omega,?_⟩)|skip
 all_goals(with_reducible repeat' first|refine ak ?_|simp)
 refine cQ.ob (ag8 l h7) (Kg l) (by unfold vf dT;exact aH) (by unfold vf dT;exact aH) (by simp[inObs,dT,Pv.look]) ?_;rintro r ah ⟨rfl,rfl⟩;refine⟨yv _ _,?_⟩;obtain⟨s,D5⟩:∃s,s=o4 eE l:=⟨_,rfl⟩;have qT:s.length=l.length:=by rw[D5];exact ao9 l
 have af:∀d∈s,ev d:=fun d aG=>ft d (by rw[D5,aak]at aG;exact aG);rw[<-D5]at bH;rw[<-D5];clear D5;simp[vf,dT,cb];refine hI (fun i (acc:List (List ai))=>⟨[(5,.ptr (.obj 822) 0),(6,.slice 1 (.own (.loc 0)) (acc.map cF)),(30,.row 1 (.obj 821) s.length),(31,.int .i64 s.length),(32,.int .i64 i)],[(.obj 822,[.row 1 (.obj 821) s.length])],[(.loc 0,⟨acc.length,23,1,none⟩),(.obj 821,⟨s.length,23,1,some (s.map cF)⟩)],1,[.obj 821,.obj 822]⟩) s.length (fun i acc=>acc.length<=i/\nK s i acc) [] b7 ⟨Ψ,by simp[nK]⟩ (fun acc ag _=>?_) (fun i acc hi ag _=>?_)
 ·have ag:=ag.2;rw[nK,List.drop_length]at ag;have:acc=R:=by rw[<-bH];simpa[cN]using ag
  subst this;exact cz
 ·obtain⟨asC,ag⟩:=ag;have mM:acc.length<=68719476735:=Ω
  obtain⟨t,rJ,aI⟩:=eI hi;have dd:=af t (eF rJ);have jc:bK aw 91 [cF t] (cF t):=FF t dd.len;have kh:(if iL s t=true then acc++[t]else acc).length<=acc.length+1:=by split<;>simp
  rcases Nat.eq_zero_or_pos i with rfl|fR
  ·have VZ:=ag.fst rJ;have fL:(if iL s t=true then acc++[t]else acc).length<=0+1/\nK s (0+1) (if iL s t=true then acc++[t]else acc):=⟨ha kh Ω,VZ⟩;clear ag VZ rJ;simp[hi,aI];(with_reducible repeat' first|refine ak ?_|simp[hi,aI]);refine eJ [5,6,8,30,31,32,49,50] (fun j (b:Bool)=>[(9,.bool b),(51,.int .i64 j)]) s.length (qX s t) true b7 (by simp[qX]) (fun keep ag _=>?_) (fun j keep ec ag _=>?_)
   ·rw[qX,lQ,<-WV]at ag;rw[<-ag]at fL;clear ag;cases keep with
    |false=>simp only[hg,if_false]at fL;simp;((with_reducible repeat' first|refine ak ?_|simp|((first|apply bJ|apply bM|apply bL)<;>intro h<;>try simp at h))<;>(try exact ck));all_goals exact bR.rng acc hi fL b7
    |true=>
     simp only[if_true]at fL;clear kh;simp;((with_reducible repeat' first|refine ak ?_|refine aA jc ?_|refine aB jc ?_|simp|((first|apply bJ|apply bM|apply bL)<;>intro h<;>try simp at h))<;>(try exact ck));all_goals first|(refine⟨by unfold lim;omega,?_⟩)|skip
     all_goals(with_reducible repeat' first|refine ak ?_|simp)
     all_goals exact bR.rng (acc++[t]) hi fL ⟨by simp[fresh,aO,aJ,cn,inObs,Pv.look,zk],ek (by simp[fresh,aO,aJ,cn,inObs,Pv.look,zk]),en (by simp[fresh,aO,aJ,dW,inObs,Pv.look,zk]),Ψ⟩
   ·obtain⟨d,aG,hdi⟩:=eI ec;have au:=ag.step aG;have jG:=af d (eF aG);have ed:bK aw 141 [cF d,cF t] (.bool (kE d t)):=abi d jG.len dd;have pL:bK aw 140 [cF d,cF t] (.int .i64 (eE d t)):=JX d t;clear ag aG fL;by_cases q:eE d t=0
    ·rw[xD,hb ((lJ.zero _ _).1 q),Bool.true_or,Bool.and_true]at au;rw[q]at pL;simp[ec,hdi];((with_reducible repeat' first|refine ak ?_|refine aA pL ?_|refine aB pL ?_|simp[ec,hdi]|((first|apply bJ|apply bM|apply bL)<;>intro h<;>try simp at h))<;>(try exact ck));all_goals exact bR.rng keep ec au b7
    ·rw[xD,h0 (fun h=>q ((lJ.zero _ _).2 h)),Bool.false_or]at au;have gl:(eE d t !=0)=true:=by simp[q]
     cases aW:kE d t
     ·rw[aW]at au ed;simp only[Bool.not_false,Bool.and_true]at au;simp[ec,hdi];((with_reducible repeat' first|refine ak ?_|refine aA pL ?_|refine aB pL ?_|refine aA ed ?_|refine aB ed ?_|simp[ec,hdi,q,gl]|((first|apply bJ|apply bM|apply bL)<;>intro h<;>try simp at h))<;>(try exact ck));all_goals exact bR.rng keep ec au b7
     ·rw[aW]at au ed;simp only[Bool.not_true,Bool.and_false]at au;simp[ec,hdi];((with_reducible repeat' first|refine ak ?_|refine aA pL ?_|refine aB pL ?_|refine aA ed ?_|refine aB ed ?_|simp[ec,hdi,q,gl]|((first|apply bJ|apply bM|apply bL)<;>intro h<;>try simp at h))<;>(try exact ck));all_goals exact bR.rng false ec au b7
  ·obtain⟨p,Bk⟩:∃p,s[i-1]? =some p:=⟨_,cg Ω⟩;have aq:((i:Int)-1).toNat=i-1:=Ω
   have aF:∀h,(s[i-1]'h)=p:=fun h=>by rw[cg h]at Bk;exact eZ Bk
   have bB:¬i=0:=Ω
   have ds:i-1<s.length:=Ω
   have jt:(0:Int)<i:=Ω
   have hj:bK aw 140 [cF p,cF t] (.int .i64 (eE p t)):=JX p t;by_cases HE:p=t
   ·have fL:acc.length<=i+1/\nK s (i+1) acc:=⟨Ω,ag.eq bB (by rw[Bk,HE]) rJ⟩;rw[(lJ.zero _ _).2 HE]at hj;clear ag rJ Bk;simp[hi,aI,aq,aF,ds,jt];((with_reducible repeat' first|refine ak ?_|refine aA hj ?_|refine aB hj ?_|simp[hi,aI,aq,aF,ds,fR,jt]|((first|apply bJ|apply bM|apply bL)<;>intro h<;>try simp at h))<;>(try exact ck));all_goals exact bR.rng acc hi fL b7
   ·have fL:(if iL s t=true then acc++[t]else acc).length<=i+1/\nK s (i+1) (if iL s t=true then acc++[t]else acc):=⟨ha kh Ω,ag.ne bB Bk rJ HE⟩;have nQ:¬eE p t=0:=fun h=>HE ((lJ.zero _ _).1 h);have YK:(eE p t==0)=false:=by simp[nQ]
    clear ag rJ Bk;simp[hi,aI,aq,aF,ds,jt];((with_reducible repeat' first|refine ak ?_|refine aA hj ?_|refine aB hj ?_|simp[hi,aI,aq,aF,ds,fR,jt,nQ,YK]|((first|apply bJ|apply bM|apply bL)<;>intro h<;>try simp at h))<;>(try exact ck));refine eJ [5,6,8,30,31,32,49,50] (fun j (b:Bool)=>[(9,.bool b),(51,.int .i64 j)]) s.length (qX s t) true b7 (by simp[qX]) (fun keep ag _=>?_) (fun j keep ec ag _=>?_)
    ·rw[qX,lQ,<-WV]at ag;rw[<-ag]at fL;clear ag;cases keep with
     |false=>simp only[hg,if_false]at fL;simp;((with_reducible repeat' first|refine ak ?_|simp|((first|apply bJ|apply bM|apply bL)<;>intro h<;>try simp at h))<;>(try exact ck));all_goals exact bR.rng acc hi fL b7
     |true=>
      simp only[if_true]at fL;clear kh;simp;(with_reducible repeat' first|refine ak ?_|refine aA jc ?_|refine aB jc ?_|simp);all_goals first|(refine⟨by unfold lim;omega,?_⟩)|skip
      all_goals(with_reducible repeat' first|refine ak ?_|simp)
      all_goals exact bR.rng (acc++[t]) hi fL ⟨by simp[fresh,aO,aJ,cn,inObs,Pv.look,zk],ek (by simp[fresh,aO,aJ,cn,inObs,Pv.look,zk]),en (by simp[fresh,aO,aJ,dW,inObs,Pv.look,zk]),Ψ⟩
    ·obtain⟨d,aG,hdi⟩:=eI ec;have au:=ag.step aG;have jG:=af d (eF aG);have ed:bK aw 141 [cF d,cF t] (.bool (kE d t)):=abi d jG.len dd;have pL:bK aw 140 [cF d,cF t] (.int .i64 (eE d t)):=JX d t;clear ag aG fL;by_cases q:eE d t=0
     ·rw[xD,hb ((lJ.zero _ _).1 q),Bool.true_or,Bool.and_true]at au;rw[q]at pL;simp[ec,hdi];((with_reducible repeat' first|refine ak ?_|refine aA pL ?_|refine aB pL ?_|simp[ec,hdi]|((first|apply bJ|apply bM|apply bL)<;>intro h<;>try simp at h))<;>(try exact ck));all_goals exact bR.rng keep ec au b7
     ·rw[xD,h0 (fun h=>q ((lJ.zero _ _).2 h)),Bool.false_or]at au;have gl:(eE d t !=0)=true:=by simp[q]
      cases aW:kE d t
      ·rw[aW]at au ed;simp only[Bool.not_false,Bool.and_true]at au;simp[ec,hdi];((with_reducible repeat' first|refine ak ?_|refine aA pL ?_|refine aB pL ?_|refine aA ed ?_|refine aB ed ?_|simp[ec,hdi,q,gl]|((first|apply bJ|apply bM|apply bL)<;>intro h<;>try simp at h))<;>(try exact ck));all_goals exact bR.rng keep ec au b7
      ·rw[aW]at au ed;simp only[Bool.not_true,Bool.and_false]at au;simp[ec,hdi];((with_reducible repeat' first|refine ak ?_|refine aA pL ?_|refine aB pL ?_|refine aA ed ?_|refine aB ed ?_|simp[ec,hdi,q,gl]|((first|apply bJ|apply bM|apply bL)<;>intro h<;>try simp at h))<;>(try exact ck));all_goals exact bR.rng false ec au b7
theorem aqO(l:List T)(h:∀t∈l,t.fit=true):bK aw 87 [.slice 4 .no (l.map T.e)] (.bool true):=by
 refine bo fT Uq Yk fun aQ=>?_;unfold KV;have h7:l.length<=68719476736:=by simp[gQ,gi,gH,lim]at aQ;omega
 simp;refine eJ [5,6] (fun i (_:Unit)=>[(7,.int .i64 i)]) l.length (fun _ _=>True) () b7 trivial (fun _ _ _=>?_) (fun i _ hi _ _=>?_)
 ·exact cz
 ·obtain⟨t,aI,rJ⟩:=eI hi;have dt:=Ac (h t (eF aI));clear aI;exact hN
def jk(m:Int):cT:=⟨[(.obj 831,[.int .i64 m])],[]⟩
theorem wK(m:Int):dP (jk m):=by unfold jk;exact dP.of ⟨by intro m;simp[Pv.look],by intro m;simp[Pv.look]⟩ Ψ Ψ
theorem ab2(a b:Int):Same (jk a) (jk b):=Same.keys (by simp[jk]) (by simp[jk])
theorem agF(v m hM:Int)(h:FM v m=some hM):bG aw 135 [.int .i64 v,.ptr (.obj 831) 0] (jk m) fun r ah=>r= .tuple []/\ah=jk hM:=by
 unfold FM at h;split at h;rotate_left
 ·cases h
 rename_i az;cases h;have af:=wK m;simp only[jk]at af⊢;by_cases hm:m<v+1
 ·rw[sb,if_pos hm];refine bG.mk mixed yc Ul Yf Ψ af.obj fun aQ cI=>?_;unfold KQ;simp;(with_reducible repeat' first|refine ak ?_|simp[hm]);(refine cL.at (jk (v+1)) Ψ (by first|exact wK _|exact wK ‹_› _) (Same.keys (by simp[jk]) (by simp[jk])) (by simp only[jk,bP,bU];exact aH) (by simp only[jk,bP,bU];exact aH) ?_;simp[cM,ON,aV,aY,aU,inObs,Pv.look,jk])
 ·rw[sb,if_neg hm];refine bG.mk mixed yc Ul Yf Ψ af.obj fun aQ cI=>?_;unfold KQ;simp;(with_reducible repeat' first|refine ak ?_|simp[hm]);(refine cL.at (jk m) Ψ (by first|exact wK _|exact wK ‹_› _) (Same.keys (by simp[jk]) (by simp[jk])) (by simp only[jk,bP,bU];exact aH) (by simp only[jk,bP,bU];exact aH) ?_;simp[cM,ON,aV,aY,aU,inObs,Pv.look,jk])
def yg(l:List T):Int:=l.foldl (fun m t=>t.fold sb m) 0
def HY(l:List T)(i:Nat)(m:Int):Prop:=m=yg (l.take i)
theorem aa1(l:List T)(h:∀t∈l,t.fit=true):bK aw 88 [.slice 4 .no (l.map T.e)] (.int .i64 (yg l)):=by
 have dt:=aqO l h;generalize bH:yg l=R;refine bo yc aex aln fun aQ=>?_;unfold RL;have h7:l.length<=68719476736:=by simp[gQ,gi,gH,lim]at aQ;omega
 simp;(with_reducible repeat' first|refine ak ?_|refine aA dt ?_|refine aB dt ?_|simp);refine hI (fun i (m:Int)=>⟨[(3,.ptr (.obj 831) 0),(9,.slice 4 .no (l.map T.e)),(10,.int .i64 l.length),(11,.int .i64 i)],[(.obj 831,[.int .i64 m])],[],0,[.obj 831]⟩) l.length (HY l) 0 b7 rfl (fun m ag _=>?_) (fun i m hi ag _=>?_)
 ·rw[HY,lQ,bH]at ag;subst ag;exact cz
 ·obtain⟨t,aI,rJ⟩:=eI hi;have ah4:t.ok=true:=by have:=h t (eF aI);simp only[T.fit,cr]at this;exact this.1
  have au:HY l (i+1) (t.fold sb m):=by rw[HY,mC aI,yg,List.foldl_append,ag];rfl
  have key:=L0 jk wK ab2 135 [.ptr (.obj 831) 0] (fun a=>by simp[jk,inObs,Pv.look]) Ψ FM (fun v a bk h=>agF v a bk h) t m _ (Qu t m ah4);clear ag aI;simp[hi,rJ];(with_reducible repeat' first|refine ak ?_|simp[rJ,hi]);(refine cQ.ob (key) (by first|exact wK _|exact wK ‹_› _) (by simp only[jk,bP,bU];exact aH) (by simp only[jk,bP,bU];exact aH) (by simp[inObs,Pv.look,jk]) ?_;rintro r ah ⟨rfl,rfl⟩;refine⟨(Same.keys (by simp[jk]) (by simp[jk])),?_⟩;simp[cb,jk]);(with_reducible repeat' first|refine ak ?_|simp);refine bR.rng (t.fold sb m) hi au ?_;exact b7
theorem aa3{s:List ai}(af:ev s){n:Int}(au:0<=n):bK aw 56 [.slice 5 .no (s.map ai.e),.int .i64 n] (.bool (s.all (lA n))):=by
 have qT:=af.len;generalize bH:s.all (lA n)=R;refine bo yc aez alp fun aQ=>?_;unfold RN;simp;refine eJ [1,7,8] (fun i (_:Unit)=>[(9,.int .i64 i)]) s.length (mW (lA n) s) () b7 (fun k b ae=>Ω) (fun _ ag _=>?_) (fun i _ hi ag _=>?_)
 ·have:R=true:=by rw[<-bH,fV];intro b ad;obtain⟨k,ae,e⟩:=oI ad;exact ag k b ae (by rw[cg ae,e])
  rw[this];exact cz
 ·obtain⟨b,az,gr⟩:=eI hi;have fW:lA n b=false->R=false:=fun h=>by rw[<-bH,Bool.eq_false_iff];intro b9;rw[fV]at b9;rw[b9 b (eF az)]at h;cases h
  have kB:=aa1 [b.t] (fun t aI=>by simp at aI;subst aI;exact af.fit b (eF az));have hle:=J0 (n:=n) b.t 0;rw[show yg [b.t]=b.t.fold sb 0 from rfl]at kB;simp only[gZ,nn]at kB;generalize b.t.fold sb 0=m at kB hle;by_cases J:b.v<n
  ·have oT:¬n<=b.v:=Ω
   cases U:dK n b.t
   ·have h3:n<m:=by rw[U]at hle;simp at hle;omega
    rw[fW (by simp[lA,U])];clear ag az hle;exact cz
   ·have h3:¬n<m:=by rw[U]at hle;simp[au]at hle;omega
    have gK:=ag.step az (by simp[lA,J,U]);clear ag az hle;exact hN
  ·have oT:n<=b.v:=Ω
   rw[fW (by simp[lA,J])];clear ag az hle;exact cz
def wQ:C:=(aa [cW 1 0,bq 2 false] (.seq (aa [aK 11 0 1 1,ax 12 1 11,aT 13 .lss 12 0,I 14 13,ar 14 false (aK 15 0 1 1),ar 14 false (ax 16 1 15),ar 14 false (aT 17 .gtr 16 100000),c3 18 14 17,I 19 18,ar 19 false (aK 20 1 1 1),ar 19 false (ax 21 1 20),ar 19 false (cH 22 53 21),ar 19 false (cx 23 22),c3 24 19 23,I 25 24,ar 25 false (aK 26 3 1 1),ar 25 false (ax 27 1 26),ar 25 false (cH 28 54 27),ar 25 false (cx 29 28),c3 30 25 29,I 31 30,ar 31 false (aK 32 4 1 1),ar 31 false (ax 33 1 32),ar 31 false (cH 34 55 33),ar 31 false (cx 35 34),c3 36 31 35,I 37 36,ar 37 false (aK 38 1 1 1),ar 37 false (ax 39 1 38),ar 37 false (aK 40 0 1 1),ar 37 false (ax 41 1 40),ar 37 false (cc 42 56 39 41),ar 37 false (cx 43 42),c3 44 37 43] (aZ 44 (aa [bq 2 false] .ret) .skip)) (.seq (aa [aK 45 2 1 1,ax 46 1 45,cD 47 46,cf 48 0] (ff 49 48 47 (.seq (.block 1 (aa [cC 50 1 46 48,ax 51 1 50,I 4 51] (aa [I 52 4,cH 53 53 52,cx 54 53,I 55 54,bT 55 false 56 4,ar 55 false (aK 57 0 1 1),ar 55 false (ax 58 1 57),ar 55 false (cc 59 56 56 58),ar 55 false (cx 60 59),c3 61 55 60] (aZ 61 (aa [bq 2 false] .ret) .skip)))) (.region [aT 62 .add 48 1,I 48 62])))) (.seq (aa [aK 63 3 1 1,ax 64 1 63,cD 65 64,cf 66 0] (.block 2 (.loop (aa [bt 67 .lss 66 65] (.seq (aZ 67 .skip (.exit 2)) (.seq (.block 3 (aa [cC 68 2 64 66,aX 69 2 68,cS (.alloc 6 none (.agg [.int .i64 0,.int .i64 0])),bD 2 6 69] (aa [aK 70 0 1 6,ax 71 1 70,aK 72 0 1 1,ax 73 1 72,bt 74 .geq 71 73] (aZ 74 (aa [bq 2 false] .ret) .skip)))) (.region [aT 75 .add 66 1,I 66 75]))))))) (.seq (aa [aK 76 4 1 1,ax 77 1 76,cD 78 77,cf 79 0] (.block 4 (.loop (aa [bt 80 .lss 79 78] (.seq (aZ 80 .skip (.exit 4)) (.seq (.block 5 (aa [cC 81 2 77 79,aX 82 2 81,cS (.alloc 8 none (.agg [.int .i64 0,.str []])),bD 2 8 82] (aa [aK 83 0 1 8,ax 84 1 83,aK 85 0 1 1,ax 86 1 85,bt 87 .geq 84 86] (aZ 87 (aa [bq 2 false] .ret) .skip)))) (.region [aT 88 .add 79 1,I 79 88]))))))) (aa [aX 90 5 1,cH 91 42 90,I 89 91,cp 92 0 89,cp 93 1 89,cR 9 hf,bD 5 9 92,I 10 93] (aa [I 94 10,I 95 94,ar 95 true (aX 96 5 9),ar 95 true (aX 97 5 1),ar 95 true (cc 98 46 96 97),dh 99 95 98,I 2 99] .ret)))))))
@[simp] def anA:List bV:=[.tmp 2]
def Gw:C:=(aa [cW 1 0,cR 2 hf,bq 3 false] (aa [aK 26 1 1 1,ax 27 1 26,aK 28 3 1 1,ax 29 1 28,cc 30 92 27 29,I 25 30,cp 31 0 25,cp 32 1 25,I 4 31,I 5 32] (aa [aK 34 1 1 1,ax 35 1 34,aK 36 4 1 1,ax 37 1 36,cc 38 93 35 37,I 33 38,cp 39 0 33,cp 40 1 33,I 6 39,I 7 40] (.seq (aa [I 41 5,cx 42 41,I 43 42,bT 43 false 44 7,ar 43 false (cx 45 44),c3 46 43 45] (aZ 46 (aa [gY 47 hf [],bD 5 2 47,bq 3 false] .ret) .skip)) (aa [cS (.mkmap 48 none),I 8 48] (.seq (aa [I 49 4,cD 50 49,cf 51 0] (ff 52 51 50 (.seq (.block 1 (aa [cC 53 2 49 51,aX 54 2 53,cS (.alloc 10 none (.agg [.int .i64 0,.int .i64 0])),bD 2 10 54] (aa [aK 55 1 1 10,ax 56 1 55,aT 57 .eql 56 3] (aZ 57 (.region [I 58 8,aK 59 0 1 10,ax 60 1 59,cS (.mput .i (.t 58) (.t 60) (.c (.bool true)))]) .skip)))) (.region [aT 61 .add 51 1,I 51 61])))) (aa [dV 62 2 56 [],I 11 62] (.seq (aa [I 63 6,cD 64 63,cf 65 0] (.block 2 (.loop (aa [bt 66 .lss 65 64] (.seq (aZ 66 .skip (.exit 2)) (.seq (.block 3 (aa [cC 67 2 63 65,aX 68 2 67,cS (.alloc 13 none (.agg [.int .i64 0,.str []])),bD 2 13 68] (aa [I 69 8,aK 70 0 1 13,ax 71 1 70,bS 72 (.mget .i (.bool false) false (.t 69) (.t 71)),cx 73 72] (aZ 73 (.region [I 74 11,aX 75 2 13,dV 76 2 56 [.t 75],gN 77 2 56 74 76,I 11 77]) .skip)))) (.region [aT 78 .add 65 1,I 65 78]))))))) (aa [dV 79 1 23 [],I 14 79] (.seq (aa [aK 80 2 1 1,ax 81 1 80,cD 82 81,cf 83 0] (.block 4 (.loop (aa [bt 84 .lss 83 82] (.seq (aZ 84 .skip (.exit 4)) (.seq (.block 5 (aa [cC 85 1 81 83,ax 86 1 85,I 16 86] (aa [aK 88 1 1 1,ax 89 1 88,I 90 16,cc 91 94 89 90,I 87 91,cp 92 0 87,cp 93 1 87,I 17 92,I 18 93] (.seq (aa [I 94 18,cx 95 94] (aZ 95 (.exit 5) .skip)) (aa [I 97 17,I 98 4,cc 99 92 97 98,I 96 99,cp 100 0 96,cp 101 1 96,I 19 100,I 20 101] (aa [I 103 17,I 104 11,cc 105 93 103 104,I 102 105,cp 106 0 102,cp 107 1 102,I 21 106,I 22 107] (.seq (aa [I 108 20,cx 109 108,I 110 109,bT 110 false 111 22,ar 110 false (cx 112 111),c3 113 110 112] (aZ 113 (.exit 5) .skip)) (aa [aK 114 1 1 1,ax 115 1 114,I 116 17,cc 117 95 115 116,I 23 117] (.seq (aa [I 118 23,cD 119 118,aT 120 .eql 119 0] (aZ 120 (aa [gY 121 hf [],bD 5 2 121,bq 3 false] .ret) .skip)) (.region [I 122 14,I 123 23,dV 124 1 23 [.t 123],gN 125 1 23 122 124,I 14 125])))))))))) (.region [aT 126 .add 83 1,I 83 126]))))))) (aa [I 127 14,cH 128 96 127,I 24 128] (.seq (aa [I 129 24,cD 130 129,aT 131 .gtr 130 30] (aZ 131 (aa [gY 132 hf [],bD 5 2 132,bq 3 false] .ret) .skip)) (.seq (.drawn true 142 [aK 133 0 1 1,ax 134 1 133,aK 135 1 1 1,ax 136 1 135,cH 137 91 136,I 138 24,I 139 4,I 140 11,gY 141 hf [(0,1,(.t 134)),(1,1,(.t 137)),(2,1,(.t 138)),(3,1,(.t 139)),(4,1,(.t 140))],bD 5 2 141,bq 3 true]) .ret)))))))))))))
@[simp] def Ce:List bV:=[.cell 2 true 5,.tmp 3]
def yB:C:=(aa [cW 2 0,cW 3 1,bq 4 false] (.seq (aa [aK 8 0 1 2,ax 9 1 8,aK 10 0 1 3,ax 11 1 10,bt 12 .neq 9 11,I 13 12,ar 13 false (aK 14 1 1 2),ar 13 false (ax 15 1 14),ar 13 false (aK 16 1 1 3),ar 13 false (ax 17 1 16),ar 13 false (cc 18 99 15 17),ar 13 false (cx 19 18),c3 20 13 19,I 21 20,ar 21 false (aK 22 2 1 2),ar 21 false (ax 23 1 22),ar 21 false (cD 24 23),ar 21 false (aK 25 2 1 3),ar 21 false (ax 26 1 25),ar 21 false (cD 27 26),ar 21 false (bt 28 .neq 24 27),c3 29 21 28,I 30 29,ar 30 false (aK 31 3 1 2),ar 30 false (ax 32 1 31),ar 30 false (cD 33 32),ar 30 false (aK 34 3 1 3),ar 30 false (ax 35 1 34),ar 30 false (cD 36 35),ar 30 false (bt 37 .neq 33 36),c3 38 30 37,I 39 38,ar 39 false (aK 40 4 1 2),ar 39 false (ax 41 1 40),ar 39 false (cD 42 41),ar 39 false (aK 43 4 1 3),ar 39 false (ax 44 1 43),ar 39 false (cD 45 44),ar 39 false (bt 46 .neq 42 45),c3 47 39 46] (aZ 47 (aa [bq 4 false] .ret) .skip)) (.seq (aa [aK 48 2 1 2,ax 49 1 48,cD 50 49,cf 51 0] (ff 52 51 50 (.seq (.block 1 (aa [I 53 51,I 5 53] (.seq (.drawn true 103 [aK 54 2 1 2,ax 55 1 54,I 56 5,cC 57 1 55 56,ax 58 1 57,aK 59 2 1 3,ax 60 1 59,I 61 5,cC 62 1 60 61,ax 63 1 62,cc 64 99 58 63,cx 65 64]) (aZ 65 (aa [bq 4 false] .ret) .skip)))) (.region [aT 66 .add 51 1,I 51 66])))) (.seq (aa [aK 67 3 1 2,ax 68 1 67,cD 69 68,cf 70 0] (.block 2 (.loop (aa [bt 71 .lss 70 69] (.seq (aZ 71 .skip (.exit 2)) (.seq (.block 3 (aa [I 72 70,I 6 72] (.seq (.drawn true 103 [aK 73 3 1 2,ax 74 1 73,I 75 6,cC 76 2 74 75,aX 77 2 76,aK 78 3 1 3,ax 79 1 78,I 80 6,cC 81 2 79 80,aX 82 2 81,bS 83 (.beq true (some [false,false]) (.t 77) (.t 82))]) (aZ 83 (aa [bq 4 false] .ret) .skip)))) (.region [aT 84 .add 70 1,I 70 84]))))))) (.seq (aa [aK 85 4 1 2,ax 86 1 85,cD 87 86,cf 88 0] (.block 4 (.loop (aa [bt 89 .lss 88 87] (.seq (aZ 89 .skip (.exit 4)) (.seq (.block 5 (aa [I 90 88,I 7 90] (.seq (.drawn true 103 [aK 91 4 1 2,ax 92 1 91,I 93 7,cC 94 2 92 93,aX 95 2 94,aK 96 4 1 3,ax 97 1 96,I 98 7,cC 99 2 97 98,aX 100 2 99,bS 101 (.beq true (some [false,true]) (.t 95) (.t 100))]) (aZ 101 (aa [bq 4 false] .ret) .skip)))) (.region [aT 102 .add 88 1,I 88 102]))))))) (aa [bq 4 true] .ret))))))
@[simp] def I2:List bV:=[.tmp 4]
def JM:List (Nat×dy):=[
 (3,⟨1,8,.int .i64,.int .i64 0⟩),
 (4,⟨1,1,.bool,.bool false⟩),
 (9,⟨1,16,.str,.str []⟩),
 (23,⟨1,24,.slice 54,.slice 5 .nil []⟩),
 (24,⟨1,24,.slice 23,.slice 1 .nil []⟩),
 (25,⟨1,24,.slice 59,.slice 2 .nil []⟩),
 (26,⟨1,24,.slice 56,.slice 2 .nil []⟩),
 (28,⟨5,104,.struct [(0,3),(1,23),(2,24),(3,25),(4,26)],.agg [.int .i64 0,.slice 5 .nil [],.slice 1 .nil [],.slice 2 .nil [],.slice 2 .nil []]⟩),
 (51,⟨1,8,.map 3 4,.junk⟩),
 (56,⟨2,24,.struct [(0,3),(1,9)],.agg [.int .i64 0,.str []]⟩),
 (59,⟨2,16,.struct [(0,3),(1,3)],.agg [.int .i64 0,.int .i64 0]⟩)]
theorem o7:fJ aw JM=true:=by kernel_rfl
theorem zy:b6 JM wQ anA 1 Tryz.f22=true:=by kernel_rfl
theorem yF:aw.funcs[(22:Nat)]? =some Tryz.f22:=Tryz.func22
theorem Oq:b6 JM Gw Ce 1 Tryz.f42=true:=by kernel_rfl
theorem LJ:aw.funcs[(42:Nat)]? =some Tryz.f42:=Tryz.func42
theorem B2:b6 JM yB I2 2 Tryz.f46=true:=by kernel_rfl
theorem AQ:aw.funcs[(46:Nat)]? =some Tryz.f46:=Tryz.func46
end
end Go.Proofs.YtohaalphocaebaaGreatDoor
