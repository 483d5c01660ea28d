/- What HaveKind and LackSymbol keep. -/
import Derived.Shelf.GgSortFunc.Slice
import Derived.Ground.GgsProg
import Derived.Test.YtohaalphocaebaaGreatProg
import Derived.Test.YtohaalphocaebaaGreatE4
set_option linter.all false
set_option maxHeartbeats 4000000
set_option maxRecDepth 4000
namespace Go
theorem bf{p:Prop}(h:p:=by kernel_rfl):p:=h
theorem bi{p:Prop}(h:p:=by simp[fresh,aN,aJ,cz,inObs,Pv.look,e5]):p:=h
theorem bv{p:Prop}(h:p:=by simp[fresh,aN,aJ,eg,inObs,Pv.look,e5]):p:=h
theorem ci{p:Prop}(h:p:=by rw[h]at ad;rw[ad]at aC;exact eH aC):p:=h
theorem co{p:Prop}(h:p:=by simp[fresh,aN,aJ,cz,inObs,Pv.look,gw,rn,rl,p6,rk]):p:=h
theorem dl{p:Prop}(h:p:=by simp[fresh,aN,aJ,eg,inObs,Pv.look,gw,rn,rl,p6,rk]):p:=h
theorem d6{p:Prop}(h:p:=by simp only[iZ,bZ,b4];exact aL):p:=h
theorem d7{p:Prop}(h:p:=by simp[fresh,aN,aJ,cz,inObs,Pv.look,uq,cH]):p:=h
theorem d8{p:Prop}(h:p:=by simp[fresh,aN,aJ,eg,inObs,Pv.look,uq,cH]):p:=h
end Go
open Bool renaming and_eq_true->cr,eq_iff_iff->q4,false_eq_true->gZ,not_eq_true'->pQ,or_eq_true->k6
open Go renaming TypeId->ha
open Go.Extern.ReflectliteSwapper renaming swap->Fw
open Go.Extern.Rtype renaming kind->aa9
open Go.Op renaming bytesLess->hL
open Go.Proofs.Tryz renaming prog->ax
open List renaming all_eq_true->fy,cons_append->bZ,drop_eq_getElem_cons->k8,getElem?_eq_getElem->bY,getElem?_eq_none->pT,getElem?_eq_some_iff->eS,getElem?_map->q5,getElem_of_mem->oi,length_append->o0,length_cons->oj,length_drop->tB,map_append->r6,map_cons->ht,map_nil->oo,mem_append->iz,mem_cons->e7,mem_cons_of_mem->o1,mem_filter->iL,mem_map->hG,mem_of_getElem?->dP,mem_singleton->jT,nil_append->b4,pairwise_iff_getElem->o2,take->pU,take_length->k9,take_of_length_le->gw,take_succ->q6
open List.Nodup renaming length_le_of_subset->Fx
open List.Pairwise renaming filter->aba
open List.cons renaming injEq->zK
open Nat renaming add_mul->o3,le_refl->eu,le_trans->gS,mul_le_mul_right->pV,strongRecOn->qA
open Option renaming bind_eq_some_iff->iX,bind_some->ij,getD_none->kc,getD_some->jo,isSome_iff_exists->fE,isSome_none->jG,isSome_some->mV,map_eq_some_iff->gm,map_some->oq
open Option.some renaming inj->eH,injEq->dE
open _root_ renaming False->eB,UInt8->c0,beq_iff_eq->dQ,congrArg->eP,decide_eq_false->h6,decide_eq_false_iff_not->gn,decide_eq_true->gx,decide_eq_true_eq->en
namespace Go.Proofs.YtohaalphocaebaaGreat
section
open Go Go.Pv
variable {α:Type} [Inhabited α] {S:List α->cR} {n g cf:Nat} {lc b9:List ak} {lt:α->α->Bool}
theorem fb.fnD{d d2:Array α}(H:fb S n g cf lc b9 lt)(J:d.size=n){f:Nat}{args:List ak}{r:ak}(aQ:bI ax f args (S d.toList) fun eQ ah=>eQ=r/\∃cn,ah=S cn.toList/\cn=d2/\cn.size=n)(ae:aN (inObs (S d.toList)) args){t:List (Nat×ak)}{D:List ak}{o:List aM}{cn:Option Nat}{K:br->Prop}
  (h:d2.size=n->∀o,K ⟨eY cn r t,(.loc 0,D)::(S d2.toList).b,(S d2.toList).e,1,o⟩):cO ax f args ⟨t,(.loc 0,D)::(S d.toList).b,(S d.toList).e,1,o⟩ cn K:=
 H.call (by simpa using J) (R:=fun eQ a8=>eQ=r/\a8=d2.toList/\d2.size=n) (aQ.mono fun r ah ⟨aq,cn,aG,bG,di⟩=>⟨cn.toList,aG,aq,by rw[bG],by rw[<-bG];exact di⟩) (fun r a8 ⟨_,e,h⟩=>by rw[e];simpa using h) ae (by rintro eQ a8 ⟨rfl,rfl,U⟩;exact h U _)
attribute [local simp] qc
def Cq(S:List α->cR)(n g cf:Nat)(lc b9:List ak)(lt:α->α->Bool)(m:Nat):Prop:=
 ∀k,k<m->∀(d:Array α),d.size=n->∀a b xd:Nat,b-a<=k->a<=b->b<=n->xd<=1000->Sort.Below lt a b d->
  bI ax 210 [e3 g cf lc b9,.int .i64 a,.int .i64 b,.int .i64 xd] (S d.toList) fun r ah=>r= .tuple []/\∃cn,ah=S cn.toList/\Sort.PermIn a b d cn/\Sort.SortedIn lt a b cn
structure xV (S:List α->cR) (n g cf:Nat) (lc b9:List ak) (lt:α->α->Bool) (bn b1 lim:Nat) (d:Array α) (Q:Exit->br->Prop):Prop where
 k:∀e,e= .normal\/e= .exit 1->∀(a2 cc:Nat) (w v:Bool) (L:Array α) (t:List (Nat×ak)) (o:List aM),L.size=n->a2<=cc->cc<=n->cc-a2<b1-bn->Sort.Below lt a2 cc L->(∀R,Sort.PermIn a2 cc L R->Sort.SortedIn lt a2 cc R->Sort.PermIn bn b1 d R/\Sort.SortedIn lt bn b1 R)->
  Pv.get 1 t= .int .i64 a2->Pv.get 2 t= .int .i64 cc->Pv.get 3 t= .int .i64 lim->Pv.get 4 t= .ptr (.loc 0) 0->Pv.get 8 t= .bool w->Pv.get 9 t= .bool v->Q e ⟨t,(.loc 0,[.func g lc,.func cf b9])::(S L.toList).b,(S L.toList).e,1,o⟩
 r:∀(R:Array α) t o,Sort.PermIn bn b1 d R->Sort.SortedIn lt bn b1 R->Q .ret ⟨t,(.loc 0,[.func g lc,.func cf b9])::(S R.toList).b,(S R.toList).e,1,o⟩
theorem xV.mono{bn b1 lim:Nat}{d cn:Array α}{Q:Exit->br->Prop}(h:xV S n g cf lc b9 lt bn b1 lim d Q)(p:Sort.PermIn bn b1 d cn):xV S n g cf lc b9 lt bn b1 lim cn Q:=⟨fun e he a2 cc w v L t o aq aG bG di hx h7=>h.k e he a2 cc w v L t o aq aG bG di hx fun R e1 fY=>⟨Sort.permIn_trans _ _ _ bn b1 p (h7 R e1 fY).1,(h7 R e1 fY).2⟩,fun R t o e1 fY=>h.r R t o (Sort.permIn_trans _ _ _ bn b1 p e1) fY⟩
structure zO (t:List (Nat×ak)) (bn b1 lim:Nat):Prop where
 t1:Pv.get 1 t= .int .i64 bn
 t2:Pv.get 2 t= .int .i64 b1
 t3:Pv.get 3 t= .int .i64 lim
 t4:Pv.get 4 t= .ptr (.loc 0) 0
 t10:Pv.get 10 t= .int .i64 ((b1:Int)-bn)
section
variable {bn b1 lim:Nat} {cN:Array α} {t:List (Nat×ak)} {o:List aM} {ob:List aM} {Q:Exit->br->Prop}
theorem X4(H:fb S n g cf lc b9 lt)(bz:Sort.SWO lt)(bR:Cq S n g cf lc b9 lt (b1-bn)){pv:Nat}(T:zO t bn b1 lim)(t11:Pv.get 11 t= .int .i64 pv)(sH:lim<=1000)(pL:cN.size=n)(kT:bn<=pv/\pv<b1)(bS:b1<=n)(tR:12<b1-bn)(uP:Sort.Below lt bn b1 cN)(iu:xV S n g cf lc b9 lt bn b1 lim cN Q):
  c5 ax ob Ko Q ⟨t,(.loc 0,[.func g lc,.func cf b9])::(S cN.toList).b,(S cN.toList).e,1,o⟩:=by
 obtain⟨t1,t2,t3,t4,t10⟩:=T;have mE:∀fU:Array α,fU.size=n->aJ (inObs (S fU.toList)) (e3 g cf lc b9):=fun fU h=>H.kdata (lk:=fU.toList) (by simpa using h);have hle:=H.le;unfold Ko;simp[t1,t2,t4,t11,Pv.look,H.slc,H.ssc];simp only[iK H,H.slc,H.ssc,iD];have rK:=agT H cN pL bn b1 pv kT.1 kT.2 Ω bS;have bt:Sort.partition lt cN bn b1 pv=((Sort.partition lt cN bn b1 pv).1,(Sort.partition lt cN bn b1 pv).2.1,(Sort.partition lt cN bn b1 pv).2.2):=rfl;generalize (Sort.partition lt cN bn b1 pv).1=mid at rK bt;generalize (Sort.partition lt cN bn b1 pv).2.1=ap at rK bt;generalize (Sort.partition lt cN bn b1 pv).2.2=d4 at rK bt;obtain⟨g1,g2,g3,g4,g5,g6,g7⟩:=Sort.round_part bz (Sort.partition_holds lt) kT.1 kT.2 Ω uP bt;refine H.fnD pL rK (by simp[aJ,aN,mE cN pL]) fun s4 o=>?_;have em:((mid:Int)+1)=(mid+1:Nat):=Ω
 simp[t1,t2,t3,t4,t10];by_cases asP:mid-bn<b1-mid
 ·have L1:(mid:Int)-bn<b1-mid:=Ω
  (with_reducible repeat' first|refine aj ?_|simp[L1,Pv.look,t1,t2,t3,t4,t10]);simp only[iK H,H.slc,H.ssc,iD];refine H.doFn (lk:=d4.toList) (by simpa using s4) (R:=fun a8=> ∃L:Array α,a8=L.toList/\Sort.PermIn bn mid d4 L/\Sort.SortedIn lt bn mid L) ((bR (mid-bn) Ω d4 s4 bn mid lim (eu _) g1 Ω sH g4).mono fun r ah ⟨a1,cn,bp,bV,cQ⟩=>⟨a1,cn.toList,bp,cn,rfl,bV,cQ⟩) (by rintro a8 ⟨L,rfl,q,_⟩;simpa using q.1.trans s4) (by simp[aN,aJ,mE d4 s4]) ?_;rintro a8 ⟨L,rfl,c1,dv⟩;obtain⟨k5,pP⟩:=g6 L c1 dv;simp;(with_reducible repeat' first|refine aj ?_|simp[t1,t2,t3,t4]);rw[em];exact iu.k _ (.inl rfl) (mid+1) b1 _ ap L _ _ (c1.1.trans s4) Ω bS Ω k5 pP Ψ (by simp[t2]) (by simp[t3]) (by simp[t4]) (by simp;rfl) Ψ
 ·have L1:¬(mid:Int)-bn<b1-mid:=Ω
  (with_reducible repeat' first|refine aj ?_|simp[L1,Pv.look,t1,t2,t3,t4,t10]);simp only[iK H,H.slc,H.ssc,iD];rw[em];refine H.doFn (lk:=d4.toList) (by simpa using s4) (R:=fun a8=> ∃L:Array α,a8=L.toList/\Sort.PermIn (mid+1) b1 d4 L/\Sort.SortedIn lt (mid+1) b1 L) ((bR (b1-(mid+1)) Ω d4 s4 (mid+1) b1 lim (eu _) Ω bS sH g5).mono fun r ah ⟨a1,cn,bp,bV,cQ⟩=>⟨a1,cn.toList,bp,cn,rfl,bV,cQ⟩) (by rintro a8 ⟨L,rfl,q,_⟩;simpa using q.1.trans s4) (by simp[aN,aJ,mE d4 s4]) ?_;rintro a8 ⟨L,rfl,c1,dv⟩;obtain⟨k5,pP⟩:=g7 L c1 dv;simp;(with_reducible repeat' first|refine aj ?_|simp[t1,t2,t3,t4]);exact iu.k _ (.inl rfl) bn mid _ ap L _ _ (c1.1.trans s4) g1 Ω Ω k5 pP (by simp[t1]) Ψ (by simp[t3]) (by simp[t4]) (by simp;rfl) Ψ
theorem anm(H:fb S n g cf lc b9 lt)(bz:Sort.SWO lt)(bR:Cq S n g cf lc b9 lt (b1-bn)){pv:Nat}(T:zO t bn b1 lim)(t11:Pv.get 11 t= .int .i64 pv){w v:Bool}(t8:Pv.get 8 t= .bool w)(t9:Pv.get 9 t= .bool v)(sH:lim<=1000)(pL:cN.size=n)(kT:bn<=pv/\pv<b1)(bS:b1<=n)(tR:12<b1-bn)(uP:Sort.Below lt bn b1 cN)(iu:xV S n g cf lc b9 lt bn b1 lim cN Q):
  c5 ax ob CF Q ⟨t,(.loc 0,[.func g lc,.func cf b9])::(S cN.toList).b,(S cN.toList).e,1,o⟩:=by
 obtain⟨t1,t2,t3,t4,t10⟩:=id T;have hle:=H.le;unfold CF;by_cases tU:0<bn
 ·have LF:(0:Int)<bn:=Ω
  simp[t1,t2,t4,t11,tU,LF,Pv.look,H.slc,H.ssc];(with_reducible repeat' first|refine aj ?_|simp[t1,t2,t4,t11,tU,LF,Pv.look,H.slc,H.ssc]);rw[show((bn:Int)-1)=((bn-1:Nat):Int) by omega];refine H.lessA pL (bn-1) pv Ω Ω fun o=>?_;cases j1:lt cN[bn-1]! cN[pv]!
  ·simp;(with_reducible repeat' first|refine aj ?_|simp[Pv.look,H.slc,H.ssc,t1,t2,t4,t11]);simp only[iK H,H.slc,H.ssc,iD];have rK:=agU H cN pL bn b1 pv kT.1 kT.2 Ω bS;have bt:Sort.partitionEqual lt cN bn b1 pv=((Sort.partitionEqual lt cN bn b1 pv).1,(Sort.partitionEqual lt cN bn b1 pv).2):=rfl;generalize (Sort.partitionEqual lt cN bn b1 pv).1=mid at rK bt;generalize (Sort.partitionEqual lt cN bn b1 pv).2=d4 at rK bt;obtain⟨g1,g2,g3,g4,g5⟩:=Sort.round_eq bz (Sort.partitionEqual_holds lt) tU kT.1 kT.2 Ω uP j1 bt;refine H.fnD pL rK (by simp[aJ,aN,H.kdata (lk:=cN.toList) (by simpa using pL)]) fun s4 o=>?_;simp[t1,t2,t3,t4];exact iu.k _ (.inr rfl) mid b1 w v d4 _ _ s4 g2 bS Ω g4 g5 Ψ (by simp[t2]) (by simp[t3]) (by simp[t4]) (by simp[t8]) (by simp[t9])
  ·simp;exact X4 H bz bR ⟨by simp[t1],by simp[t2],by simp[t3],by simp[t4],by simp[t10]⟩ (by simp[t11]) sH pL kT bS tR uP iu
 ·have LF:¬(0:Int)<bn:=Ω
  simp[t1,tU];exact X4 H bz bR ⟨by simp[t1],by simp[t2],by simp[t3],by simp[t4],by simp[t10]⟩ (by simp[t11]) sH pL kT bS tR uP iu
theorem N1(H:fb S n g cf lc b9 lt)(bz:Sort.SWO lt)(bR:Cq S n g cf lc b9 lt (b1-bn)){pv:Nat}(T:zO t bn b1 lim)(t11:Pv.get 11 t= .int .i64 pv){h:Nat}(t12:Pv.get 12 t= .int .i64 h){w v:Bool}(t8:Pv.get 8 t= .bool w)(t9:Pv.get 9 t= .bool v)(sH:lim<=1000)(pL:cN.size=n)(kT:bn<=pv/\pv<b1)(bS:b1<=n)(tR:12<b1-bn)(uP:Sort.Below lt bn b1 cN)(iu:xV S n g cf lc b9 lt bn b1 lim cN Q):
  c5 ax ob Kp Q ⟨t,(.loc 0,[.func g lc,.func cf b9])::(S cN.toList).b,(S cN.toList).e,1,o⟩:=by
 obtain⟨t1,t2,t3,t4,t10⟩:=id T;have hle:=H.le;unfold Kp;have next:∀{d5:Array α} {t o},zO t bn b1 lim->Pv.get 11 t= .int .i64 pv->Pv.get 8 t= .bool w->Pv.get 9 t= .bool v->d5.size=n->Sort.Below lt bn b1 d5->Sort.PermIn bn b1 cN d5->c5 ax ob CF Q ⟨t,(.loc 0,[.func g lc,.func cf b9])::(S d5.toList).b,(S d5.toList).e,1,o⟩:=fun aq aG bG di hx h7 sd=>anm H bz bR aq aG bG di sH hx kT bS tR h7 (iu.mono sd)
 have skip:∀{t o},zO t bn b1 lim->Pv.get 11 t= .int .i64 pv->Pv.get 8 t= .bool w->Pv.get 9 t= .bool v->c5 ax ob CF Q ⟨t,(.loc 0,[.func g lc,.func cf b9])::(S cN.toList).b,(S cN.toList).e,1,o⟩:=fun aq aG bG di=>next aq aG bG di pL uP (Sort.permIn_refl _ _ _)
 by_cases ar:(w=true/\v=true)/\h=1
 ·obtain⟨⟨rfl,rfl⟩,rfl⟩:=ar;simp[t1,t2,t4,t8,t9,t12,Pv.look,H.slc,H.ssc];simp only[iK H,H.slc,H.ssc,iD];have rK:=agS H cN pL bn b1 Ω bS Ω;have bt:=Sort.partialInsertionSort_holds bz cN bn b1 Ω Ω uP;generalize (Sort.partialInsertionSort lt cN bn b1).1=d5 at rK bt;generalize (Sort.partialInsertionSort lt cN bn b1).2=ok at rK bt;refine H.fnD pL rK (by simp[aJ,aN,H.kdata (lk:=cN.toList) (by simpa using pL)]) fun aoF o=>?_;cases ok
  ·simp;exact next ⟨by simp[t1],by simp[t2],by simp[t3],by simp[t4],by simp[t10]⟩ (by simp[t11]) (by simp[t8]) (by simp[t9]) aoF (uP.perm Ω bt.1) bt.1
  ·simp;exact iu.r _ _ _ bt.1 (bt.2 rfl)
 ·cases w
  ·simp[t8,t9,t12];exact skip ⟨by simp[t1],by simp[t2],by simp[t3],by simp[t4],by simp[t10]⟩ (by simp[t11]) (by simp[t8]) (by simp[t9])
  ·cases v
   ·simp[t8,t9,t12];exact skip ⟨by simp[t1],by simp[t2],by simp[t3],by simp[t4],by simp[t10]⟩ (by simp[t11]) (by simp[t8]) (by simp[t9])
   ·have J:((h:Int)==1)=false:=by simp at ar⊢;omega
    simp[t8,t9,t12,J];exact skip ⟨by simp[t1],by simp[t2],by simp[t3],by simp[t4],by simp[t10]⟩ (by simp[t11]) (by simp[t8]) (by simp[t9])
theorem X5(H:fb S n g cf lc b9 lt)(fH:s5 S 901)(bz:Sort.SWO lt)(bR:Cq S n g cf lc b9 lt (b1-bn))(T:zO t bn b1 lim){w v:Bool}(t8:Pv.get 8 t= .bool w)(t9:Pv.get 9 t= .bool v)(sH:lim<=1000)(s1:cN.size=n)(bS:b1<=n)(tR:12<b1-bn)(JD:Sort.Below lt bn b1 cN)(iu:xV S n g cf lc b9 lt bn b1 lim cN Q):
  c5 ax ob Kq Q ⟨t,(.loc 0,[.func g lc,.func cf b9])::(S cN.toList).b,(S cN.toList).e,1,o⟩:=by
 obtain⟨t1,t2,t3,t4,t10⟩:=id T;have hle:=H.le;have mE:∀fU:Array α,fU.size=n->aJ (inObs (S fU.toList)) (e3 g cf lc b9):=fun fU h=>H.kdata (lk:=fU.toList) (by simpa using h);unfold Kq;simp[t1,t2,t4,Pv.look,H.slc,H.ssc];simp only[iK H,H.slc,H.ssc,iD];have tV:=Sort.choosePivot_holds lt cN bn b1 Ω;have MQ:=agD H fH cN s1 bn b1 Ω bS;generalize Sort.choosePivot lt cN bn b1=KD at MQ tV;obtain⟨p,hint⟩:=KD;simp only at MQ tV;refine H.fnA s1 s1 MQ (by simp[aJ,aN,mE cN s1]) fun o=>?_;cases hint
 ·simp[AK];exact N1 H bz bR ⟨by simp[t1],by simp[t2],by simp[t3],by simp[t4],by simp[t10]⟩ (pv:=p) Ψ (h:=0) Ψ (w:=w) (v:=v) (by simp[t8]) (by simp[t9]) sH s1 tV bS tR JD iu
 ·simp[AK];exact N1 H bz bR ⟨by simp[t1],by simp[t2],by simp[t3],by simp[t4],by simp[t10]⟩ (pv:=p) Ψ (h:=1) Ψ (w:=w) (v:=v) (by simp[t8]) (by simp[t9]) sH s1 tV bS tR JD iu
 ·simp[AK,t1,t2,t4,Pv.look,H.slc,H.ssc];simp only[iK H,H.slc,H.ssc,iD];refine H.fnD s1 (agZ H cN s1 bn b1 Ω bS Ω) (by simp[aJ,aN,mE cN s1]) fun s2 o=>?_;have aK:=Sort.reverseRange_holds cN bn b1 Ω Ω;have Tr:((b1:Int)-1-(p-bn))=((b1-1)-(p-bn):Nat):=Ω
  simp[t1,t2,Tr];(with_reducible repeat' first|refine aj ?_|simp[Tr,t1,t2]);exact N1 H bz bR ⟨by simp[t1],by simp[t2],by simp[t3],by simp[t4],by simp[t10]⟩ (pv:=(b1-1)-(p-bn)) Ψ (h:=1) Ψ (w:=w) (v:=v) (by simp[t8]) (by simp[t9]) sH s2 Ω bS tR (JD.perm Ω aK) (iu.mono aK)
end
theorem agV(H:fb S n g cf lc b9 lt)(fH:s5 S 901)(jZ:s5 S 902)(bz:Sort.SWO lt)(m:Nat):∀(d:Array α) (aF:d.size=n) (a b xd:Nat) (hm:b-a<=m) (nP:a<=b) (ab:b<=n) (h1:xd<=1000) (De:Sort.Below lt a b d),
  bI ax 210 [e3 g cf lc b9,.int .i64 a,.int .i64 b,.int .i64 xd] (S d.toList) fun r ah=>r= .tuple []/\∃cn,ah=S cn.toList/\Sort.PermIn a b d cn/\Sort.SortedIn lt a b cn:=by
 induction m using qA with
 |ind m bR=>
 intro d aF a b xd hm nP ab h1 De;have ag:=H.ok d.toList;have av:d.toList.length=n:=by simpa using aF
 have au:∀l m,Pv.look (.loc m) (S l).b=none:=fun l=>(H.ok l).obj.1;have hu:∀l m cs,cF (.loc m) cs (S l).b=(S l).b++[(.loc m,cs)]:=fun l m cs=>kr (au l m);have aw:∀m,aM.loc m∉c3 (S d.toList):=kl ag.obj;have hle:=H.le;refine bI.mk mixed oS afe ami Ψ ag.obj fun aR cI=>?_;unfold RV;simp[e3,hu,aw,cS,au];refine H.loopA av [4] (fun(x:((Nat×Nat×Nat)×Bool×Bool)×Array α)=>[(1,.int .i64 x.1.1.1),(2,.int .i64 x.1.1.2.1),(3,.int .i64 x.1.1.2.2),(8,.bool x.1.2.1),(9,.bool x.1.2.2)]) (·.2) (fun x=>x.1.1.2.1-x.1.1.1) (fun x=>x.2.size=n/\(x.1.1.1<=x.1.1.2.1/\x.1.1.2.1<=n/\x.1.1.2.1-x.1.1.1<=m/\x.1.1.2.2<=1000)/\Sort.Below lt x.1.1.1 x.1.1.2.1 x.2/\∀R,Sort.PermIn x.1.1.1 x.1.1.2.1 x.2 R->Sort.SortedIn lt x.1.1.1 x.1.1.2.1 R->Sort.PermIn a b d R/\Sort.SortedIn lt a b R)
  (((a,b,xd),true,true),d) aF ⟨aF,⟨nP,ab,hm,h1⟩,De,fun R J U=>⟨J,U⟩⟩ (by simp[cS,au]) aL aL (by simp[aJ]) ?_
 rintro⟨⟨⟨bn,b1,vH⟩,aqM,wp⟩,cv⟩ ⟨aP,⟨bd,bS,ea,dj⟩,MP,HI⟩;simp only at aP bd bS ea dj MP HI;have mE:∀fU:Array α,fU.size=n->aJ (inObs (S fU.toList)) (e3 g cf lc b9):=fun fU h=>H.kdata (lk:=fU.toList) (by simpa using h);have I9:∀(R:Array α) t o,Sort.PermIn bn b1 cv R->Sort.SortedIn lt bn b1 R->cP YN (S d.toList) (fun r ah=>r= .tuple []/\∃cn,ah=S cn.toList/\Sort.PermIn a b d cn/\Sort.SortedIn lt a b cn) .ret ⟨t,(.loc 0,[.func g lc,.func cf b9])::(S R.toList).b,(S R.toList).e,1,o⟩:=fun R t o J U=>by refine H.retA av (by rw[J.1];exact aP) (.inl rfl) ⟨rfl,R,rfl,HI R J U⟩
 simp;by_cases tR:b1-bn<=12
 ·have C5:(b1:Int)-bn<=12:=Ω
  (with_reducible repeat' first|refine aj ?_|simp[C5,Pv.look,H.slc,H.ssc]);simp only[iK H,H.slc,H.ssc,iD];refine H.fnD aP (agH H cv aP bn b1 bd bS) (by simp[aJ,aN,mE cv aP]) fun s2 o=>?_;obtain⟨a1,bp⟩:=Sort.insertionSort_holds bz cv bn b1 bd Ω;simp;exact I9 _ _ _ a1 bp
 have C5:¬(b1:Int)-bn<=12:=Ω
 by_cases ud:vH=0
 ·have G8:(((vH:Nat):Int)==0)=true:=by simp[ud]
  (with_reducible repeat' first|refine aj ?_|simp[C5,G8,Pv.look,H.slc,H.ssc]);simp only[iK H,H.slc,H.ssc,iD];refine H.fnD aP (agG H cv aP bn b1 bd bS Ω) (by simp[aJ,aN,mE cv aP]) fun s2 o=>?_;obtain⟨a1,bp⟩:=Sort.heapSort_holds bz cv bn b1 bd Ω;simp;exact I9 _ _ _ a1 bp
 have G8:(((vH:Nat):Int)==0)=false:=by simp[ud]
 have DO:Cq S n g cf lc b9 lt (b1-bn):=fun k ae=>bR k Ω;cases aqM
 ·(with_reducible repeat' first|refine aj ?_|simp[C5,G8,Pv.look,H.slc,H.ssc]);simp only[iK H,H.slc,H.ssc,iD];refine H.fnD aP (agC H jZ cv aP bn b1 bd bS Ω) (by simp[aJ,aN,mE cv aP]) fun s1 o=>?_;have FB:=Sort.breakPatterns_holds cv bn b1 bd Ω;generalize Sort.breakPatterns cv bn b1=d1 at s1 FB;have el:((vH:Int)-1)=(vH-1:Nat):=Ω
  simp[el];(with_reducible repeat' first|refine aj ?_|simp[el,Pv.look]);refine X5 (lim:=vH-1) H fH bz DO ⟨Ψ,Ψ,Ψ,Ψ,Ψ⟩ (w:=false) (v:=wp) Ψ Ψ Ω s1 bS Ω (MP.perm Ω FB) ⟨?_,fun R t o e1 fY=>?_⟩
  ·rintro e he a2 cc w v L t o aq aG bG di hx h7 t1 t2 t3 t4 t8 t9;rcases he with rfl|rfl<;>simp<;>exact bP.whl (((a2,cc,vH-1),w,v),L) (by simp;omega) ⟨aq,⟨aG,bG,by simp;omega,by simp;omega⟩,hx,fun R e1 fY=>HI R (Sort.permIn_trans _ _ _ bn b1 FB (h7 R e1 fY).1) (h7 R e1 fY).2⟩ (H.weakC av (by simpa using aq) (by simp[aJ,t1,t2,t3,t4,t8,t9]))
  ·simpa using I9 R t o (Sort.permIn_trans _ _ _ bn b1 FB e1) fY
 ·(with_reducible repeat' first|refine aj ?_|simp[C5,G8,Pv.look,H.slc,H.ssc]);refine X5 (lim:=vH) H fH bz DO ⟨Ψ,Ψ,Ψ,Ψ,Ψ⟩ (w:=true) (v:=wp) Ψ Ψ dj aP bS Ω MP ⟨?_,fun R t o e1 fY=>?_⟩
  ·rintro e he a2 cc w v L t o aq aG bG di hx h7 t1 t2 t3 t4 t8 t9;rcases he with rfl|rfl<;>simp<;>exact bP.whl (((a2,cc,vH),w,v),L) (by simp;omega) ⟨aq,⟨aG,bG,by simp;omega,dj⟩,hx,fun R e1 fY=>HI R (h7 R e1 fY).1 (h7 R e1 fY).2⟩ (H.weakC av (by simpa using aq) (by simp[aJ,t1,t2,t3,t4,t8,t9]))
  ·simpa using I9 R t o e1 fY
end
end Go.Proofs.YtohaalphocaebaaGreat
namespace Go.Proofs
section
open Go.Shelf
def Tryz.lays6_ren:Go.Shelf.Ren:=⟨fun|6=>126|10=>206|11=>207|12=>208|13=>209|14=>210|24=>258|25=>259|26=>260|27=>261|28=>262|29=>263|30=>264|31=>265|32=>266|33=>267|34=>278|35=>279|36=>280|37=>281|38=>282|39=>285|n=>n,fun|20=>20|26=>160|35=>214|0=>0|37=>216|3=>3|41=>163|44=>222|49=>254|51=>256|4=>4|54=>259|53=>258|58=>246|5=>5|9=>9|60=>265|64=>269|66=>272|67=>273|17=>17|32=>211|33=>212|82=>300|12=>12|75=>293|76=>294|77=>295|78=>296|79=>297|80=>298|n=>n,fun|n=>n⟩
theorem Tryz.lays6:Go.Proofs.LaysGg.n6 ax Tryz.lays6_ren:={
 mixed:=by kernel_rfl
 f6:=Tryz.func126.trans (eP some bf)
 f10:=Tryz.func206.trans (eP some bf)
 f11:=Tryz.func207.trans (eP some bf)
 f12:=Tryz.func208.trans (eP some bf)
 f13:=Tryz.func209.trans (eP some bf)
 f14:=Tryz.func210.trans (eP some bf)
 f24:=Tryz.func258.trans (eP some bf)
 f25:=Tryz.func259.trans (eP some bf)
 f26:=Tryz.func260.trans (eP some bf)
 f27:=Tryz.func261.trans (eP some bf)
 f28:=Tryz.func262.trans (eP some bf)
 f29:=Tryz.func263.trans (eP some bf)
 f30:=Tryz.func264.trans (eP some bf)
 f31:=Tryz.func265.trans (eP some bf)
 f32:=Tryz.func266.trans (eP some bf)
 f33:=Tryz.func267.trans (eP some bf)
 f34:=Tryz.func278.trans (eP some bf)
 f35:=Tryz.func279.trans (eP some bf)
 f36:=Tryz.func280.trans (eP some bf)
 f37:=Tryz.func281.trans (eP some bf)
 f38:=Tryz.func282.trans (eP some bf)
 f39:=Tryz.func285.trans (eP some bf)
 t0:=Tryz.underlying0
 a0:=Tryz.isAgg0
 z0:=Tryz.sizeOf0
 v0:=Tryz.zeroValue0
 i0:=by kernel_rfl
 t3:=Tryz.underlying3
 a3:=Tryz.isAgg3
 z3:=Tryz.sizeOf3
 v3:=Tryz.zeroValue3
 i3:=by kernel_rfl
 t4:=Tryz.underlying4
 a4:=Tryz.isAgg4
 z4:=Tryz.sizeOf4
 v4:=Tryz.zeroValue4
 i4:=by kernel_rfl
 t5:=Tryz.underlying5
 a5:=Tryz.isAgg5
 z5:=Tryz.sizeOf5
 v5:=Tryz.zeroValue5
 i5:=by kernel_rfl
 t9:=Tryz.underlying9
 a9:=Tryz.isAgg9
 z9:=Tryz.sizeOf9
 v9:=Tryz.zeroValue9
 i9:=by kernel_rfl
 t12:=Tryz.underlying12
 a12:=Tryz.isAgg12
 z12:=Tryz.sizeOf12
 v12:=Tryz.zeroValue12
 i12:=by kernel_rfl
 t17:=Tryz.underlying17
 a17:=Tryz.isAgg17
 z17:=Tryz.sizeOf17
 v17:=Tryz.zeroValue17
 i17:=by kernel_rfl
 t20:=Tryz.underlying20
 a20:=Tryz.isAgg20
 z20:=Tryz.sizeOf20
 v20:=Tryz.zeroValue20
 i20:=by kernel_rfl
 t26:=Tryz.underlying160
 a26:=Tryz.isAgg160
 z26:=Tryz.sizeOf160
 v26:=Tryz.zeroValue160
 i26:=by kernel_rfl
 t32:=Tryz.underlying211
 a32:=Tryz.isAgg211
 z32:=Tryz.sizeOf211
 v32:=Tryz.zeroValue211
 i32:=by kernel_rfl
 t33:=Tryz.underlying212
 a33:=Tryz.isAgg212
 z33:=Tryz.sizeOf212
 v33:=Tryz.zeroValue212
 i33:=by kernel_rfl
 t35:=Tryz.underlying214
 a35:=Tryz.isAgg214
 z35:=Tryz.sizeOf214
 v35:=Tryz.zeroValue214
 i35:=by kernel_rfl
 t37:=Tryz.underlying216
 a37:=Tryz.isAgg216
 z37:=Tryz.sizeOf216
 v37:=Tryz.zeroValue216
 i37:=by kernel_rfl
 t41:=Tryz.underlying163
 a41:=Tryz.isAgg163
 z41:=Tryz.sizeOf163
 v41:=Tryz.zeroValue163
 i41:=by kernel_rfl
 t44:=Tryz.underlying222
 a44:=Tryz.isAgg222
 z44:=Tryz.sizeOf222
 v44:=Tryz.zeroValue222
 i44:=by kernel_rfl
 t49:=Tryz.underlying254
 a49:=Tryz.isAgg254
 z49:=Tryz.sizeOf254
 v49:=Tryz.zeroValue254
 i49:=by kernel_rfl
 t51:=Tryz.underlying256
 a51:=Tryz.isAgg256
 z51:=Tryz.sizeOf256
 v51:=Tryz.zeroValue256
 i51:=by kernel_rfl
 t53:=Tryz.underlying258
 a53:=Tryz.isAgg258
 z53:=Tryz.sizeOf258
 v53:=Tryz.zeroValue258
 i53:=by kernel_rfl
 t54:=Tryz.underlying259
 a54:=Tryz.isAgg259
 z54:=Tryz.sizeOf259
 v54:=Tryz.zeroValue259
 i54:=by kernel_rfl
 t58:=Tryz.underlying246
 a58:=Tryz.isAgg246
 z58:=Tryz.sizeOf246
 v58:=Tryz.zeroValue246
 i58:=by kernel_rfl
 t60:=Tryz.underlying265
 a60:=Tryz.isAgg265
 z60:=Tryz.sizeOf265
 v60:=Tryz.zeroValue265
 i60:=by kernel_rfl
 t64:=Tryz.underlying269
 a64:=Tryz.isAgg269
 z64:=Tryz.sizeOf269
 v64:=Tryz.zeroValue269
 i64:=by kernel_rfl
 t66:=Tryz.underlying272
 a66:=Tryz.isAgg272
 z66:=Tryz.sizeOf272
 v66:=Tryz.zeroValue272
 i66:=by kernel_rfl
 t67:=Tryz.underlying273
 a67:=Tryz.isAgg273
 z67:=Tryz.sizeOf273
 v67:=Tryz.zeroValue273
 i67:=by kernel_rfl
 t75:=Tryz.underlying293
 a75:=Tryz.isAgg293
 z75:=Tryz.sizeOf293
 v75:=Tryz.zeroValue293
 i75:=by kernel_rfl
 t76:=Tryz.underlying294
 a76:=Tryz.isAgg294
 z76:=Tryz.sizeOf294
 v76:=Tryz.zeroValue294
 i76:=by kernel_rfl
 t77:=Tryz.underlying295
 a77:=Tryz.isAgg295
 z77:=Tryz.sizeOf295
 v77:=Tryz.zeroValue295
 i77:=by kernel_rfl
 t78:=Tryz.underlying296
 a78:=Tryz.isAgg296
 z78:=Tryz.sizeOf296
 v78:=Tryz.zeroValue296
 i78:=by kernel_rfl
 t79:=Tryz.underlying297
 a79:=Tryz.isAgg297
 z79:=Tryz.sizeOf297
 v79:=Tryz.zeroValue297
 i79:=by kernel_rfl
 t80:=Tryz.underlying298
 a80:=Tryz.isAgg298
 z80:=Tryz.sizeOf298
 v80:=Tryz.zeroValue298
 i80:=by kernel_rfl
 t82:=Tryz.underlying300
 a82:=Tryz.isAgg300
 z82:=Tryz.sizeOf300
 v82:=Tryz.zeroValue300
 i82:=by kernel_rfl}
end
end Go.Proofs
namespace Go.Proofs.YtohaalphocaebaaGreat
section
open Go Go.RowKit Go.Lib Go.Pv Go.Proofs
theorem ab6(n:Nat)(h:n<1099511627776):Lib.bitLen n<=1000:=by
 have:∀f x,bitLenAux f x<=f:=by
  intro f;induction f with
  |zero=>intro x;simp[bitLenAux]
  |succ f bR=>
   intro x;rw[bitLenAux];split
   ·omega
   ·have:=bR (x/2);omega
 have:=this 64 n;unfold Lib.bitLen;omega
theorem ann{α:Type}[Inhabited α]{lt:α->α->Bool}{l:List α}{cn:Array α}(h:Sort.PermIn 0 l.length l.toArray cn)(ag:Sort.SortedIn lt 0 l.length cn):cn.toList.Perm l/\cn.toList.Pairwise fun x y=>lt y x=false:=by
 obtain⟨lD,_,z3⟩:=h;have ep:cn.size=l.length:=by simpa using lD
 have aq:cn.extract 0 l.length=cn:=by rw[<-ep];simp
 have aG:l.toArray.extract 0 l.length=l.toArray:=by simp
 rw[aq,aG]at z3;refine⟨by simpa using z3,?_⟩;rw[o2];intro i j hi af lp;have J:=ag i j Ω lp (by simpa[ep]using af);have ua:i<cn.size:=by simpa using hi
 have jL:j<cn.size:=by simpa using af
 rw[getElem!_pos cn i ua,getElem!_pos cn j jL]at J;simpa using J
section
variable {α:Type} {e:α->ak} (he:∀S x,aJ S (e x)) {K B el sz:Nat}
include he
theorem Uc[Inhabited α](Ux:K≠901/\K≠902)(Uv:B≠901/\B≠902)(t:ha)(i ey:TypeInfo)(hi:ax.info? t=some i)(aF:i.desc= .slice el)(DA:ax.packed t=false)(ub:ax.info? el=some ey)(ke:Nat)(vr:∀w,(aa9 el).run ax w= .ok ke w)(tT:∀n,2<=n->swapperK n ey ke=9)
  (g:Nat) (lt:α->α->Bool) (bz:Sort.SWO lt) (l:List α) (av:l.length<=68719476736)
  (yz:∀a8:List α,a8.length=l.length->∀(i j:Nat) x y,a8[i]? =some x->a8[j]? =some y->bI ax g [.int .i64 i,.int .i64 j,.ptr (.obj B) 0] (dW e K B el sz a8) fun r ah=>r= .bool (lt x y)/\ah=dW e K B el sz a8)
  (AY:∀a8:List α,a8.length=l.length->∀i j:Nat,i<l.length->j<l.length->bI ax 257 [.int .i64 i,.int .i64 j,.row sz (.obj K) l.length,.cst (typeHandle ax el)] (dW e K B el sz a8) fun r ah=>r= .tuple []/\ah=dW e K B el sz (hA a8 i j)):
  bI ax 126 [.iface t (.row sz (.obj K) l.length),.func g [.ptr (.obj B) 0]] (dW e K B el sz l) fun r ah=>r= .tuple []/\∃a8,ah=dW e K B el sz a8/\a8.Perm l/\a8.Pairwise fun x y=>lt y x=false:=by
 have Di:ax.funcs.findIdx? (·.name== "internal/reflectlite" ++ ".Swapper$" ++toString 1)=some 249:=by kernel_rfl
 have vm:ax.funcs.findIdx? (·.name== "internal/reflectlite" ++ ".Swapper$" ++toString 2)=some 250:=by kernel_rfl
 have LO:ax.funcs.findIdx? (·.name== "internal/reflectlite" ++ ".Swapper$" ++toString 9)=some 257:=by kernel_rfl
 have yE:s5 (dW e K B el sz) 901:=fun l=>⟨by simp[dW,Pv.look,Uv.1],by simp[dW,Pv.look,Ux.1]⟩;have yF:s5 (dW e K B el sz) 902:=fun l=>⟨by simp[dW,Pv.look,Uv.2],by simp[dW,Pv.look,Ux.2]⟩;have fm:=ab6 l.length Ω;have Mn:∃f b9,ax.funcs.findIdx? (·.name== "internal/reflectlite" ++ ".Swapper$" ++toString (swapperK l.length ey ke))=some f/\(b9=(if swapperK l.length ey ke<=2 then []else [ak.row sz (.obj K) l.length,.cst (typeHandle ax el)]))/\
   bI ax 210 [e3 g f [.ptr (.obj B) 0] b9,.int .i64 0,.int .i64 l.length,.int .i64 (Lib.bitLen l.length)] (dW e K B el sz l) fun r ah=>r= .tuple []/\∃a8,ah=dW e K B el sz a8/\a8.Perm l/\a8.Pairwise fun x y=>lt y x=false:=by
  have eh:=fun a8=>xZ (K:=K) (B:=B) (el:=el) (sz:=sz) he a8;have key:∀{cf:Nat} {b9:List ak},fb (dW e K B el sz) l.length g cf [.ptr (.obj B) 0] b9 lt->bI ax 210 [e3 g cf [.ptr (.obj B) 0] b9,.int .i64 0,.int .i64 l.length,.int .i64 (Lib.bitLen l.length)] (dW e K B el sz l) fun r ah=>r= .tuple []/\∃a8,ah=dW e K B el sz a8/\a8.Perm l/\a8.Pairwise fun x y=>lt y x=false:=by intro cf b9 H;have:=agV H yE yF bz l.length l.toArray Ψ 0 l.length (Lib.bitLen l.length) Ω Ω (eu _) Ω (.inl rfl);simp only[Int.ofNat_zero,Int.natCast_zero,Int.cast_ofNat_Int]at this;refine bI.mono this ?_;rintro r ah ⟨a1,cn,bp,bV,cQ⟩;obtain⟨c1,dv⟩:=ann bV cQ;exact⟨a1,cn.toList,bp,c1,dv⟩
  rcases(by omega:l.length=0\/l.length=1\/2<=l.length)with bE|J|U
  ·refine⟨249,[],by rw[bE];exact Di,by rw[bE];rfl,key ⟨eh,fun kj ho _ _=>x0 kj ho,fun a8 _=>by simp[aN,aJ,inObs,dW,Pv.look],fun a8 _=>by simp[aN],by simp[eb,c7],rfl,av,fun a8 h=>yz a8 h,fun a8 _ U i j hi=>Ω⟩⟩
  ·refine⟨250,[],by rw[J];exact vm,by rw[J];rfl,key ⟨eh,fun kj ho _ _=>x0 kj ho,fun a8 _=>by simp[aN,aJ,inObs,dW,Pv.look],fun a8 _=>by simp[aN],by simp[eb,c7],rfl,av,fun a8 h=>yz a8 h,fun a8 _ U i j hi af=>Ω⟩⟩
  ·refine⟨257,_,by rw[tT _ U];exact LO,rfl,?_⟩;rw[tT _ U];simp only[show¬((9:Nat)<=2)from by decide,if_false];exact key ⟨eh,fun kj ho _ _=>x0 kj ho,fun a8 _=>by simp[aN,aJ,inObs,dW,Pv.look],fun a8 _=>by simp[aN,aJ,inObs,dW,Pv.look],by simp[eb,c7],by simp[eb,c7],av,fun a8 h=>yz a8 h,fun a8 h _ i j hi af=>AY a8 h i j hi af⟩
 obtain⟨f,b9,aQ,Mj,dh⟩:=Mn;intro w Z a7 aX ad aK;have pw:=cY.start (xZ he l).obj aX ad aK;have Mf:=aK;simp only[cT,bc]at aK;obtain⟨v0,vs1,hv0,⟨u,rfl,⟨b,cap,rfl⟩,h1,n',fi,aq,aG,bG⟩,v1,vs2,hv1,⟨rL,rfl,rF⟩,rfl⟩:=aK;have kW:a7= #[.iface t (.slice (some ⟨b,0,none⟩) l.length cap),.func (.func g) #[] rL]:=by apply Array.ext';rw[hv0,hv1]
 subst kW;have rB:∃fn,ax.funcs[(126:Nat)]? =some fn/\fn.body.isSome=true/\(fn.name== "runtime.NumGoroutine")=false:=⟨_,Tryz.func126,by kernel_rfl,by kernel_rfl⟩;refine .inl ⟨rB,?_⟩;obtain⟨ee,pD⟩:∃ee,ee=sliceWorld ax Tryz.lays6_ren t (some ⟨b,0,none⟩) l.length cap w:=⟨_,rfl⟩;have kf:w.grownBy ee none:=by rw[pD];unfold sliceWorld;exact Ur _ _ _
 have Mh:=pw.grown kf;have ls:lZ w Z ee Z:=⟨fun b o bg=>⟨bg,Gj kf (aX.alt b o bg)⟩,fun _ _ _ h=>h,fun _ n u _ h=>⟨n,u,h,.inl ⟨rfl,rfl⟩⟩,fun b o bg=>xz (kf.block b (aX.alt b o bg) Ψ),fun _ _ _ _ h=>h⟩;have pq:Pv.Good (fq Z (dW e K B el sz l)) ee Z (dW e K B el sz l).b (dW e K B el sz l).e:=Mh.good.prMono fun bl _ h=>h;have lM:=I1 ls Mf;simp only[cT]at lM;obtain⟨a0,abU,tU,DC,bC,abV,lL,aiS,rfl⟩:=lM;simp at tU;obtain⟨rfl,rfl⟩:=tU;simp at lL;subst lL;have DE:bc ee Z (.row sz (.obj K) l.length) (.slice (some ⟨b,0,none⟩) l.length cap):=by simp only[bc]at DC;obtain⟨u,hu,h⟩:=DC;simp at hu;obtain⟨_,rfl⟩:=hu;simp only[bc];exact h
 have lN:cT ee Z b9 (sliceBound ax el ey ke (some ⟨b,0,none⟩) l.length cap).toList:=by
  unfold sliceBound;rw[Mj];split
  ·simp[cT]
  ·simp only[cT];exact⟨_,_,rfl,DE,_,_,rfl,by simp[bc],rfl⟩
 have vj:cT ee Z [e3 g f [.ptr (.obj B) 0] b9,.int .i64 0,.int .i64 l.length,.int .i64 (Lib.bitLen l.length)] (#[.agg #[.func (.func g) #[] rL,.func (.func f) #[] (sliceBound ax el ey ke (some ⟨b,0,none⟩) l.length cap)],.int .i64 0,.int .i64 l.length,.int .i64 (Lib.bitLen l.length)]:Array Value).toList:=by simp only[cT,e3];refine⟨_,_,rfl,?_,_,_,rfl,by simp[bc],_,_,rfl,by simp[bc],_,_,rfl,by simp[bc],rfl⟩;simp only[bc,dr];exact⟨_,rfl,_,_,rfl,⟨⟨rL,rfl,I1 ls rF⟩,rfl⟩,_,_,rfl,⟨⟨_,rfl,lN⟩,rfl⟩,rfl⟩
 have LL:=dh ee Z _ pq ad vj;have Gs:∀args w,(callFunc 210 args).run ax w= .ok (.enter 210 args) w:=enters_of Tryz.func210 bf rfl;rcases LL with⟨_,ar⟩|⟨v,w',ar,_⟩
 ·have L3:=Any.sort_Slice_of_pdq Tryz.lays6 t el i ey hi aF DA ub ke vr (some ⟨b,0,none⟩) l.length cap Ω f aQ (.func g) #[] rL w
   (fun w'=> ∃ah bo,(∃a8,ah=dW e K B el sz a8/\a8.Perm l/\a8.Pairwise fun x y=>lt y x=false)/\Pv.Good (fun bl=>fq Z (dW e K B el sz l) bl\/ee.heap.size<=bl) w' bo ah.b ah.e/\pe bo ah/\iV ah/\qB ⟨ee,Z,fq Z (dW e K B el sz l),0,c3 (dW e K B el sz l)⟩ w' bo) (by
    rw[<-pD];refine ar.mono ?_;rintro e w' ⟨v,r,ah,bo,rfl,⟨rfl,bt⟩,wU,a6,b7,dd,ed⟩;simp only[bc,cT]at wU;obtain⟨us,rfl,rH⟩:=wU;have:us= #[]:=by apply Array.ext';simpa using rH
    subst this;exact⟨rfl,ah,bo,bt,a6,b7,dd,ed⟩)
  refine L3.mono ?_;rintro e w' ⟨rfl,ah,bo,⟨a8,rfl,Hn,AX⟩,a6,b7,dd,ed⟩;refine⟨.tuple #[],.tuple [],_,bo,rfl,⟨rfl,a8,rfl,Hn,AX⟩,by simp[bc,cT],a6.prMono fun bl h _=>?_,b7,dd,⟨ed.os.trans kf.os,ed.tape.trans kf.tape,ed.output.trans kf.output,gS kf.size ed.size,fun k ae hm=>?_,fun b o bg=>?_,fun b o bg=>?_,ed.obj,ed.obn,ed.row,ed.obr,ed.trd,fun k j b ab=>⟨(ed.trb k j b ab).1.imp id (fun h=>gS kf.size h),(ed.trb k j b ab).2⟩,ed.trn,fun b o bg=>(ed.sh b o bg).trans (ls.sh b o bg)⟩⟩
  ·rcases h with h|h
   ·exact .inl h
   ·exact .inr (gS kf.size h)
  ·rw[ed.block k (Nat.lt_of_lt_of_le ae kf.size) hm];exact kf.block k ae Ψ
  ·obtain⟨aP,bd⟩:=ed.keep b o bg;exact⟨aP,bd.trans (ls.A b o bg).2⟩
  ·rcases ed.fresh b o bg with h|h|h
   ·exact .inl h
   ·exact .inr (.inl h)
   ·exact .inr (.inr (gS kf.size h))
 ·rw[Gs]at ar;cases ar
end
end
section
open Go Go.Pv Go.Lib
abbrev xY(l:List bs):cR:=dW bs.e 814 815 106 2 l
theorem Xq:∀(S:aM->Prop) (x:bs),aJ S x.e:=fun S x=>by simp
theorem JM(l:List bs):dM (xY l):=xZ Xq l
theorem akt:Sort.SWO (h4 fp):=by
 refine⟨fun x=>?_,fun x y z J U=>?_,fun x y z J U=>?_⟩
 ·simp only[h4,gn];have:=mm.refl x;omega
 ·simp only[h4,en]at*;exact mm.ltr J Ω
 ·simp only[h4,gn]at*;have aq:=mm.neg x y;have aG:=mm.neg y z;have bG:=mm.neg x z;have:=mm.tr z y x Ω Ω;omega
theorem agu(l:List bs)(i j:Nat)(x y:bs)(av:l.length<=68719476736)(hi:l[i]? =some x)(af:l[j]? =some y):bI ax 131 [.int .i64 i,.int .i64 j,.ptr (.obj 815) 0] (xY l) fun r ah=>r= .bool (h4 fp x y)/\ah=xY l:=by have ag:=JM l;obtain⟨ln,hV⟩:=eS.1 hi;obtain⟨dF,lq⟩:=eS.1 af;unfold xY dW at ag⊢;refine bI.mk mixed kp aee alf Ψ ag.obj fun aR cI=>?_;unfold QU;simp[ln,dF,hV,lq];(with_reducible repeat' first|refine aj ?_|refine aA (Cd _ _) ?_|refine aB (Cd _ _) ?_|simp[ln,dF,hV,lq]);refine cP.at _ (.inl rfl) ag (Same.refl _) aL aL ?_;simp[cW,Yd,aU,aW,aT]
noncomputable def Tryz.maT:TypeInfo:=(ax.info? 26).get bf
noncomputable def Tryz.maE:TypeInfo:=(ax.info? 106).get bf
theorem Tryz.maK(n:Nat)(U:2<=n):Lib.swapperK n Tryz.maE 25=9:=by
 have a:Tryz.maE.hasPointers=true:=by kernel_rfl
 have b:Tryz.maE.bytes=24:=by kernel_rfl
 have c:(n==0)=false:=by simp;omega
 have d:(n==1)=false:=by simp;omega
 simp[Lib.swapperK,a,b,c,d]
theorem WX{α β:Type}(f:α->β)(l:List α)(i j:Nat):(hA l i j).map f=hA (l.map f) i j:=by
 unfold hA;simp only[q5];cases l[i]? with
 |none=>simp
 |some x=>
  cases l[j]? with
  |none=>simp
  |some y=>simp[List.map_set]
theorem ag7(l:List bs)(av:l.length<=68719476736):bI ax 126 [.iface 26 (.row 2 (.obj 814) l.length),.func 131 [.ptr (.obj 815) 0]] (xY l) fun r ah=>r= .tuple []/\ah=xY (oR fp l):=by
 refine(Uc Xq (K:=814) (B:=815) (sz:=2) (by decide) (by decide) 26 Tryz.maT Tryz.maE bf bf bf bf 25 (fun _=>by kernel_rfl) Tryz.maK 131 (h4 fp) akt l av (fun a8 h i j x y hi af=>agu a8 i j x y Ω hi af) (fun a8 h i j hi af=>?_)).mono ?_
 ·have:=Uk (P:=ax) false 257 (fun args W=>run_callFunc_extern Tryz.func257 bf bf bf (e:=Fw false) bf args W)
   106 Tryz.maE bf (fun _=>by kernel_rfl) (JM a8) (K:=814) (n:=l.length) (el:=106) (sz:=2) bf (xs:=a8.map bs.e) (by simp[dW,Pv.look,h]) i j hi af
  refine this.mono ?_;rintro r ah ⟨rfl,rfl⟩;refine⟨rfl,?_⟩;simp[dW,cF,WX,h]
 ·rintro r ah ⟨rfl,a8,rfl,J,U⟩;exact⟨rfl,by rw[ZQ mm J U]⟩
def oL(l:List bs):List ak:= .hdm l.length (List.range l.length)::l.flatMap fun m=>[m.e,.bool true]
def lH(m:bs)(l:List bs):List bs:=if m∈l then l else l++[m]
theorem aj3(a b:bs):uo (.a [false,true]) a.e b.e=some (decide (a=b)):=by simp only[bs.e,uo,kv,if_true,oq];congr 1;rw[q4];cases a;cases b;simp
theorem aj4(a:bs):w7 (.a [false,true]) a.e=true:=by simp[bs.e,w7,kv,-JX]
theorem Xu(m:bs):∀l:List bs,vL (.a [false,true]) m.e (.bool true) (l.flatMap fun m=>[m.e,.bool true])=some (if m∈l then some (l.flatMap fun m=>[m.e,.bool true])else none)
 |[]=>rfl
 |a::l=>by
  simp only[List.flatMap_cons,bZ,b4,vL,aj3];by_cases h:m=a
  ·subst h;simp
  ·have cd:decide (m=a)=false:=by simp[h]
   rw[cd];simp only[Xu m l];by_cases hm:m∈l
   ·simp[hm]
   ·simp[hm,h]
@[simp]theorem at5(m:bs)(l:List bs):pH (.a [false,true]) m.e (.bool true) (oL l)=some (oL (lH m l)):=by
 simp only[oL,pH,aj4,Bool.true_eq_false,reduceCtorEq,if_false,Xu,lH];by_cases h:m∈l
 ·simp[h]
 ·simp[h,List.range_succ]
end
section
open Go Go.Pv
@[simp]theorem Bc(S:aM->Prop)(l:List bs):aN S (oL l)=True:=by
 refine eq_true ?_;unfold oL;have:∀l:List bs,aN S (l.flatMap fun m=>[m.e,ak.bool true]):=fun l=>by
  induction l with
  |nil=>simp[aN]
  |cons x r bR=>simp only[List.flatMap_cons,bZ,b4,aN,aj8,aJ,true_and];exact bR
 simp only[aN,aJ,true_and];exact this l
@[simp]theorem atN:[ak.hdm 0 []]=oL []:=rfl
def o7(tag:List c0)(l:List bs):cR:=⟨[(.obj 811,[.str tag]),(.obj 812,oL l),(.obj 813,[.gmap (.obj 812)])],[]⟩
theorem FG(tag:List c0)(l:List bs):dM (o7 tag l):=by unfold o7;refine dM.of ⟨by intro m;simp[Pv.look],by intro m;simp[Pv.look]⟩ (by simp[aN,aJ,inObs,Pv.look]) Ψ
theorem JN(tag:List c0)(l a8:List bs):Same (o7 tag l) (o7 tag a8):=Same.keys (by simp[o7]) (by simp[o7])
theorem agt(tag:List c0)(v:Int)(l:List bs):bI ax 130 [.int .i64 v,.ptr (.obj 813) 0,.ptr (.obj 811) 0] (o7 tag l) fun r ah=>r= .tuple []/\ah=o7 tag (lH ⟨v,tag⟩ l):=by have ag:=FG tag l;have fe:=FG tag (lH ⟨v,tag⟩ l);have eL:=JN tag l (lH ⟨v,tag⟩ l);unfold o7 at ag fe eL⊢;refine bI.mk mixed kp aed ale Ψ ag.obj fun aR cI=>?_;unfold QT;simp;refine cP.at _ (.inr rfl) fe eL aL aL ?_;simp[cW,Yc,aU,aW,aT]
end
section
open Go Go.Pv Go.Lib
abbrev wh(l:List ca):cR:=dW ca.e 803 804 104 2 l
theorem Wp:∀(S:aM->Prop) (x:ca),aJ S x.e:=fun S x=>by simp
theorem FE(l:List ca):dM (wh l):=xZ Wp l
def xe(x y:ca):Bool:=decide (x.v<y.v)
theorem aks:Sort.SWO xe:=⟨fun x=>by simp[xe],fun x y z J U=>by simp[xe]at*;omega,fun x y z J U=>by simp[xe]at*;omega⟩
theorem agv(l:List ca)(i j:Nat)(x y:ca)(av:l.length<=68719476736)(hi:l[i]? =some x)(af:l[j]? =some y):bI ax 127 [.int .i64 i,.int .i64 j,.ptr (.obj 804) 0] (wh l) fun r ah=>r= .bool (xe x y)/\ah=wh l:=by have ag:=FE l;obtain⟨ln,hV⟩:=eS.1 hi;obtain⟨dF,lq⟩:=eS.1 af;unfold wh dW at ag⊢;refine bI.mk mixed kp aef alg Ψ ag.obj fun aR cI=>?_;unfold QV;simp[ln,dF,hV,lq];(with_reducible repeat' first|refine aj ?_|simp);refine cP.at _ (.inl rfl) ag (Same.refl _) aL aL ?_;simp[cW,Ye,aU,aW,aT,xe]
noncomputable def Tryz.vkT:TypeInfo:=(ax.info? 25).get bf
noncomputable def Tryz.vkE:TypeInfo:=(ax.info? 104).get bf
theorem Tryz.vkK(n:Nat)(U:2<=n):Lib.swapperK n Tryz.vkE 25=9:=by
 have a:Tryz.vkE.hasPointers=false:=by kernel_rfl
 have b:Tryz.vkE.bytes=16:=by kernel_rfl
 have c:(n==0)=false:=by simp;omega
 have d:(n==1)=false:=by simp;omega
 simp[Lib.swapperK,a,b,c,d]
theorem akr{α β:Type}(f:α->β)(l:List α)(i j:Nat):(hA l i j).map f=hA (l.map f) i j:=by
 unfold hA;simp only[q5];cases l[i]? with
 |none=>simp
 |some x=>
  cases l[j]? with
  |none=>simp
  |some y=>simp[List.map_set]
theorem Uj(l:List ca)(av:l.length<=68719476736):bI ax 126 [.iface 25 (.row 2 (.obj 803) l.length),.func 127 [.ptr (.obj 804) 0]] (wh l) fun r ah=>r= .tuple []/\∃a8,ah=wh a8/\a8.Perm l/\a8.Pairwise fun x y=>xe y x=false:=by
 refine(Uc Wp (K:=803) (B:=804) (sz:=2) (by decide) (by decide) 25 Tryz.vkT Tryz.vkE bf bf bf bf 25 (fun _=>by kernel_rfl) Tryz.vkK 127 xe aks l av (fun a8 h i j x y hi af=>agv a8 i j x y Ω hi af) (fun a8 h i j hi af=>?_));have:=Uk (P:=ax) false 257 (fun args W=>run_callFunc_extern Tryz.func257 bf bf bf (e:=Fw false) bf args W)
  104 Tryz.vkE bf (fun _=>by kernel_rfl) (FE a8) (K:=803) (n:=l.length) (el:=104) (sz:=2) bf (xs:=a8.map ca.e) (by simp[dW,Pv.look,h]) i j hi af
 refine this.mono ?_;rintro r ah ⟨rfl,rfl⟩;refine⟨rfl,?_⟩;simp[dW,cF,akr,h]
end
section
open Go Go.Pv
def fS(o:Option (List ca)):ak:= .tuple [.slice 2 .no ((o.getD []).map ca.e),.bool o.isSome]
@[simp]theorem aty(S:aM->Prop)(o:Option (List ca)):aJ S (fS o)=True:=by simp[fS]
theorem aae{l:List ca}(h:hl l):bQ ax 56 [.slice 2 .no (l.map ca.e)] (.bool true):=by have:=aad l;simpa only[h,decide_true]using this
theorem xN{t:T}(h:t.fit=true):bQ ax 117 [t.e] (.bool true):=by have:=ap1 t;rwa[h]at this
theorem aab{s:List ai}(ag:ek s){l:List ca}(av:hl l)(t:T)(aH:t.fit=true)(k:Int):
  bQ ax 52 [.slice 5 .no (s.map ai.e),.slice 2 .no (l.map ca.e),t.e,.int .i64 k] (fS (if(k=2\/k=3)/\(t.ap (aY s)).size<=5000 then hN l (t.ap (aY s)) k else none)):=by
 have yA:=oK av;have c9:=oW ag;have dq:=xN aH;have dk:=aae av;have fw:=zD s t ag.len ag.sol.asc ag.fit;generalize ad:t.ap (aY s)=x at fw⊢;generalize ds:(if(k=2\/k=3)/\x.size<=5000 then hN l x k else none)=O;by_cases ae:k=2\/k=3;rotate_left
 ·have fH:(k !=2)=true:=by simp;omega
  have jZ:(k !=3)=true:=by simp;omega
  rw[if_neg (fun h=>ae h.1)]at ds;rw[<-ds];refine bj kp sj s6 fun aR=>?_;unfold ri;simp;(with_reducible repeat' first|refine aj ?_|refine aA c9 ?_|refine aB c9 ?_|refine aA dq ?_|refine aB dq ?_|refine aA dk ?_|refine aB dk ?_|simp[fH,jZ]);simp[bk,kn,aU,aW,aT];simp[fS]
 by_cases ba:x.size<=5000;rotate_left
 ·rw[if_neg (fun h=>ba h.2)]at ds;rw[<-ds];rw[if_neg ba,h6 ba]at fw;refine bj kp sj s6 fun aR=>?_;unfold ri;simp;rcases ae with rfl|rfl;all_goals(with_reducible repeat' first|refine aj ?_|refine aA c9 ?_|refine aB c9 ?_|refine aA dq ?_|refine aB dq ?_|refine aA dk ?_|refine aB dk ?_|refine aA fw ?_|refine aB fw ?_|simp)
  all_goals simp[bk,kn,aU,aW,aT]
  all_goals simp[fS]
 rw[if_pos ⟨ae,ba⟩]at ds;rw[if_pos ba,gx ba]at fw;have rE:(k !=2)=true->(k !=3)=false:=fun h=>by simp at h⊢;omega
 have vq:((k !=2)=false)\/((k !=2)=true/\(k !=3)=false):=by
  rcases ae with rfl|rfl
  ·left;rfl
  ·right;exact⟨rfl,rfl⟩
 clear rE;cases x with
 |var n=>
  have dX:O=match lx l n with|some bH=>if bH=k then some l else none|none=>some (mg ⟨n,k⟩ l):=by rw[<-ds];rfl
  refine bj kp sj s6 fun aR=>?_;unfold ri;simp;rcases vq with bt|⟨bt,kU⟩
  ·(with_reducible repeat' first|refine aj ?_|refine aA c9 ?_|refine aB c9 ?_|refine aA dq ?_|refine aB dq ?_|refine aA dk ?_|refine aB dk ?_|refine aA fw ?_|refine aB fw ?_|simp[bt]);refine dT [3,10,12,55,56] (fun i (_:Unit)=>[(57,.int .i64 i)]) l.length (fun i _=> ∀j y,j<i->l[j]? =some y->y.v≠n) () bT (fun j y af=>Ω) (fun _ af _=>?_) (fun i _ hi af _=>?_)
   ·have aX:lx l n=none:=yQ.2 fun y aC=>by obtain⟨m,hm,e⟩:=oi aC;exact af m y hm (by rw[bY hm,e])
    rw[aX]at dX;simp only at dX;simp;(with_reducible repeat' first|refine aj ?_|simp);all_goals first|(refine⟨by unfold lim;omega,?_⟩)|skip
    have key:=Uj (l++[⟨n,k⟩]) (by simp;omega);have eh:=FE (l++[⟨n,k⟩]);have hlen:(l++[(⟨n,k⟩:ca)]).length=l.length+1:=by simp
    unfold wh dW at key eh;rw[hlen,r6,ht,oo]at key eh;refine cO.ob key eh aL aL (by simp[inObs,Pv.look]) ?_;rintro r ah ⟨rfl,a8,rfl,J,U⟩;have uc:a8=mg ⟨n,k⟩ l:=Wq (J.trans ((List.perm_append_comm (l₁:=l) (l₂:=[⟨n,k⟩])).trans (MG ⟨n,k⟩ l).symm)) (HA av.asc (yQ.1 aX)) U;subst uc;refine⟨Same.keys Ψ Ψ,?_⟩;rw[dX];simp[cb];(with_reducible repeat' first|refine aj ?_|simp);simp[bk,kn,aU,aW,aT];simp[fS]
   ·obtain⟨b,ab,cD⟩:=ej hi;by_cases mB:b.v=n
    ·have aX:lx l n=some b.k:=by rw[<-mB];exact HO av.asc (dP ab)
     rw[aX]at dX;simp only at dX;by_cases pk:b.k=k
     ·rw[if_pos pk]at dX;rw[dX];have ym:(b.k !=k)=false:=by simp[pk]
      have sB:(b.v==n)=true:=by simp[mB]
      simp[hi,cD];(with_reducible repeat' first|refine aj ?_|simp[cD,hi,ym,sB,pk,mB]);simp[bk,kn,aU,aW,aT];simp[fS]
     ·rw[if_neg pk]at dX;rw[dX];have ym:(b.k !=k)=true:=by simp[pk]
      have sB:(b.v==n)=true:=by simp[mB]
      simp[hi,cD];(with_reducible repeat' first|refine aj ?_|simp[cD,hi,ym,sB,pk,mB]);simp[bk,kn,aU,aW,aT];simp[fS]
    ·have sB:(b.v==n)=false:=by simp[mB]
     simp[hi,cD];(with_reducible repeat' first|refine aj ?_|simp[cD,hi,sB,mB]);exact bP.rng () hi (fun j y jL aC=>by
      rcases(by omega:j<i\/j=i)with h|rfl
      ·exact af j y h aC
      ·rw[ab]at aC;cases aC;exact mB) bT
  ·(with_reducible repeat' first|refine aj ?_|refine aA c9 ?_|refine aB c9 ?_|refine aA dq ?_|refine aB dq ?_|refine aA dk ?_|refine aB dk ?_|refine aA fw ?_|refine aB fw ?_|simp[bt,kU]);refine dT [3,10,12,55,56] (fun i (_:Unit)=>[(57,.int .i64 i)]) l.length (fun i _=> ∀j y,j<i->l[j]? =some y->y.v≠n) () bT (fun j y af=>Ω) (fun _ af _=>?_) (fun i _ hi af _=>?_)
   ·have aX:lx l n=none:=yQ.2 fun y aC=>by obtain⟨m,hm,e⟩:=oi aC;exact af m y hm (by rw[bY hm,e])
    rw[aX]at dX;simp only at dX;simp;(with_reducible repeat' first|refine aj ?_|simp);all_goals first|(refine⟨by unfold lim;omega,?_⟩)|skip
    have key:=Uj (l++[⟨n,k⟩]) (by simp;omega);have eh:=FE (l++[⟨n,k⟩]);have hlen:(l++[(⟨n,k⟩:ca)]).length=l.length+1:=by simp
    unfold wh dW at key eh;rw[hlen,r6,ht,oo]at key eh;refine cO.ob key eh aL aL (by simp[inObs,Pv.look]) ?_;rintro r ah ⟨rfl,a8,rfl,J,U⟩;have uc:a8=mg ⟨n,k⟩ l:=Wq (J.trans ((List.perm_append_comm (l₁:=l) (l₂:=[⟨n,k⟩])).trans (MG ⟨n,k⟩ l).symm)) (HA av.asc (yQ.1 aX)) U;subst uc;refine⟨Same.keys Ψ Ψ,?_⟩;rw[dX];simp[cb];(with_reducible repeat' first|refine aj ?_|simp);simp[bk,kn,aU,aW,aT];simp[fS]
   ·obtain⟨b,ab,cD⟩:=ej hi;by_cases mB:b.v=n
    ·have aX:lx l n=some b.k:=by rw[<-mB];exact HO av.asc (dP ab)
     rw[aX]at dX;simp only at dX;by_cases pk:b.k=k
     ·rw[if_pos pk]at dX;rw[dX];have ym:(b.k !=k)=false:=by simp[pk]
      have sB:(b.v==n)=true:=by simp[mB]
      simp[hi,cD];(with_reducible repeat' first|refine aj ?_|simp[cD,hi,ym,sB,pk,mB]);simp[bk,kn,aU,aW,aT];simp[fS]
     ·rw[if_neg pk]at dX;rw[dX];have ym:(b.k !=k)=true:=by simp[pk]
      have sB:(b.v==n)=true:=by simp[mB]
      simp[hi,cD];(with_reducible repeat' first|refine aj ?_|simp[cD,hi,ym,sB,pk,mB]);simp[bk,kn,aU,aW,aT];simp[fS]
    ·have sB:(b.v==n)=false:=by simp[mB]
     simp[hi,cD];(with_reducible repeat' first|refine aj ?_|simp[cD,hi,sB,mB]);exact bP.rng () hi (fun j y jL aC=>by
      rcases(by omega:j<i\/j=i)with h|rfl
      ·exact af j y h aC
      ·rw[ab]at aC;cases aC;exact mB) bT
 |nil=>
  have dX:O=if T.nil.kind=k then some l else none:=by rw[<-ds];rfl
  by_cases hJ:T.nil.kind=k
  ·rw[if_pos hJ]at dX;rw[dX];refine bj kp sj s6 fun aR=>?_;unfold ri;simp;simp at hJ;rcases vq with bt|⟨bt,kU⟩
   ·((with_reducible repeat' first|refine aj ?_|refine aA c9 ?_|refine aB c9 ?_|refine aA dq ?_|refine aB dq ?_|refine aA dk ?_|refine aB dk ?_|refine aA fw ?_|refine aB fw ?_|simp[bt,hJ]|((first|apply bL|apply bN|apply bM)<;>intro h<;>try simp at h))<;>(try exact cm));all_goals simp[bk,kn,aU,aW,aT]
    all_goals simp[fS]
   ·((with_reducible repeat' first|refine aj ?_|refine aA c9 ?_|refine aB c9 ?_|refine aA dq ?_|refine aB dq ?_|refine aA dk ?_|refine aB dk ?_|refine aA fw ?_|refine aB fw ?_|simp[bt,kU,hJ]|((first|apply bL|apply bN|apply bM)<;>intro h<;>try simp at h))<;>(try exact cm));all_goals simp[bk,kn,aU,aW,aT]
    all_goals simp[fS]
  ·rw[if_neg hJ]at dX;rw[dX];refine bj kp sj s6 fun aR=>?_;unfold ri;simp;simp at hJ;rcases vq with bt|⟨bt,kU⟩
   ·((with_reducible repeat' first|refine aj ?_|refine aA c9 ?_|refine aB c9 ?_|refine aA dq ?_|refine aB dq ?_|refine aA dk ?_|refine aB dk ?_|refine aA fw ?_|refine aB fw ?_|simp[bt,hJ]|((first|apply bL|apply bN|apply bM)<;>intro h<;>try simp at h))<;>(try exact cm));all_goals simp[bk,kn,aU,aW,aT]
    all_goals simp[fS]
   ·((with_reducible repeat' first|refine aj ?_|refine aA c9 ?_|refine aB c9 ?_|refine aA dq ?_|refine aB dq ?_|refine aA dk ?_|refine aB dk ?_|refine aA fw ?_|refine aB fw ?_|simp[bt,kU,hJ]|((first|apply bL|apply bN|apply bM)<;>intro h<;>try simp at h))<;>(try exact cm));all_goals simp[bk,kn,aU,aW,aT]
    all_goals simp[fS]
 |sym a=>
  have dX:O=if(T.sym a).kind=k then some l else none:=by rw[<-ds];rfl
  by_cases hJ:(T.sym a).kind=k
  ·rw[if_pos hJ]at dX;rw[dX];refine bj kp sj s6 fun aR=>?_;unfold ri;simp;simp at hJ;rcases vq with bt|⟨bt,kU⟩
   ·((with_reducible repeat' first|refine aj ?_|refine aA c9 ?_|refine aB c9 ?_|refine aA dq ?_|refine aB dq ?_|refine aA dk ?_|refine aB dk ?_|refine aA fw ?_|refine aB fw ?_|simp[bt,hJ]|((first|apply bL|apply bN|apply bM)<;>intro h<;>try simp at h))<;>(try exact cm));all_goals simp[bk,kn,aU,aW,aT]
    all_goals simp[fS]
   ·((with_reducible repeat' first|refine aj ?_|refine aA c9 ?_|refine aB c9 ?_|refine aA dq ?_|refine aB dq ?_|refine aA dk ?_|refine aB dk ?_|refine aA fw ?_|refine aB fw ?_|simp[bt,kU,hJ]|((first|apply bL|apply bN|apply bM)<;>intro h<;>try simp at h))<;>(try exact cm));all_goals simp[bk,kn,aU,aW,aT]
    all_goals simp[fS]
  ·rw[if_neg hJ]at dX;rw[dX];refine bj kp sj s6 fun aR=>?_;unfold ri;simp;simp at hJ;rcases vq with bt|⟨bt,kU⟩
   ·((with_reducible repeat' first|refine aj ?_|refine aA c9 ?_|refine aB c9 ?_|refine aA dq ?_|refine aB dq ?_|refine aA dk ?_|refine aB dk ?_|refine aA fw ?_|refine aB fw ?_|simp[bt,hJ]|((first|apply bL|apply bN|apply bM)<;>intro h<;>try simp at h))<;>(try exact cm));all_goals simp[bk,kn,aU,aW,aT]
    all_goals simp[fS]
   ·((with_reducible repeat' first|refine aj ?_|refine aA c9 ?_|refine aB c9 ?_|refine aA dq ?_|refine aB dq ?_|refine aA dk ?_|refine aB dk ?_|refine aA fw ?_|refine aB fw ?_|simp[bt,kU,hJ]|((first|apply bL|apply bN|apply bM)<;>intro h<;>try simp at h))<;>(try exact cm));all_goals simp[bk,kn,aU,aW,aT]
    all_goals simp[fS]
 |num a=>
  have dX:O=if(T.num a).kind=k then some l else none:=by rw[<-ds];rfl
  by_cases hJ:(T.num a).kind=k
  ·rw[if_pos hJ]at dX;rw[dX];refine bj kp sj s6 fun aR=>?_;unfold ri;simp;simp at hJ;rcases vq with bt|⟨bt,kU⟩
   ·((with_reducible repeat' first|refine aj ?_|refine aA c9 ?_|refine aB c9 ?_|refine aA dq ?_|refine aB dq ?_|refine aA dk ?_|refine aB dk ?_|refine aA fw ?_|refine aB fw ?_|simp[bt,hJ]|((first|apply bL|apply bN|apply bM)<;>intro h<;>try simp at h))<;>(try exact cm));all_goals simp[bk,kn,aU,aW,aT]
    all_goals simp[fS]
   ·((with_reducible repeat' first|refine aj ?_|refine aA c9 ?_|refine aB c9 ?_|refine aA dq ?_|refine aB dq ?_|refine aA dk ?_|refine aB dk ?_|refine aA fw ?_|refine aB fw ?_|simp[bt,kU,hJ]|((first|apply bL|apply bN|apply bM)<;>intro h<;>try simp at h))<;>(try exact cm));all_goals simp[bk,kn,aU,aW,aT]
    all_goals simp[fS]
  ·rw[if_neg hJ]at dX;rw[dX];refine bj kp sj s6 fun aR=>?_;unfold ri;simp;simp at hJ;rcases vq with bt|⟨bt,kU⟩
   ·((with_reducible repeat' first|refine aj ?_|refine aA c9 ?_|refine aB c9 ?_|refine aA dq ?_|refine aB dq ?_|refine aA dk ?_|refine aB dk ?_|refine aA fw ?_|refine aB fw ?_|simp[bt,hJ]|((first|apply bL|apply bN|apply bM)<;>intro h<;>try simp at h))<;>(try exact cm));all_goals simp[bk,kn,aU,aW,aT]
    all_goals simp[fS]
   ·((with_reducible repeat' first|refine aj ?_|refine aA c9 ?_|refine aB c9 ?_|refine aA dq ?_|refine aB dq ?_|refine aA dk ?_|refine aB dk ?_|refine aA fw ?_|refine aB fw ?_|simp[bt,kU,hJ]|((first|apply bL|apply bN|apply bM)<;>intro h<;>try simp at h))<;>(try exact cm));all_goals simp[bk,kn,aU,aW,aT]
    all_goals simp[fS]
 |pair a b=>
  have dX:O=if(T.pair a b).kind=k then some l else none:=by rw[<-ds];rfl
  by_cases hJ:(T.pair a b).kind=k
  ·rw[if_pos hJ]at dX;rw[dX];refine bj kp sj s6 fun aR=>?_;unfold ri;simp;simp at hJ;rcases vq with bt|⟨bt,kU⟩
   ·((with_reducible repeat' first|refine aj ?_|refine aA c9 ?_|refine aB c9 ?_|refine aA dq ?_|refine aB dq ?_|refine aA dk ?_|refine aB dk ?_|refine aA fw ?_|refine aB fw ?_|simp[bt,hJ]|((first|apply bL|apply bN|apply bM)<;>intro h<;>try simp at h))<;>(try exact cm));all_goals simp[bk,kn,aU,aW,aT]
    all_goals simp[fS]
   ·((with_reducible repeat' first|refine aj ?_|refine aA c9 ?_|refine aB c9 ?_|refine aA dq ?_|refine aB dq ?_|refine aA dk ?_|refine aB dk ?_|refine aA fw ?_|refine aB fw ?_|simp[bt,kU,hJ]|((first|apply bL|apply bN|apply bM)<;>intro h<;>try simp at h))<;>(try exact cm));all_goals simp[bk,kn,aU,aW,aT]
    all_goals simp[fS]
  ·rw[if_neg hJ]at dX;rw[dX];refine bj kp sj s6 fun aR=>?_;unfold ri;simp;simp at hJ;rcases vq with bt|⟨bt,kU⟩
   ·((with_reducible repeat' first|refine aj ?_|refine aA c9 ?_|refine aB c9 ?_|refine aA dq ?_|refine aB dq ?_|refine aA dk ?_|refine aB dk ?_|refine aA fw ?_|refine aB fw ?_|simp[bt,hJ]|((first|apply bL|apply bN|apply bM)<;>intro h<;>try simp at h))<;>(try exact cm));all_goals simp[bk,kn,aU,aW,aT]
    all_goals simp[fS]
   ·((with_reducible repeat' first|refine aj ?_|refine aA c9 ?_|refine aB c9 ?_|refine aA dq ?_|refine aB dq ?_|refine aA dk ?_|refine aB dk ?_|refine aA fw ?_|refine aB fw ?_|simp[bt,kU,hJ]|((first|apply bL|apply bN|apply bM)<;>intro h<;>try simp at h))<;>(try exact cm));all_goals simp[bk,kn,aU,aW,aT]
    all_goals simp[fS]
def ig(o:Option (List bs)):ak:= .tuple [.slice 2 .no ((o.getD []).map bs.e),.bool o.isSome]
@[simp]theorem atA(S:aM->Prop)(o:Option (List bs)):aJ S (ig o)=True:=by simp[ig]
theorem aai{l:List bs}(h:ji l):bQ ax 57 [.slice 2 .no (l.map bs.e)] (.bool true):=by have:=aah l;simpa only[h,decide_true]using this
theorem apP{s:List c0}(h:ix s=true):bQ ax 128 [.str s] (.bool true):=by have:=uK s;rwa[h]at this
def Eb(l:List bs):List ak:=l.flatMap fun m=>[m.e,.bool true]
theorem W2(l:List bs):oL l= .hdm l.length (List.range l.length)::Eb l:=rfl
theorem Ni(b:Nat):∀(n:Nat) (l:List bs),ny b (List.range' n l.length) (Eb l)=(if n<=b then(l[b-n]?).map fun x=>.tuple [x.e,.bool true]else none)
 |n,[]=>by simp[ny,Eb]
 |n,x::r=>by
  have e:Eb (x::r)=x.e:: .bool true::Eb r:=rfl;simp only[oj,List.range'_succ,e,ny];by_cases h:n=b
  ·subst h;simp
  ·rw[if_neg h,Ni b (n+1) r];by_cases U:n<=b
   ·rw[if_pos U,if_pos Ω];have:b-n=(b-(n+1))+1:=Ω
    rw[this];simp
   ·rw[if_neg U,if_neg Ω]
@[simp]theorem aui(l:List bs):ie (oL l)=false:=rfl
@[simp]theorem auo(m:aM)(l:List bs):zh m (oL l)=some (cz l.length [] m):=rfl
theorem akD(f:aM->Option (List ak))(fv mk:aM)(n:Nat)(seen:List Nat)(b:Nat)(l:List bs)(x:bs)(hi:f fv=some (cz n (seen++[b]) mk))(hm:f mk=some (oL l))(au:n=l.length)(ad:l[b]? =some x):qm f (.ptr fv 0)=some (True,.tuple [x.e,.bool true]):=by subst au;simp only[Xb,hi,hm,cz,W2,List.getLast?_append,List.getLast?_singleton,Option.some_or,List.range_eq_range',Ni,Nat.zero_le,if_true,Nat.sub_zero,Option.map_map];simp[ad]
theorem adn{st:br}{d:Nat}{K:br->Prop}{fv mk:aM}{n:Nat}{seen:List Nat}{l:List bs}(hi:Pv.look fv st.b=some (cz n seen mk))(hm:Pv.look mk st.b=some (oL l))(au:n=l.length)
  (J:(∀b,b<l.length->b∈seen)->K {st with t:=Pv.put d (.tuple [.bool false]) st.t}) (U:∀b x,l[b]? =some x->b∉seen->K {st with t:=Pv.put d (.tuple [.bool true,x.e,.bool true]) st.t,b:=cF fv (cz n (seen++[b]) mk) st.b}):
  tP st d (.ptr fv 0) K:=by
 subst au;simp only[tP,hi,cz,hm,W2,Ny,and_self,true_and];refine⟨fun h=>J fun b ab=>h b (by simpa using ab),fun b k v yC ab=>?_⟩;rw[List.range_eq_range',Ni]at yC;simp only[Nat.zero_le,if_true,Nat.sub_zero,gm,ak.tuple.injEq,zK,and_true]at yC;obtain⟨x,aq,aG,bG⟩:=yC;subst aG bG;exact U b x aq ab
theorem aky{m x:bs}{l:List bs}:x∈lH m l↔x=m\/x∈l:=by
 unfold lH;split
 ·constructor
  ·exact .inr
  ·rintro(rfl|h)<;>assumption
 ·simp[or_comm]
theorem abD{m:bs}{l:List bs}(h:l.Nodup):(lH m l).Nodup:=by
 unfold lH;split
 ·exact h
 ·rw[List.nodup_append];exact⟨h,Ψ,fun a bm b ab=>by simp at ab;subst ab;intro e;subst e;contradiction⟩
theorem abC(m:bs)(l:List bs):(lH m l).length<=l.length+1:=by unfold lH;split<;>simp
theorem agl(s:List c0)(t:T):∀l:List bs,(t.fold (fun v l=>lH ⟨v,s⟩ l) l).length<=l.length+t.size:=by
 induction t with
 |var n=>intro l;simp only[T.fold,T.size];exact abC _ _
 |pair a b dJ dK=>intro l;simp only[T.fold,T.size];have:=dJ l;have:=dK (a.fold (fun v l=>lH ⟨v,s⟩ l) l);omega
 |_=>intro l;simp[T.fold,T.size]
theorem agm(s:List c0)(t:T):∀{l:List bs},l.Nodup->(t.fold (fun v l=>lH ⟨v,s⟩ l) l).Nodup:=by
 induction t with
 |var n=>intro l h;exact abD h
 |pair a b dJ dK=>intro l h;exact dK (dJ h)
 |_=>intro l h;exact h
theorem akz(s:List c0)(t:T)(x:bs):∀{l:List bs},x∈t.fold (fun v l=>lH ⟨v,s⟩ l) l↔x∈l\/(x.s=s/\t.occ x.v=true):=by
 induction t with
 |var n=>
  intro l;simp only[T.fold,aky,T.occ,dQ];constructor
  ·rintro(rfl|h)
   ·exact .inr ⟨rfl,rfl⟩
   ·exact .inl h
  ·rintro(h|⟨J,U⟩)
   ·exact .inr h
   ·left;cases x;simp at J U;subst J U;rfl
 |pair a b dJ dK=>
  intro l;simp only[T.fold,dK,dJ,T.occ,k6];constructor
  ·rintro((h|h)|h)
   ·exact .inl h
   ·exact .inr ⟨h.1,.inl h.2⟩
   ·exact .inr ⟨h.1,.inr h.2⟩
  ·rintro(h|⟨J,U|U⟩)
   ·exact .inl (.inl h)
   ·exact .inl (.inr ⟨J,U⟩)
   ·exact .inr ⟨J,U⟩
 |_=>intro l;simp[T.fold,T.occ]
def ajG(M:List bs)(k:Nat)(st:br):Prop:=∃(seen:List Nat) (xs:List bs),seen.Nodup/\(∀b∈seen,b<M.length)/\k=M.length-seen.length/\xs=seen.filterMap (fun b=>M[b]?)/\xs.length=seen.length/\st=⟨[(15,.ptr (.obj 815) 0),(63,.ptr (.loc 2) 0)],[(.obj 812,oL M),(.loc 2,cz M.length seen (.obj 812)),(.obj 815,[.row 2 (.obj 814) xs.length])],[(.obj 814,⟨xs.length,106,2,some (xs.map bs.e)⟩)],3,[.obj 815,.obj 814,.obj 813,.obj 812,.obj 811]⟩
theorem aaa{s:List ai}(ag:ek s){l:List bs}(av:ji l)(yA:l.length<=68719470000)(t:T)(aH:t.fit=true){g:List c0}(aX:ix g=true):
  bQ ax 54 [.slice 5 .no (s.map ai.e),.slice 2 .no (l.map bs.e),t.e,.str g] (ig (if(t.ap (aY s)).size<=5000 then im l (t.ap (aY s)) g else none)):=by
 have c9:=oW ag;have dq:=xN aH;have ef:=aai av;have ia:=apP aX;have fw:=zD s t ag.len ag.sol.asc ag.fit;generalize ad:t.ap (aY s)=x at fw⊢;generalize ds:(if x.size<=5000 then im l x g else none)=O;by_cases ba:x.size<=5000;rotate_left
 ·rw[if_neg ba]at ds;rw[<-ds];rw[if_neg ba,h6 ba]at fw;refine bj kp KW NF fun aR=>?_;unfold FY;simp;(with_reducible repeat' first|refine aj ?_|refine aA c9 ?_|refine aB c9 ?_|refine aA dq ?_|refine aB dq ?_|refine aA ef ?_|refine aB ef ?_|refine aA ia ?_|refine aB ia ?_|refine aA fw ?_|refine aB fw ?_|simp);simp[bk,Is,aU,aW,aT];simp[ig]
 rw[if_pos ba]at ds;rw[if_pos ba,gx ba]at fw;have Ba:=aau g x;cases cA:x.has g;rotate_left
 ·rw[cA]at Ba;have dX:O=none:=by rw[<-ds];unfold im;rw[cA];rfl
  rw[dX];refine bj kp KW NF fun aR=>?_;unfold FY;simp;(with_reducible repeat' first|refine aj ?_|refine aA c9 ?_|refine aB c9 ?_|refine aA dq ?_|refine aB dq ?_|refine aA ef ?_|refine aB ef ?_|refine aA ia ?_|refine aB ia ?_|refine aA fw ?_|refine aB fw ?_|refine aA Ba ?_|refine aB Ba ?_|simp);simp[bk,Is,aU,aW,aT];simp[ig]
 rw[cA]at Ba;refine bj kp KW NF fun aR=>?_;unfold FY;simp;(with_reducible repeat' first|refine aj ?_|refine aA c9 ?_|refine aB c9 ?_|refine aA dq ?_|refine aB dq ?_|refine aA ef ?_|refine aB ef ?_|refine aA ia ?_|refine aB ia ?_|refine aA fw ?_|refine aB fw ?_|refine aA Ba ?_|refine aB Ba ?_|simp);have Dv:l.Nodup:=gT.nodup mm av.asc;have hc:∀xs:List bs,xs.Perm (x.fold (fun v l=>lH ⟨v,g⟩ l) l)->O=some (oR fp xs):=fun xs bD=>by
  rw[<-ds];refine JU cA ?_ fun y=>?_
  ·have J:=Pe mm xs;have U:(oR fp xs).Nodup:=(((xA fp xs).trans bD).nodup_iff).2 (agm g x Dv);exact(J.and U).imp fun{a b} h=>by have:=mt (mm.zero a b).1 h.2;omega
  ·rw[((xA fp xs).trans bD).mem_iff,akz]
 have hlen:(x.fold (fun v l=>lH ⟨v,g⟩ l) l).length<=68719475000:=by have:=agl g x l;omega
 rw[show kG []=oL []from rfl];refine h0 (fun i (_:Unit)=>⟨[(7,.ptr (.obj 811) 0),(10,.ptr (.loc 1) 0),(12,.ptr (.obj 813) 0),(49,.slice 2 .no (l.map bs.e)),(50,.int .i64 l.length),(51,.int .i64 i)],[(.obj 811,[.str g]),(.loc 1,[.int .i64 x.kind,.int .i64 x.int,.str x.name,.slice 4 .no (x.args.map T.e)]),(.obj 812,oL (l.take i)),(.obj 813,[.gmap (.obj 812)])],[],2,[.obj 813,.obj 812,.obj 811]⟩) l.length (fun _ _=>True) () bT trivial (fun _ _ _=>?_) (fun i _ hi _ _=>?_)
 ·rw[k9];simp;(with_reducible repeat' first|refine aj ?_|simp);have key:=Lo (o7 g) (FG g) (JN g) 130 [.ptr (.obj 813) 0,.ptr (.obj 811) 0] (by intro a;simp[inObs,o7,Pv.look,aN,aJ]) Ψ (fun v l=>lH ⟨v,g⟩ l) (fun v a=>agt g v a) x l;refine cO.ob key (FG g l) (by unfold o7;exact aL) (by unfold o7;exact aL) (by simp[inObs,o7,Pv.look]) ?_;rintro r ah ⟨rfl,rfl⟩;refine⟨JN g _ _,?_⟩;unfold o7;generalize gC:x.fold (fun v l=>lH ⟨v,g⟩ l) l=M at hc hlen⊢;simp[cb];(with_reducible repeat' first|refine aj ?_|simp);refine nJ (ajG M) M.length _ ⟨by simp[fresh,aN,aJ,cz,inObs,Pv.look,Bc],eD (by simp[fresh,aN,aJ,cz,inObs,Pv.look,Bc]),eE (by simp[fresh,aN,aJ,eg,inObs,Pv.look,Bc]),Ψ⟩ ⟨[],[],Ψ,Ψ,Ψ,Ψ,Ψ,rfl⟩ ?_;rintro k st ⟨seen,xs,aF,bz,ae,VL,qk,rfl⟩ ju cI;clear ju cI;have hle:=Je aF bz;simp;refine adn (mk:= .obj 812) (seen:=seen) (l:=M) Ψ Ψ rfl (fun l3=>?_) (fun b y aC ab=>?_)
  ·have wS:=OZ aF bz l3;rw[<-VL]at wS;have dz:=hc xs wS;simp;(with_reducible repeat' first|refine aj ?_|simp);have key:=ag7 xs Ω;have eh:=JM xs;unfold xY dW at key eh;refine cO.ob key eh aL aL (by simp[inObs,Pv.look]) ?_;rintro r ah ⟨rfl,rfl⟩;refine⟨Same.keys Ψ Ψ,?_⟩;rw[dz];simp[cb];(with_reducible repeat' first|refine aj ?_|simp);simp[bk,Is,aU,aW,aT];simp[ig]
  ·have AO:∀f:aM->Option (List ak),f (.loc 2)=some (cz M.length (seen++[b]) (.obj 812))->f (.obj 812)=some (oL M)->qm f (.ptr (.loc 2) 0)=some (True,.tuple [y.e,.bool true]):=fun f J U=>akD f (.loc 2) (.obj 812) M.length seen b M y J U rfl aC;have fm:b<M.length:=(eS.1 aC).1;have qL:=O0 aF bz fm ab;simp[AO];(with_reducible repeat' first|refine aj ?_|simp[AO]);all_goals first|(refine⟨by unfold lim;omega,?_⟩)|skip
   have yx:∀S:aM->Prop,aN S (xs.map bs.e++[y.e])=True:=fun S=>by
    have e:xs.map bs.e++[y.e]=(xs++[y]).map bs.e:=by simp
    rw[e];simp[-r6]
   refine bP.next (M.length-(seen.length+1)) Ω ⟨seen++[b],xs++[y],NC aF ab,(by simp;intro c ar;rcases ar with ar|rfl;exact bz c ar;exact fm),Ψ,by rw[List.filterMap_append,<-VL];simp[aC],by simp[qk],rfl⟩ ⟨by simp[fresh,aN,aJ,cz,inObs,Pv.look,Bc,yx],eD (by simp[fresh,aN,aJ,cz,inObs,Pv.look,Bc,yx]),eE (by simp[fresh,aN,aJ,eg,inObs,Pv.look,Bc,yx]),Ψ⟩
 ·obtain⟨b,ab,cD⟩:=ej hi;have kg:lH b (l.take i)=l.take (i+1):=by
   have J:b∉l.take i:=fun h=>by
    obtain⟨j,af,e⟩:=oi h;have jL:j<i:=by simp at af;omega
    rw[List.getElem_take]at e;have:=(List.nodup_iff_pairwise_ne.1 Dv);exact(o2.1 this j i Ω hi jL) (by rw[e,cD])
   rw[q6,ab];simp[lH,J]
  exact gX
def Rb:C:=(aa [bh 4 false] (.seq (aa [I 7 0,ct 8 7,b6 9 0] (eZ 10 9 8 (.seq (.block 1 (aa [cw 11 5 7 9,aV 12 5 11,cL 6 ib,bu 5 6 12] (aa [aI 13 0 1 6,az 14 1 13,I 15 1,bq 16 .geq 14 15,I 17 16,al 17 false (hp 18 1 4 6),al 17 false (aV 19 4 18),ys 17 false (.bsl 20 4 32 [.t 19]),al 17 false (cG 21 116 20),bO 17 false 22 1,al 17 false (bq 23 .gtr 21 22),cV 24 17 23] (aZ 24 (aa [bh 4 false] .ret) .skip)))) (.region [aS 25 .add 9 1,I 9 25])))) (aa [bh 4 true] .ret)))
@[simp] def anR:List bW:=[.tmp 4]
def Q9:C:=(aa [b6 2 0] (.seq (aa [I 6 0,cG 7 68 6,cx 8 7] (aZ 8 (aa [b6 2 (-1)] .ret) .skip)) (aa [cX (.alloc 3 (some 831) (.int .i64 0)),cX (.store 1 (.t 3) (dS 0))] (.seq (aa [I 9 0,ct 10 9,b6 11 0] (eZ 12 11 10 (.seq (.block 1 (aa [cw 13 4 9 11,aV 14 4 13,cL 5 da,bu 4 5 14] (.region [aV 15 4 5,b2 16 (.mkf 193 [.t 3]),b5 17 129 15 16]))) (.region [aS 18 .add 11 1,I 11 18])))) (aa [az 19 1 3,I 2 19] .ret)))))
@[simp] def anP:List bW:=[.tmp 2]
def Q4:C:=(aa [eA 4 2,bh 5 false] (.seq (aa [I 11 0,cG 12 55 11,cx 13 12,I 14 13,bO 14 false 15 1,al 14 false (cG 16 56 15),al 14 false (cx 17 16),cV 18 14 17] (aZ 18 (aa [eA 4 2,bh 5 false] .ret) .skip)) (aa [dI 19 2 104 [],I 6 19] (.seq (.seq (.fg false 6 (.region [I 20 1,ct 21 20,b6 22 0])) (eZ 23 22 21 (.seq (.block 1 (aa [cw 24 2 20 22,aV 25 2 24,cX (.alloc 8 none (.agg [.int .i64 0,.int .i64 0])),bu 2 8 25] (.seq (.drawn true 42 [I 27 0,I 28 6,aI 29 0 1 8,az 30 1 29,cG 31 96 30,aI 32 1 1 8,az 33 1 32,c2 34 52 [.t 27,.t 28,.t 31,.t 33],I 26 34,cj 35 0 26,cj 36 1 26,I 9 35,I 10 36]) (.seq (aa [I 37 10,cx 38 37] (aZ 38 (aa [eA 4 2,bh 5 false] .ret) .skip)) (.region [I 39 9,I 6 39]))))) (.region [aS 40 .add 22 1,I 22 40])))) (aa [I 41 6,I 4 41,bh 5 true] .ret)))))
@[simp] def N8:List bW:=[.tmp 4,.tmp 5]
def Q5:C:=(aa [eA 4 2,bh 5 false] (.seq (aa [I 11 0,cG 12 55 11,cx 13 12,I 14 13,bO 14 false 15 1,al 14 false (cG 16 57 15),al 14 false (cx 17 16),cV 18 14 17] (aZ 18 (aa [eA 4 2,bh 5 false] .ret) .skip)) (aa [dI 19 2 106 [],I 6 19] (.seq (.seq (.fg false 6 (.region [I 20 1,ct 21 20,b6 22 0])) (eZ 23 22 21 (.seq (.block 1 (aa [cw 24 2 20 22,aV 25 2 24,cX (.alloc 8 none (.agg [.int .i64 0,.str []])),bu 2 8 25] (.seq (.drawn true 42 [I 27 0,I 28 6,aI 29 0 1 8,az 30 1 29,cG 31 96 30,aI 32 1 1 8,az 33 1 32,c2 34 54 [.t 27,.t 28,.t 31,.t 33],I 26 34,cj 35 0 26,cj 36 1 26,I 9 35,I 10 36]) (.seq (aa [I 37 10,cx 38 37] (aZ 38 (aa [eA 4 2,bh 5 false] .ret) .skip)) (.region [I 39 9,I 6 39]))))) (.region [aS 40 .add 22 1,I 22 40])))) (aa [I 41 6,I 4 41,bh 5 true] .ret)))))
@[simp] def N9:List bW:=[.tmp 4,.tmp 5]
def Q1:C:=(aa [eA 2 1] (.seq (aa [I 12 0,ct 13 12,b6 14 0] (eZ 15 14 13 (.seq (.block 1 (aa [cw 16 1 12 14,az 17 1 16,I 4 17] (aa [I 18 4,cG 19 55 18,cx 20 19] (aZ 20 (aa [eA 2 1] .ret) .skip)))) (.region [aS 21 .add 14 1,I 14 21])))) (aa [cX (.bslm 22 (some 821) 1 23 []),I 23 0,cX (.appm 24 none 1 23 (.t 22) (.t 23)),cX (.alloc 5 (some 822) (.slice 1 .nil [])),bu 1 5 24] (aa [az 25 1 5,b2 26 (.mkif 24 (.t 25)),b2 27 (.mkf 203 [.t 5]),b5 28 202 26 27] (aa [dI 29 1 23 [],I 6 29] (.seq (aa [az 30 1 5,ct 31 30,b6 32 0] (.block 2 (.loop (aa [bq 33 .lss 32 31] (.seq (aZ 33 .skip (.exit 2)) (.seq (.block 3 (aa [I 34 32,cw 35 1 30 32,az 36 1 35,I 7 34,I 8 36] (.seq (aa [I 37 7,aS 38 .gtr 37 0,I 39 38,al 39 true (az 40 1 5),bO 39 true 41 7,al 39 true (aS 42 .sub 41 1),al 39 true (cw 43 1 40 42),al 39 true (az 44 1 43),bO 39 true 45 8,al 39 true (b5 46 204 44 45),al 39 true (aS 47 .eql 46 0),de 48 39 47] (aZ 48 (.exit 3) .skip)) (aa [bh 9 true] (.seq (aa [az 49 1 5,ct 50 49,b6 51 0] (.block 4 (.loop (aa [bq 52 .lss 51 50] (.seq (aZ 52 .skip (.exit 4)) (.seq (.block 5 (aa [cw 53 1 49 51,az 54 1 53,I 11 54] (aa [I 55 11,I 56 8,b5 57 204 55 56,aS 58 .neq 57 0,I 59 58,bO 59 true 60 11,bO 59 true 61 8,al 59 true (b5 62 205 60 61),de 63 59 62] (aZ 63 (.region [bh 9 false]) .skip)))) (.region [aS 64 .add 51 1,I 51 64]))))))) (aa [I 65 9] (aZ 65 (.region [I 66 6,I 67 8,cG 68 119 67,dI 69 1 23 [.t 68],gf 70 1 23 66 69,I 6 70]) .skip))))))) (.region [aS 71 .add 32 1,I 32 71]))))))) (aa [I 72 6,I 2 72] .ret)))))))
@[simp] def anK:List bW:=[.tmp 2]
def Kg:C:=(.region [az 3 1 1,I 4 0,aS 5 .add 4 1,b2 6 (.max2 (.t 3) (.t 5)),bu 1 1 6])
@[simp] def Oc:List bW:=[]
def Q2:C:=(aa [bh 5 false] (.seq (.drawn true 16 [az 6 1 2,I 7 0,cw 8 1 6 7,az 9 1 8,az 10 1 2,I 11 1,cw 12 1 10 11,az 13 1 12,b5 14 204 9 13,aS 15 .lss 14 0,I 5 15]) .ret))
@[simp] def Yk:List bW:=[.tmp 5]
def xK:List (Nat×dB):=[
 (3,⟨1,8,.int .i64,.int .i64 0⟩),
 (9,⟨1,16,.str,.str []⟩),
 (23,⟨1,24,.slice 61,.slice 5 .nil []⟩),
 (24,⟨1,24,.slice 23,.slice 1 .nil []⟩),
 (25,⟨1,24,.slice 104,.slice 2 .nil []⟩),
 (26,⟨1,24,.slice 106,.slice 2 .nil []⟩),
 (30,⟨1,24,.slice 32,.slice 4 .nil []⟩),
 (32,⟨4,56,.struct [(0,3),(1,3),(2,9),(3,30)],.agg [.int .i64 0,.int .i64 0,.str [],.slice 4 .nil []]⟩),
 (61,⟨5,64,.struct [(0,3),(1,32)],.agg [.int .i64 0,.int .i64 0,.int .i64 0,.str [],.slice 4 .nil []]⟩),
 (104,⟨2,16,.struct [(0,3),(1,3)],.agg [.int .i64 0,.int .i64 0]⟩),
 (106,⟨2,24,.struct [(0,3),(1,9)],.agg [.int .i64 0,.str []]⟩)]
theorem xM:fM ax xK=true:=by kernel_rfl
theorem aly:b3 xK Rb anR 2 Tryz.f58=true:=by kernel_rfl
theorem aev:ax.funcs[(58:Nat)]? =some Tryz.f58:=Tryz.func58
theorem alw:b3 xK Q9 anP 1 Tryz.f116=true:=by kernel_rfl
theorem aet:ax.funcs[(116:Nat)]? =some Tryz.f116:=Tryz.func116
theorem alq:b3 xK Q4 N8 2 Tryz.f120=true:=by kernel_rfl
theorem aeo:ax.funcs[(120:Nat)]? =some Tryz.f120:=Tryz.func120
theorem alr:b3 xK Q5 N9 2 Tryz.f121=true:=by kernel_rfl
theorem aep:ax.funcs[(121:Nat)]? =some Tryz.f121:=Tryz.func121
theorem aln:b3 xK Q1 anK 1 Tryz.f124=true:=by kernel_rfl
theorem ael:ax.funcs[(124:Nat)]? =some Tryz.f124:=Tryz.func124
theorem XH:b3 xK Kg Oc 2 Tryz.f193=true:=by kernel_rfl
theorem TH:ax.funcs[(193:Nat)]? =some Tryz.f193:=Tryz.func193
theorem alo:b3 xK Q2 Yk 3 Tryz.f203=true:=by kernel_rfl
theorem aem:ax.funcs[(203:Nat)]? =some Tryz.f203:=Tryz.func203
def V9(s:List ai)(l:List ca)(i:Nat)(a:List ca):Prop:=hl a/\fJ s (l.drop i) a=fJ s l []
theorem aak{s:List ai}(ag:ek s){l:List ca}(av:hl l):bQ ax 120 [.slice 5 .no (s.map ai.e),.slice 2 .no (l.map ca.e)] (fS (fJ s l [])):=by
 have yA:=oK av;have c9:=oW ag;have dk:=aae av;refine bj xM aeo alq fun aR=>?_;unfold Q4;simp;(with_reducible repeat' first|refine aj ?_|refine aA c9 ?_|refine aB c9 ?_|refine aA dk ?_|refine aB dk ?_|simp);refine dT [0,20,21] (fun i (a:List ca)=>[(6,.slice 2 .no (a.map ca.e)),(22,.int .i64 i)]) l.length (V9 s l) [] bT ⟨⟨Ψ,Ψ⟩,rfl⟩ (fun a af _=>?_) (fun i a hi af _=>?_)
 ·obtain⟨_,af⟩:=af;rw[List.drop_length]at af;simp only[fJ]at af;rw[<-af];simp;(with_reducible repeat' first|refine aj ?_|simp);simp[bk,N8,aU,aW,aT];simp[fS]
 ·obtain⟨bm,af⟩:=af;obtain⟨b,ab,cD⟩:=ej hi;have pj:=av.at' b (dP ab);rw[k8 hi,cD]at af;simp only[fJ]at af;have e9:=aab ag bm (.var b.v) (by simp[T.fit,T.ok,T.size,pj.1]) b.k;have ba:((T.var b.v).ap (aY s)).size<=5000:=E2 ag b.v;rw[if_pos ⟨pj.2,ba⟩,show(T.var b.v).ap (aY s)=aY s b.v from rfl]at e9;simp[hi,cD];cases dX:hN a (aY s b.v) b.k with
  |none=>rw[dX]at af e9;simp only at af;rw[<-af];simp only[fS]at e9;(with_reducible repeat' first|refine aj ?_|refine aA (jF _) ?_|refine aB (jF _) ?_|refine aA e9 ?_|refine aB e9 ?_|simp[cD,hi]);simp[bk,N8,aU,aW,aT];simp[fS]
  |some bn=>rw[dX]at af e9;simp only[fS]at e9;(with_reducible repeat' first|refine aj ?_|refine aA (jF _) ?_|refine aB (jF _) ?_|refine aA e9 ?_|refine aB e9 ?_|simp[cD,hi]);exact bP.rng bn hi ⟨FN bm (BZ ag pj.1) pj.2 dX,af⟩ bT
def Wa(s:List ai)(G:List (List c0))(l:List bs)(i:Nat)(a:List bs):Prop:=ji a/\lU G a/\fL s (l.drop i) a=fL s l []
theorem aal{s:List ai}(ag:ek s){l:List bs}(av:ji l){G:List (List c0)}(hR:G.length<=687000)(aX:lU G l):bQ ax 121 [.slice 5 .no (s.map ai.e),.slice 2 .no (l.map bs.e)] (ig (fL s l [])):=by
 have hlen:∀{a:List bs},ji a->lU G a->a.length<=68719470000:=fun J U=>by have:=Ed J U;omega
 have yA:=hlen av aX;have c9:=oW ag;have dk:=aai av;refine bj xM aep alr fun aR=>?_;unfold Q5;simp;(with_reducible repeat' first|refine aj ?_|refine aA c9 ?_|refine aB c9 ?_|refine aA dk ?_|refine aB dk ?_|simp);refine dT [0,20,21] (fun i (a:List bs)=>[(6,.slice 2 .no (a.map bs.e)),(22,.int .i64 i)]) l.length (Wa s G l) [] bT ⟨⟨Ψ,by simp[gT]⟩,fun x ad=>by simp at ad,rfl⟩ (fun a af _=>?_) (fun i a hi af _=>?_)
 ·obtain⟨_,_,af⟩:=af;rw[List.drop_length]at af;simp only[fL]at af;rw[<-af];simp;(with_reducible repeat' first|refine aj ?_|simp);simp[bk,N9,aU,aW,aT];simp[ig]
 ·obtain⟨bm,DH,af⟩:=af;obtain⟨b,ab,cD⟩:=ej hi;have pj:=av.at' b (dP ab);have LI:=aX b (dP ab);rw[k8 hi,cD]at af;simp only[fL]at af;have e9:=aaa ag bm (hlen bm DH) (.var b.v) (by simp[T.fit,T.ok,T.size,pj.1]) pj.2;have ba:((T.var b.v).ap (aY s)).size<=5000:=E2 ag b.v;rw[if_pos ba,show(T.var b.v).ap (aY s)=aY s b.v from rfl]at e9;simp[hi,cD];cases dX:im a (aY s b.v) b.s with
  |none=>rw[dX]at af e9;simp only at af;rw[<-af];simp only[ig]at e9;(with_reducible repeat' first|refine aj ?_|refine aA (jF _) ?_|refine aB (jF _) ?_|refine aA e9 ?_|refine aB e9 ?_|simp[cD,hi]);simp[bk,N9,aU,aW,aT];simp[ig]
  |some bn=>rw[dX]at af e9;simp only[ig]at e9;(with_reducible repeat' first|refine aj ?_|refine aA (jF _) ?_|refine aB (jF _) ?_|refine aA e9 ?_|refine aB e9 ?_|simp[cD,hi]);exact bP.rng bn hi ⟨FO bm (BZ ag pj.1) pj.2 dX,Cx DH LI dX,af⟩ bT
end
section
open Go Go.Pv Go.Lib
def cH(d:List ai):ak:= .slice 5 .no (d.map ai.e)
@[simp]theorem ats(S:aM->Prop)(d:List ai):aJ S (cH d)=True:=by simp[cH]
@[simp]theorem arM(d:List ai):cells (cH d)=[cH d]:=rfl
@[simp]theorem auI(d:List ai):eR (cH d)=true:=rfl
@[simp]theorem au3(d:List ai):eb (cH d)=cH d:=by simp[cH]
theorem Te:∀(S:aM->Prop) (x:List ai),aJ S (cH x):=fun S x=>by simp
theorem MY(S:aM->Prop):∀l:List (List ai),aN S (l.map cH)
 |[]=>by simp[aN]
 |x::xs=>by simp[aN,MY S xs]
@[simp]theorem WG(S:aM->Prop)(l:List (List ai)):aN S (l.map cH)=True:=eq_true (MY S l)
@[simp]theorem Pl:∀l:List (List ai),c7 (l.map cH)=l.map cH
 |[]=>rfl
 |x::xs=>by simp[c7,Pl xs]
def l2(d:List dL):ak:= .slice 5 .no (d.map dL.e)
@[simp]theorem arN(d:List dL):cells (l2 d)=[l2 d]:=rfl
@[simp]theorem auJ(d:List dL):eR (l2 d)=true:=rfl
theorem KJ(d:List ai):l2 (d.map ai.b)=cH d:=by simp only[l2,cH,qU]
theorem KK(l:List (List ai)):(l.map fun d=>d.map ai.b).map l2=l.map cH:=by rw[List.map_map];exact List.map_congr_left fun d _=>KJ d
@[simp]theorem att(S:aM->Prop)(d:List dL):aJ S (l2 d)=True:=by simp[l2]
@[simp]theorem au4(d:List dL):eb (l2 d)=l2 d:=by simp[l2]
theorem WH(S:aM->Prop):∀l:List (List dL),aN S (l.map l2)
 |[]=>by simp[aN]
 |x::xs=>by simp[aN,WH S xs]
@[simp]theorem ato(S:aM->Prop)(l:List (List dL)):aN S (l.map l2)=True:=eq_true (WH S l)
abbrev uV(l:List (List ai)):cR:=dW cH 821 822 23 1 l
theorem JI(l:List (List ai)):dM (uV l):=xZ Te l
theorem agw(l:List (List ai))(av:l.length<=68719476736)(i j:Nat)(x y:List ai)(hi:l[i]? =some x)(af:l[j]? =some y):bI ax 203 [.int .i64 i,.int .i64 j,.ptr (.obj 822) 0] (uV l) fun r ah=>r= .bool (h4 ez x y)/\ah=uV l:=by have ag:=JI l;obtain⟨ln,hV⟩:=eS.1 hi;obtain⟨dF,lq⟩:=eS.1 af;have aP:bQ ax 204 [cH x,cH y] (.int .i64 (ez x y)):=Jw x y;unfold uV dW at ag⊢;refine bI.mk mixed xM aem alo Ψ ag.obj fun aR cI=>?_;unfold Q2;simp[ln,dF,hV,lq];(with_reducible repeat' first|refine aj ?_|refine aA aP ?_|refine aB aP ?_|simp[ln,dF,hV,lq]);refine cP.at _ (.inl rfl) ag (Same.refl _) aL aL ?_;simp[cW,Yk,aU,aW,aT,h4]
noncomputable def Tryz.dsT:TypeInfo:=(ax.info? 24).get bf
noncomputable def Tryz.dsE:TypeInfo:=(ax.info? 23).get bf
theorem Tryz.dsK(n:Nat)(U:2<=n):Lib.swapperK n Tryz.dsE 23=9:=by
 have a:Tryz.dsE.hasPointers=true:=by kernel_rfl
 have b:Tryz.dsE.bytes=24:=by kernel_rfl
 have c:(n==0)=false:=by simp;omega
 have d:(n==1)=false:=by simp;omega
 simp[Lib.swapperK,a,b,c,d]
theorem ag5(l:List (List ai))(av:l.length<=68719476736):bI ax 202 [.iface 24 (.row 1 (.obj 821) l.length),.func 203 [.ptr (.obj 822) 0]] (uV l) fun r ah=>r= .tuple []/\ah=uV (oR ez l):=by
 refine(agz Te (K:=821) (B:=822) (sz:=1) 24 Tryz.dsT Tryz.dsE bf bf bf bf 23 (fun _=>by kernel_rfl) Tryz.dsK 203 (h4 ez) ly.ltOk l av (fun a8 h i j x y hi af=>agw a8 Ω i j x y hi af) (fun a8 h i j hi af=>?_)).mono ?_
 ·have:=Ul (P:=ax) false 257 (fun args W=>run_callFunc_extern Tryz.func257 bf bf bf (e:=Fw false) bf args W)
   23 Tryz.dsE bf (.inr ⟨by kernel_rfl,fun _=>by kernel_rfl⟩) (JI a8) (K:=821) (n:=l.length) (el:=23) (sz:=1) bf (xs:=a8.map cH) (by simp[dW,Pv.look,h]) i j hi af
  refine this.mono ?_;rintro r ah ⟨rfl,rfl⟩;refine⟨rfl,?_⟩;simp[dW,cF,WX,h]
 ·rintro r ah ⟨rfl,a8,rfl,J,U⟩;exact⟨rfl,by rw[ZQ ly J U]⟩
end
section
open Go Go.Pv
theorem Bg{α:Type}{s:List α}{i:Nat}{t:α}(h:s[i]? =some t):s.drop i=t::s.drop (i+1):=by obtain⟨hi,e⟩:=eS.1 h;rw[k8 hi,e]
def qW(L:List (List ai))(a:List (List ai))(e:List ai):List (List ai):=if iI L e=true then kC ez e a else a
theorem Nt{L:List (List ai)}:∀(xs:List (List ai)) {a:List (List ai)},gT ez a->gT ez (xs.foldl (qW L) a)
 |[],_,h=>h
 |x::xs,a,h=>Nt xs (a:=qW L a x) (by unfold qW;split<;>first|exact MD ly h|exact h)
theorem Xm{L:List (List ai)}{x:List ai}:∀(xs:List (List ai)) {a:List (List ai)},x∈xs.foldl (qW L) a↔x∈a\/(x∈xs/\iI L x=true)
 |[],a=>by simp
 |y::xs,a=>by
  rw[List.foldl_cons,Xm xs,e7];unfold qW;by_cases ae:iI L y=true
  ·rw[if_pos ae,H4 ly];constructor
   ·rintro((rfl|h)|h)
    ·exact .inr ⟨.inl rfl,ae⟩
    ·exact .inl h
    ·exact .inr ⟨.inr h.1,h.2⟩
   ·rintro(h|⟨rfl|J,U⟩)
    ·exact .inl (.inr h)
    ·exact .inl (.inl rfl)
    ·exact .inr ⟨J,U⟩
  ·rw[if_neg ae];constructor
   ·rintro(h|h)
    ·exact .inl h
    ·exact .inr ⟨.inr h.1,h.2⟩
   ·rintro(h|⟨rfl|J,U⟩)
    ·exact .inl h
    ·exact absurd U ae
    ·exact .inr ⟨J,U⟩
theorem Xl{L:List (List ai)}:∀(xs a:List (List ai)),(xs.foldl (qW L) a).length<=a.length+xs.length
 |[],a=>by simp
 |y::xs,a=>by
  have J:=Xl (L:=L) xs (qW L a y);have U:(qW L a y).length<=a.length+1:=by
   unfold qW;split
   ·exact MF _ _
   ·omega
  simp only[List.foldl_cons,oj];omega
theorem akS(L:List (List ai)):j4 L=L.foldl (qW L) []:=Xi (Nt L (by simp[gT])) fun x=>by rw[Xm];simp
def yO(L:List (List ai))(i:Nat)(a:List (List ai)):Prop:=a=(L.take i).foldl (qW L) []
theorem yO.step{L:List (List ai)}{i:Nat}{a:List (List ai)}(h:yO L i a){e:List ai}(he:L[i]? =some e):yO L (i+1) (qW L a e):=by rw[yO,mP he,List.foldl_append,h];rfl
def xa(e d:List ai):Bool:=decide (d=e)|| !km d e
def qO(L:List (List ai))(e:List ai)(j:Nat)(k:Bool):Prop:=k=(L.take j).all (xa e)
theorem qO.step{L:List (List ai)}{e:List ai}{j:Nat}{k:Bool}(h:qO L e j k){d:List ai}(aF:L[j]? =some d):qO L e (j+1) (k&&xa e d):=by rw[qO,mP aF,List.all_append,h];simp
def HF(a:List (List ai))(e:List ai)(k:Nat):Prop:=k<=a.length/\∀c,a[k]? =some c->0<=ez c e
theorem HF.fin{a:List (List ai)}{e:List ai}{k:Nat}(h:HF a e k)(bm:gT ez a)(ar:∀d,0<k->a[k-1]? =some d->ez d e<0):kC ez e a=if(match a[k]? with|some y=>decide (ez y e=0)|none=>false)=true then a else a.take k++e::a.drop k:=
 (ME ly e a k (fun i c hi iv=>by
  have ae:=h.1;obtain⟨d,aF⟩:∃d,a[k-1]? =some d:=⟨_,bY Ω⟩;have J:=ar d Ω aF;rcases Nat.lt_or_ge i (k-1)with U|U
  ·have ua:=(eS.1 iv);have nk:=(eS.1 aF);have:=o2.1 bm i (k-1) ua.1 nk.1 U;rw[ua.2,nk.2]at this;exact ly.ltr this Ω
  ·have:i=k-1:=Ω
   subst this;rw[aF]at iv;cases iv;exact J) h.2 h.1).trans (by cases a[k]?<;>rfl)
theorem Wr(L:List (List ai))(e:List ai):iI L e=L.all (xa e):=rfl
theorem ZP{l:List (List ai)}{x:List ai}:x∈oR ez l↔x∈l:=(xA ez l).mem_iff
theorem akR(l:List (List ai)):j4 l=(cN none (oR ez l)).filter (iI (oR ez l)):=by have h:iI l=iI (oR ez l):=funext fun e=>aj2 (fun x=>ZP.symm) e;rw[j4,h];rfl
def nq(s:List (List ai))(i:Nat)(acc:List (List ai)):Prop:=acc++(cN (if i=0 then none else s[i-1]?) (s.drop i)).filter (iI s)=(cN none s).filter (iI s)
def hs:bK:=⟨0,[],[],[],[]⟩
noncomputable def th(s:bK):bK:=match fJ s.b s.k []with
 |none=>hs
 |some k=>match fL s.b s.m []with
  |none=>hs
  |some m=>match fu s.b k (m.filter (jO k)) s.d with
   |none=>hs
   |some L=>⟨s.n,s.b,j4 L,k,m.filter (jO k)⟩
theorem O2{s ah:bK}(h:e6 s=some ah):th s=ah:=by
 unfold e6 at h;unfold th;cases J:fJ s.b s.k []with
 |none=>rw[J]at h;cases h
 |some k=>
  rw[J]at h;simp only at h⊢;cases U:fL s.b s.m []with
  |none=>rw[U]at h;cases h
  |some m=>
   rw[U]at h;simp only at h⊢;cases ao:fu s.b k (m.filter (jO k)) s.d with
   |none=>rw[ao]at h;cases h
   |some L=>
    rw[ao]at h;simp only at h⊢;split at h
    ·cases h;rfl
    ·cases h
theorem abB{k:List ca}(ae:hl k)(v:Int):(hN k (.var v) 2).isSome=(lx k v !=some 3):=by
 unfold hN;simp only;cases h:lx k v with
 |none=>simp
 |some x=>have:=(ae.at' _ (D4 h)).2;simp only at this;rcases this with rfl|rfl<;>simp
theorem abJ{k:List ca}(bm:k.Pairwise fun x y=>x.v<y.v)(v:Int):(k.any fun x=>x.v==v&&x.k==3)=(lx k v==some 3):=by
 rw[q4,List.any_eq_true,dQ];constructor
 ·rintro⟨x,ad,h⟩;simp only[cr,dQ]at h;have:=HO bm ad;rw[h.1,h.2]at this;exact this
 ·intro h;exact⟨_,D4 h,Ψ⟩
theorem M2{b:List ai}{k:List ca}{m:List bs}{d:List ai}{r:List (List ai)}(h:mgu b (ga d)=none):fu b k m (d::r)=fu b k m r:=by rw[fu,h]
theorem M1{b:List ai}{k:List ca}{m:List bs}{d x:List ai}{r:List (List ai)}(h:mgu b (ga d)=some x)(ae:fJ x k []=none\/fL x m []=none):fu b k m (d::r)=fu b k m r:=by rw[fu,h];simp only[if_pos ae]
theorem M0{b:List ai}{k:List ca}{m:List bs}{d x:List ai}{r:List (List ai)}(h:mgu b (ga d)=some x)(ae:¬(fJ x k []=none\/fL x m []=none))(au:dN b x=[]):fu b k m (d::r)=none:=by rw[fu,h];simp only[if_neg ae,if_pos au]
theorem M3{b:List ai}{k:List ca}{m:List bs}{d x:List ai}{r:List (List ai)}(h:mgu b (ga d)=some x)(ae:¬(fJ x k []=none\/fL x m []=none))(au:dN b x≠[]):fu b k m (d::r)=(fu b k m r).map (dN b x:: ·):=by rw[fu,h];simp only[if_neg ae,if_neg au]
def qP(b:List ai)(k:List ca)(m:List bs)(D:List (List ai))(i:Nat)(a:List (List ai)):Prop:=a.length<=i/\(∀x∈a,ek x)/\(fu b k m (D.drop i)).map (a++ ·)=fu b k m D
def ec(n:Int):T->Bool
 | .var v=>decide (v<n)
 | .pair a b=>ec n a&&ec n b
 |_=>true
theorem sc{n:Int}:∀{t:T},ec n t=true↔wj t n
 | .var v=>by simp[ec,wj,T.occ]
 | .pair a b=>by simp only[ec,cr,sc (t:=a),sc (t:=b),wj,T.occ,k6];exact⟨fun h v ay=>ay.elim (h.1 v) (h.2 v),fun h=>⟨fun v ay=>h v (.inl ay),fun v ay=>h v (.inr ay)⟩⟩
 | .nil=>by simp[ec,wj,T.occ]
 | .sym _=>by simp[ec,wj,T.occ]
 | .num _=>by simp[ec,wj,T.occ]
def lf(n:Int)(b:ai):Bool:=decide (b.v<n)&&ec n b.t
theorem wm{n:Int}{s:List ai}:s.all (lf n)=true↔ox s n:=by simp[fy,lf,ox,sc]
def r2(v m:Int):Int:=if m<v+1 then v+1 else m
theorem Jy{n:Int}:∀(t:T) (m:Int),t.fold r2 m<=n↔m<=n/\ec n t=true
 | .var v,m=>by simp only[T.fold,r2,ec,en];split<;>omega
 | .pair a b,m=>by simp only[T.fold,Jy b,Jy a,ec,cr,and_assoc]
 | .nil,m=>by simp[T.fold,ec]
 | .sym _,m=>by simp[T.fold,ec]
 | .num _,m=>by simp[T.fold,ec]
def Fo(v m:Int):Option Int:=if 0<=v/\v<=100000 then some (r2 v m)else none
theorem PS:∀(t:T) (m:Int),t.ok=true->t.foldO Fo m=some (t.fold r2 m)
 | .var v,m,h=>by
  have:0<=v/\v<=100000:=by simpa[T.ok]using h
  simp[T.foldO,T.fold,Fo,this]
 | .pair a b,m,h=>by
  have J:a.ok=true/\b.ok=true:=by simpa[T.ok]using h
  simp[T.foldO,T.fold,PS a m J.1,PS b _ J.2]
 | .nil,m,_=>rfl
 | .sym _,m,_=>rfl
 | .num _,m,_=>rfl
theorem nq.fst{s:List (List ai)}{t:List ai}{acc:List (List ai)}(h:nq s 0 acc)(aH:s[0]? =some t):nq s 1 (if iI s t=true then acc++[t]else acc):=by
 unfold nq at*;rw[Bg aH]at h;have e:(if(1:Nat)=0 then none else s[1-1]?)=some t:=by simpa using aH
 have cd:acc++(t::cN (some t) (s.drop 1)).filter (iI s)=(cN none s).filter (iI s):=by rw[<-h];simp[cN]
 rw[e,<-cd];by_cases ae:iI s t=true<;>simp[ae]
theorem nq.eq{s:List (List ai)}{i:Nat}{t:List ai}{acc:List (List ai)}(h:nq s i acc)(hi:i≠0)(bD:s[i-1]? =some t)(aH:s[i]? =some t):nq s (i+1) acc:=by
 unfold nq at*;rw[if_neg hi,bD,Bg aH]at h;have e:(if i+1=0 then none else s[i+1-1]?)=some t:=by rw[if_neg Ω];exact aH
 rw[e,<-h];simp[cN]
theorem nq.ne{s:List (List ai)}{i:Nat}{p t:List ai}{acc:List (List ai)}(h:nq s i acc)(hi:i≠0)(bD:s[i-1]? =some p)(aH:s[i]? =some t)(au:¬p=t):nq s (i+1) (if iI s t=true then acc++[t]else acc):=by
 unfold nq at*;rw[if_neg hi,bD,Bg aH]at h;have e:(if i+1=0 then none else s[i+1-1]?)=some t:=by rw[if_neg Ω];exact aH
 have aF:cN (some p) (t::s.drop (i+1))=t::cN (some t) (s.drop (i+1)):=by simp[cN,au]
 rw[aF]at h;rw[e,<-h];by_cases ae:iI s t=true<;>simp[ae]
theorem apc(l:List (List ai)):(oR ez l).length=l.length:=(xA ez l).length_eq
theorem yR(S:aM->Prop)(l:List (List ai))(d:List ai):aN S (l.map cH++[cH d])=True:=by have:=MY S (l++[d]);rw[r6]at this;exact eq_true this
theorem apY(l:List (List ai))(gU:∀d∈l,ek d):bQ ax 124 [.slice 1 .no (l.map cH)] (.slice 1 .no ((j4 l).map cH)):=by
 generalize bA:j4 l=R;rw[akR]at bA;refine bj xM ael aln fun aR=>?_;unfold Q1;have h1:l.length<=68719476736:=by simp[gI,fZ,gz,lim]at aR;omega
 simp;refine dT [0,12,13] (fun i (_:Unit)=>[(14,.int .i64 i)]) l.length (fun _ _=>True) () bT trivial (fun _ _ _=>?_) (fun i _ hi _ _=>?_);rotate_left
 ·obtain⟨e,he,LM⟩:=ej hi;have c9:bQ ax 55 [cH e] (.bool true):=oW (gU e (dP he));exact gX
 simp;(with_reducible repeat' first|refine aj ?_|simp);all_goals first|(refine⟨by unfold lim;omega,?_⟩)|skip
 all_goals(with_reducible repeat' first|refine aj ?_|simp)
 refine cO.ob (ag5 l h1) (JI l) (by unfold uV dW;exact aL) (by unfold uV dW;exact aL) (by simp[inObs,dW,Pv.look]) ?_;rintro r ah ⟨rfl,rfl⟩;refine⟨x0 _ _,?_⟩;obtain⟨s,DG⟩:∃s,s=oR ez l:=⟨_,rfl⟩;have qL:s.length=l.length:=by rw[DG];exact apc l
 have ag:∀d∈s,ek d:=fun d aF=>gU d (by rw[DG,ZP]at aF;exact aF);rw[<-DG]at bA;rw[<-DG];clear DG;simp[uV,dW,cb];refine h0 (fun i (acc:List (List ai))=>⟨[(5,.ptr (.obj 822) 0),(6,.slice 1 (.own (.loc 0)) (acc.map cH)),(30,.row 1 (.obj 821) s.length),(31,.int .i64 s.length),(32,.int .i64 i)],[(.obj 822,[.row 1 (.obj 821) s.length])],[(.loc 0,⟨acc.length,23,1,none⟩),(.obj 821,⟨s.length,23,1,some (s.map cH)⟩)],1,[.obj 821,.obj 822]⟩) s.length (fun i acc=>acc.length<=i/\nq s i acc) [] bT ⟨Ψ,by simp[nq]⟩ (fun acc af _=>?_) (fun i acc hi af _=>?_)
 ·have af:=af.2;rw[nq,List.drop_length]at af;have:acc=R:=by rw[<-bA];simpa[cN]using af
  subst this;exact cp
 ·obtain⟨asz,af⟩:=af;have qd:acc.length<=68719476735:=Ω
  obtain⟨t,lu,aH⟩:=ej hi;have dh:=ag t (dP lu);have iU:bQ ax 119 [cH t] (cH t):=Fh t dh.len;have h2:(if iI s t=true then acc++[t]else acc).length<=acc.length+1:=by split<;>simp
  rcases Nat.eq_zero_or_pos i with rfl|eW
  ·have Vk:=af.fst lu;have fA:(if iI s t=true then acc++[t]else acc).length<=0+1/\nq s (0+1) (if iI s t=true then acc++[t]else acc):=⟨gS h2 Ω,Vk⟩;clear af Vk lu;simp[hi,aH];(with_reducible repeat' first|refine aj ?_|simp[hi,aH]);refine dT [5,6,8,30,31,32,49,50] (fun j (b:Bool)=>[(9,.bool b),(51,.int .i64 j)]) s.length (qO s t) true bT (by simp[qO]) (fun keep af _=>?_) (fun j keep dF af _=>?_)
   ·rw[qO,k9,<-Wr]at af;rw[<-af]at fA;clear af;cases keep with
    |false=>simp only[gZ,if_false]at fA;simp;((with_reducible repeat' first|refine aj ?_|simp|((first|apply bL|apply bN|apply bM)<;>intro h<;>try simp at h))<;>(try exact cm));all_goals exact bP.rng acc hi fA bT
    |true=>
     simp only[if_true]at fA;clear h2;simp;((with_reducible repeat' first|refine aj ?_|refine aA iU ?_|refine aB iU ?_|simp|((first|apply bL|apply bN|apply bM)<;>intro h<;>try simp at h))<;>(try exact cm));all_goals first|(refine⟨by unfold lim;omega,?_⟩)|skip
     all_goals(with_reducible repeat' first|refine aj ?_|simp)
     all_goals exact bP.rng (acc++[t]) hi fA ⟨by simp[fresh,aN,aJ,cz,inObs,Pv.look,yR],eD (by simp[fresh,aN,aJ,cz,inObs,Pv.look,yR]),eE (by simp[fresh,aN,aJ,eg,inObs,Pv.look,yR]),Ψ⟩
   ·obtain⟨d,aF,hdi⟩:=ej dF;have au:=af.step aF;have iG:=ag d (dP aF);have ef:bQ ax 205 [cH d,cH t] (.bool (km d t)):=aaJ d iG.len dh;have pG:bQ ax 204 [cH d,cH t] (.int .i64 (ez d t)):=Jw d t;clear af aF fA;by_cases q:ez d t=0
    ·rw[xa,gx ((ly.zero _ _).1 q),Bool.true_or,Bool.and_true]at au;rw[q]at pG;simp[dF,hdi];((with_reducible repeat' first|refine aj ?_|refine aA pG ?_|refine aB pG ?_|simp[dF,hdi]|((first|apply bL|apply bN|apply bM)<;>intro h<;>try simp at h))<;>(try exact cm));all_goals exact bP.rng keep dF au bT
    ·rw[xa,h6 (fun h=>q ((ly.zero _ _).2 h)),Bool.false_or]at au;have fX:(ez d t !=0)=true:=by simp[q]
     cases aX:km d t
     ·rw[aX]at au ef;simp only[Bool.not_false,Bool.and_true]at au;simp[dF,hdi];((with_reducible repeat' first|refine aj ?_|refine aA pG ?_|refine aB pG ?_|refine aA ef ?_|refine aB ef ?_|simp[dF,hdi,q,fX]|((first|apply bL|apply bN|apply bM)<;>intro h<;>try simp at h))<;>(try exact cm));all_goals exact bP.rng keep dF au bT
     ·rw[aX]at au ef;simp only[Bool.not_true,Bool.and_false]at au;simp[dF,hdi];((with_reducible repeat' first|refine aj ?_|refine aA pG ?_|refine aB pG ?_|refine aA ef ?_|refine aB ef ?_|simp[dF,hdi,q,fX]|((first|apply bL|apply bN|apply bM)<;>intro h<;>try simp at h))<;>(try exact cm));all_goals exact bP.rng false dF au bT
  ·obtain⟨p,AU⟩:∃p,s[i-1]? =some p:=⟨_,bY Ω⟩;have aq:((i:Int)-1).toNat=i-1:=Ω
   have aG:∀h,(s[i-1]'h)=p:=fun h=>by rw[bY h]at AU;exact eH AU
   have bG:¬i=0:=Ω
   have di:i-1<s.length:=Ω
   have jg:(0:Int)<i:=Ω
   have hl:bQ ax 204 [cH p,cH t] (.int .i64 (ez p t)):=Jw p t;by_cases Hh:p=t
   ·have fA:acc.length<=i+1/\nq s (i+1) acc:=⟨Ω,af.eq bG (by rw[AU,Hh]) lu⟩;rw[(ly.zero _ _).2 Hh]at hl;clear af lu AU;simp[hi,aH,aq,aG,di,jg];((with_reducible repeat' first|refine aj ?_|refine aA hl ?_|refine aB hl ?_|simp[hi,aH,aq,aG,di,eW,jg]|((first|apply bL|apply bN|apply bM)<;>intro h<;>try simp at h))<;>(try exact cm));all_goals exact bP.rng acc hi fA bT
   ·have fA:(if iI s t=true then acc++[t]else acc).length<=i+1/\nq s (i+1) (if iI s t=true then acc++[t]else acc):=⟨gS h2 Ω,af.ne bG AU lu Hh⟩;have pJ:¬ez p t=0:=fun h=>Hh ((ly.zero _ _).1 h);have Yb:(ez p t==0)=false:=by simp[pJ]
    clear af lu AU;simp[hi,aH,aq,aG,di,jg];((with_reducible repeat' first|refine aj ?_|refine aA hl ?_|refine aB hl ?_|simp[hi,aH,aq,aG,di,eW,jg,pJ,Yb]|((first|apply bL|apply bN|apply bM)<;>intro h<;>try simp at h))<;>(try exact cm));refine dT [5,6,8,30,31,32,49,50] (fun j (b:Bool)=>[(9,.bool b),(51,.int .i64 j)]) s.length (qO s t) true bT (by simp[qO]) (fun keep af _=>?_) (fun j keep dF af _=>?_)
    ·rw[qO,k9,<-Wr]at af;rw[<-af]at fA;clear af;cases keep with
     |false=>simp only[gZ,if_false]at fA;simp;((with_reducible repeat' first|refine aj ?_|simp|((first|apply bL|apply bN|apply bM)<;>intro h<;>try simp at h))<;>(try exact cm));all_goals exact bP.rng acc hi fA bT
     |true=>
      simp only[if_true]at fA;clear h2;simp;(with_reducible repeat' first|refine aj ?_|refine aA iU ?_|refine aB iU ?_|simp);all_goals first|(refine⟨by unfold lim;omega,?_⟩)|skip
      all_goals(with_reducible repeat' first|refine aj ?_|simp)
      all_goals exact bP.rng (acc++[t]) hi fA ⟨by simp[fresh,aN,aJ,cz,inObs,Pv.look,yR],eD (by simp[fresh,aN,aJ,cz,inObs,Pv.look,yR]),eE (by simp[fresh,aN,aJ,eg,inObs,Pv.look,yR]),Ψ⟩
    ·obtain⟨d,aF,hdi⟩:=ej dF;have au:=af.step aF;have iG:=ag d (dP aF);have ef:bQ ax 205 [cH d,cH t] (.bool (km d t)):=aaJ d iG.len dh;have pG:bQ ax 204 [cH d,cH t] (.int .i64 (ez d t)):=Jw d t;clear af aF fA;by_cases q:ez d t=0
     ·rw[xa,gx ((ly.zero _ _).1 q),Bool.true_or,Bool.and_true]at au;rw[q]at pG;simp[dF,hdi];((with_reducible repeat' first|refine aj ?_|refine aA pG ?_|refine aB pG ?_|simp[dF,hdi]|((first|apply bL|apply bN|apply bM)<;>intro h<;>try simp at h))<;>(try exact cm));all_goals exact bP.rng keep dF au bT
     ·rw[xa,h6 (fun h=>q ((ly.zero _ _).2 h)),Bool.false_or]at au;have fX:(ez d t !=0)=true:=by simp[q]
      cases aX:km d t
      ·rw[aX]at au ef;simp only[Bool.not_false,Bool.and_true]at au;simp[dF,hdi];((with_reducible repeat' first|refine aj ?_|refine aA pG ?_|refine aB pG ?_|refine aA ef ?_|refine aB ef ?_|simp[dF,hdi,q,fX]|((first|apply bL|apply bN|apply bM)<;>intro h<;>try simp at h))<;>(try exact cm));all_goals exact bP.rng keep dF au bT
      ·rw[aX]at au ef;simp only[Bool.not_true,Bool.and_false]at au;simp[dF,hdi];((with_reducible repeat' first|refine aj ?_|refine aA pG ?_|refine aB pG ?_|refine aA ef ?_|refine aB ef ?_|simp[dF,hdi,q,fX]|((first|apply bL|apply bN|apply bM)<;>intro h<;>try simp at h))<;>(try exact cm));all_goals exact bP.rng false dF au bT
theorem aqK(l:List T)(h:∀t∈l,t.fit=true):bQ ax 68 [.slice 4 .no (l.map T.e)] (.bool true):=by
 refine bj fN TM XM fun aR=>?_;unfold Kl;have h1:l.length<=68719476736:=by simp[gI,fZ,gz,lim]at aR;omega
 simp;refine dT [5,6] (fun i (_:Unit)=>[(7,.int .i64 i)]) l.length (fun _ _=>True) () bT trivial (fun _ _ _=>?_) (fun i _ hi _ _=>?_)
 ·exact cp
 ·obtain⟨t,aH,lu⟩:=ej hi;have dq:=xN (h t (dP aH));clear aH;exact gX
def iZ(m:Int):cR:=⟨[(.obj 831,[.int .i64 m])],[]⟩
theorem wi(m:Int):dM (iZ m):=by unfold iZ;exact dM.of ⟨by intro m;simp[Pv.look],by intro m;simp[Pv.look]⟩ Ψ Ψ
theorem abr(a b:Int):Same (iZ a) (iZ b):=Same.keys (by simp[iZ]) (by simp[iZ])
theorem agB(v m ic:Int)(h:Fo v m=some ic):bI ax 193 [.int .i64 v,.ptr (.obj 831) 0] (iZ m) fun r ah=>r= .tuple []/\ah=iZ ic:=by
 unfold Fo at h;split at h;rotate_left
 ·cases h
 rename_i ay;cases h;have ag:=wi m;simp only[iZ]at ag⊢;by_cases hm:m<v+1
 ·rw[r2,if_pos hm];refine bI.mk mixed xM TH XH Ψ ag.obj fun aR cI=>?_;unfold Kg;simp;(with_reducible repeat' first|refine aj ?_|simp[hm]);(refine cP.at (iZ (v+1)) Ψ (by first|exact wi _|exact wi ‹_› _) (Same.keys (by simp[iZ]) (by simp[iZ])) d6 d6 ?_;simp[cW,Oc,aU,aW,aT,inObs,Pv.look,iZ])
 ·rw[r2,if_neg hm];refine bI.mk mixed xM TH XH Ψ ag.obj fun aR cI=>?_;unfold Kg;simp;(with_reducible repeat' first|refine aj ?_|simp[hm]);(refine cP.at (iZ m) Ψ (by first|exact wi _|exact wi ‹_› _) (Same.keys (by simp[iZ]) (by simp[iZ])) d6 d6 ?_;simp[cW,Oc,aU,aW,aT,inObs,Pv.look,iZ])
def xQ(l:List T):Int:=l.foldl (fun m t=>t.fold r2 m) 0
def HG(l:List T)(i:Nat)(m:Int):Prop:=m=xQ (l.take i)
theorem aao(l:List T)(h:∀t∈l,t.fit=true):bQ ax 116 [.slice 4 .no (l.map T.e)] (.int .i64 (xQ l)):=by
 have dq:=aqK l h;generalize bA:xQ l=R;refine bj xM aet alw fun aR=>?_;unfold Q9;have h1:l.length<=68719476736:=by simp[gI,fZ,gz,lim]at aR;omega
 simp;(with_reducible repeat' first|refine aj ?_|refine aA dq ?_|refine aB dq ?_|simp);refine h0 (fun i (m:Int)=>⟨[(3,.ptr (.obj 831) 0),(9,.slice 4 .no (l.map T.e)),(10,.int .i64 l.length),(11,.int .i64 i)],[(.obj 831,[.int .i64 m])],[],0,[.obj 831]⟩) l.length (HG l) 0 bT rfl (fun m af _=>?_) (fun i m hi af _=>?_)
 ·rw[HG,k9,bA]at af;subst af;exact cp
 ·obtain⟨t,aH,lu⟩:=ej hi;have ahY:t.ok=true:=by have:=h t (dP aH);simp only[T.fit,cr]at this;exact this.1
  have au:HG l (i+1) (t.fold r2 m):=by rw[HG,mP aH,xQ,List.foldl_append,af];rfl
  have key:=Lp iZ wi abr 193 [.ptr (.obj 831) 0] (fun a=>by simp[iZ,inObs,Pv.look]) Ψ Fo (fun v a bn h=>agB v a bn h) t m _ (PS t m ahY);clear af aH;simp[hi,lu];(with_reducible repeat' first|refine aj ?_|simp[lu,hi]);(refine cO.ob (key) (by first|exact wi _|exact wi ‹_› _) d6 d6 (by simp[inObs,Pv.look,iZ]) ?_;rintro r ah ⟨rfl,rfl⟩;refine⟨(Same.keys (by simp[iZ]) (by simp[iZ])),?_⟩;simp[cb,iZ]);(with_reducible repeat' first|refine aj ?_|simp);refine bP.rng (t.fold r2 m) hi au ?_;exact bT
theorem aap{s:List ai}(ag:ek s){n:Int}(au:0<=n):bQ ax 58 [.slice 5 .no (s.map ai.e),.int .i64 n] (.bool (s.all (lf n))):=by
 have qL:=ag.len;generalize bA:s.all (lf n)=R;refine bj xM aev aly fun aR=>?_;unfold Rb;simp;refine dT [1,7,8] (fun i (_:Unit)=>[(9,.int .i64 i)]) s.length (kD (lf n) s) () bT (fun k b ae=>Ω) (fun _ af _=>?_) (fun i _ hi af _=>?_)
 ·have:R=true:=by rw[<-bA,fy];intro b ab;obtain⟨k,ae,e⟩:=oi ab;exact af k b ae (by rw[bY ae,e])
  rw[this];exact cp
 ·obtain⟨b,ay,fV⟩:=ej hi;have e8:lf n b=false->R=false:=fun h=>by rw[<-bA,Bool.eq_false_iff];intro cd;rw[fy]at cd;rw[cd b (dP ay)]at h;cases h
  have j3:=aao [b.t] (fun t aH=>by simp at aH;subst aH;exact ag.fit b (dP ay));have hle:=Jy (n:=n) b.t 0;rw[show xQ [b.t]=b.t.fold r2 0 from rfl]at j3;simp only[ht,oo]at j3;generalize b.t.fold r2 0=m at j3 hle;by_cases J:b.v<n
  ·have oC:¬n<=b.v:=Ω
   cases U:ec n b.t
   ·have ao:n<m:=by rw[U]at hle;simp at hle;omega
    rw[e8 (by simp[lf,U])];clear af ay hle;exact cp
   ·have ao:¬n<m:=by rw[U]at hle;simp[au]at hle;omega
    have kA:=af.step ay (by simp[lf,J,U]);clear af ay hle;exact gX
  ·have oC:n<=b.v:=Ω
   rw[e8 (by simp[lf,J])];clear af ay hle;exact cp
def wo:C:=(aa [cU 1 0,bh 2 false] (.seq (aa [aI 11 0 1 1,az 12 1 11,aS 13 .lss 12 0,I 14 13,al 14 false (aI 15 0 1 1),al 14 false (az 16 1 15),al 14 false (aS 17 .gtr 16 100000),cV 18 14 17,I 19 18,al 19 false (aI 20 1 1 1),al 19 false (az 21 1 20),al 19 false (cG 22 55 21),al 19 false (cx 23 22),cV 24 19 23,I 25 24,al 25 false (aI 26 3 1 1),al 25 false (az 27 1 26),al 25 false (cG 28 56 27),al 25 false (cx 29 28),cV 30 25 29,I 31 30,al 31 false (aI 32 4 1 1),al 31 false (az 33 1 32),al 31 false (cG 34 57 33),al 31 false (cx 35 34),cV 36 31 35,I 37 36,al 37 false (aI 38 1 1 1),al 37 false (az 39 1 38),al 37 false (aI 40 0 1 1),al 37 false (az 41 1 40),al 37 false (b5 42 58 39 41),al 37 false (cx 43 42),cV 44 37 43] (aZ 44 (aa [bh 2 false] .ret) .skip)) (.seq (aa [aI 45 2 1 1,az 46 1 45,ct 47 46,b6 48 0] (eZ 49 48 47 (.seq (.block 1 (aa [cw 50 1 46 48,az 51 1 50,I 4 51] (aa [I 52 4,cG 53 55 52,cx 54 53,I 55 54,bO 55 false 56 4,al 55 false (aI 57 0 1 1),al 55 false (az 58 1 57),al 55 false (b5 59 58 56 58),al 55 false (cx 60 59),cV 61 55 60] (aZ 61 (aa [bh 2 false] .ret) .skip)))) (.region [aS 62 .add 48 1,I 48 62])))) (.seq (aa [aI 63 3 1 1,az 64 1 63,ct 65 64,b6 66 0] (.block 2 (.loop (aa [bq 67 .lss 66 65] (.seq (aZ 67 .skip (.exit 2)) (.seq (.block 3 (aa [cw 68 2 64 66,aV 69 2 68,cX (.alloc 6 none (.agg [.int .i64 0,.int .i64 0])),bu 2 6 69] (aa [aI 70 0 1 6,az 71 1 70,aI 72 0 1 1,az 73 1 72,bq 74 .geq 71 73] (aZ 74 (aa [bh 2 false] .ret) .skip)))) (.region [aS 75 .add 66 1,I 66 75]))))))) (.seq (aa [aI 76 4 1 1,az 77 1 76,ct 78 77,b6 79 0] (.block 4 (.loop (aa [bq 80 .lss 79 78] (.seq (aZ 80 .skip (.exit 4)) (.seq (.block 5 (aa [cw 81 2 77 79,aV 82 2 81,cX (.alloc 8 none (.agg [.int .i64 0,.str []])),bu 2 8 82] (aa [aI 83 0 1 8,az 84 1 83,aI 85 0 1 1,az 86 1 85,bq 87 .geq 84 86] (aZ 87 (aa [bh 2 false] .ret) .skip)))) (.region [aS 88 .add 79 1,I 79 88]))))))) (aa [aV 90 5 1,cG 91 50 90,I 89 91,cj 92 0 89,cj 93 1 89,cL 9 fW,bu 5 9 92,I 10 93] (aa [I 94 10,I 95 94,al 95 true (aV 96 5 9),al 95 true (aV 97 5 1),al 95 true (b5 98 59 96 97),de 99 95 98,I 2 99] .ret)))))))
@[simp] def anM:List bW:=[.tmp 2]
def Gb:C:=(aa [cU 1 0,cL 2 fW,bh 3 false] (aa [aI 26 1 1 1,az 27 1 26,aI 28 3 1 1,az 29 1 28,b5 30 120 27 29,I 25 30,cj 31 0 25,cj 32 1 25,I 4 31,I 5 32] (aa [aI 34 1 1 1,az 35 1 34,aI 36 4 1 1,az 37 1 36,b5 38 121 35 37,I 33 38,cj 39 0 33,cj 40 1 33,I 6 39,I 7 40] (.seq (aa [I 41 5,cx 42 41,I 43 42,bO 43 false 44 7,al 43 false (cx 45 44),cV 46 43 45] (aZ 46 (aa [gv 47 fW [],bu 5 2 47,bh 3 false] .ret) .skip)) (aa [cX (.mkmap 48 none),I 8 48] (.seq (aa [I 49 4,ct 50 49,b6 51 0] (eZ 52 51 50 (.seq (.block 1 (aa [cw 53 2 49 51,aV 54 2 53,cX (.alloc 10 none (.agg [.int .i64 0,.int .i64 0])),bu 2 10 54] (aa [aI 55 1 1 10,az 56 1 55,aS 57 .eql 56 3] (aZ 57 (.region [I 58 8,aI 59 0 1 10,az 60 1 59,cX (.mput .i (.t 58) (.t 60) (.c (.bool true)))]) .skip)))) (.region [aS 61 .add 51 1,I 51 61])))) (aa [dI 62 2 106 [],I 11 62] (.seq (aa [I 63 6,ct 64 63,b6 65 0] (.block 2 (.loop (aa [bq 66 .lss 65 64] (.seq (aZ 66 .skip (.exit 2)) (.seq (.block 3 (aa [cw 67 2 63 65,aV 68 2 67,cX (.alloc 13 none (.agg [.int .i64 0,.str []])),bu 2 13 68] (aa [I 69 8,aI 70 0 1 13,az 71 1 70,b2 72 (.mget .i (.bool false) false (.t 69) (.t 71)),cx 73 72] (aZ 73 (.region [I 74 11,aV 75 2 13,dI 76 2 106 [.t 75],gf 77 2 106 74 76,I 11 77]) .skip)))) (.region [aS 78 .add 65 1,I 65 78]))))))) (aa [dI 79 1 23 [],I 14 79] (.seq (aa [aI 80 2 1 1,az 81 1 80,ct 82 81,b6 83 0] (.block 4 (.loop (aa [bq 84 .lss 83 82] (.seq (aZ 84 .skip (.exit 4)) (.seq (.block 5 (aa [cw 85 1 81 83,az 86 1 85,I 16 86] (aa [aI 88 1 1 1,az 89 1 88,I 90 16,b5 91 122 89 90,I 87 91,cj 92 0 87,cj 93 1 87,I 17 92,I 18 93] (.seq (aa [I 94 18,cx 95 94] (aZ 95 (.exit 5) .skip)) (aa [I 97 17,I 98 4,b5 99 120 97 98,I 96 99,cj 100 0 96,cj 101 1 96,I 19 100,I 20 101] (aa [I 103 17,I 104 11,b5 105 121 103 104,I 102 105,cj 106 0 102,cj 107 1 102,I 21 106,I 22 107] (.seq (aa [I 108 20,cx 109 108,I 110 109,bO 110 false 111 22,al 110 false (cx 112 111),cV 113 110 112] (aZ 113 (.exit 5) .skip)) (aa [aI 114 1 1 1,az 115 1 114,I 116 17,b5 117 123 115 116,I 23 117] (.seq (aa [I 118 23,ct 119 118,aS 120 .eql 119 0] (aZ 120 (aa [gv 121 fW [],bu 5 2 121,bh 3 false] .ret) .skip)) (.region [I 122 14,I 123 23,dI 124 1 23 [.t 123],gf 125 1 23 122 124,I 14 125])))))))))) (.region [aS 126 .add 83 1,I 83 126]))))))) (aa [I 127 14,cG 128 124 127,I 24 128] (.seq (aa [I 129 24,ct 130 129,aS 131 .gtr 130 30] (aZ 131 (aa [gv 132 fW [],bu 5 2 132,bh 3 false] .ret) .skip)) (.seq (.drawn true 142 [aI 133 0 1 1,az 134 1 133,aI 135 1 1 1,az 136 1 135,cG 137 119 136,I 138 24,I 139 4,I 140 11,gv 141 fW [(0,1,(.t 134)),(1,1,(.t 137)),(2,1,(.t 138)),(3,1,(.t 139)),(4,1,(.t 140))],bu 5 2 141,bh 3 true]) .ret)))))))))))))
@[simp] def BK:List bW:=[.cell 2 true 5,.tmp 3]
def x7:C:=(aa [cU 2 0,cU 3 1,bh 4 false] (.seq (aa [aI 8 0 1 2,az 9 1 8,aI 10 0 1 3,az 11 1 10,bq 12 .neq 9 11,I 13 12,al 13 false (aI 14 1 1 2),al 13 false (az 15 1 14),al 13 false (aI 16 1 1 3),al 13 false (az 17 1 16),al 13 false (b5 18 135 15 17),al 13 false (cx 19 18),cV 20 13 19,I 21 20,al 21 false (aI 22 2 1 2),al 21 false (az 23 1 22),al 21 false (ct 24 23),al 21 false (aI 25 2 1 3),al 21 false (az 26 1 25),al 21 false (ct 27 26),al 21 false (bq 28 .neq 24 27),cV 29 21 28,I 30 29,al 30 false (aI 31 3 1 2),al 30 false (az 32 1 31),al 30 false (ct 33 32),al 30 false (aI 34 3 1 3),al 30 false (az 35 1 34),al 30 false (ct 36 35),al 30 false (bq 37 .neq 33 36),cV 38 30 37,I 39 38,al 39 false (aI 40 4 1 2),al 39 false (az 41 1 40),al 39 false (ct 42 41),al 39 false (aI 43 4 1 3),al 39 false (az 44 1 43),al 39 false (ct 45 44),al 39 false (bq 46 .neq 42 45),cV 47 39 46] (aZ 47 (aa [bh 4 false] .ret) .skip)) (.seq (aa [aI 48 2 1 2,az 49 1 48,ct 50 49,b6 51 0] (eZ 52 51 50 (.seq (.block 1 (aa [I 53 51,I 5 53] (.seq (.drawn true 103 [aI 54 2 1 2,az 55 1 54,I 56 5,cw 57 1 55 56,az 58 1 57,aI 59 2 1 3,az 60 1 59,I 61 5,cw 62 1 60 61,az 63 1 62,b5 64 135 58 63,cx 65 64]) (aZ 65 (aa [bh 4 false] .ret) .skip)))) (.region [aS 66 .add 51 1,I 51 66])))) (.seq (aa [aI 67 3 1 2,az 68 1 67,ct 69 68,b6 70 0] (.block 2 (.loop (aa [bq 71 .lss 70 69] (.seq (aZ 71 .skip (.exit 2)) (.seq (.block 3 (aa [I 72 70,I 6 72] (.seq (.drawn true 103 [aI 73 3 1 2,az 74 1 73,I 75 6,cw 76 2 74 75,aV 77 2 76,aI 78 3 1 3,az 79 1 78,I 80 6,cw 81 2 79 80,aV 82 2 81,b2 83 (.beq true (some [false,false]) (.t 77) (.t 82))]) (aZ 83 (aa [bh 4 false] .ret) .skip)))) (.region [aS 84 .add 70 1,I 70 84]))))))) (.seq (aa [aI 85 4 1 2,az 86 1 85,ct 87 86,b6 88 0] (.block 4 (.loop (aa [bq 89 .lss 88 87] (.seq (aZ 89 .skip (.exit 4)) (.seq (.block 5 (aa [I 90 88,I 7 90] (.seq (.drawn true 103 [aI 91 4 1 2,az 92 1 91,I 93 7,cw 94 2 92 93,aV 95 2 94,aI 96 4 1 3,az 97 1 96,I 98 7,cw 99 2 97 98,aV 100 2 99,b2 101 (.beq true (some [false,true]) (.t 95) (.t 100))]) (aZ 101 (aa [bh 4 false] .ret) .skip)))) (.region [aS 102 .add 88 1,I 88 102]))))))) (aa [bh 4 true] .ret))))))
@[simp] def ID:List bW:=[.tmp 4]
def Jp:List (Nat×dB):=[
 (3,⟨1,8,.int .i64,.int .i64 0⟩),
 (4,⟨1,1,.bool,.bool false⟩),
 (9,⟨1,16,.str,.str []⟩),
 (23,⟨1,24,.slice 61,.slice 5 .nil []⟩),
 (24,⟨1,24,.slice 23,.slice 1 .nil []⟩),
 (25,⟨1,24,.slice 104,.slice 2 .nil []⟩),
 (26,⟨1,24,.slice 106,.slice 2 .nil []⟩),
 (28,⟨5,104,.struct [(0,3),(1,23),(2,24),(3,25),(4,26)],.agg [.int .i64 0,.slice 5 .nil [],.slice 1 .nil [],.slice 2 .nil [],.slice 2 .nil []]⟩),
 (104,⟨2,16,.struct [(0,3),(1,3)],.agg [.int .i64 0,.int .i64 0]⟩),
 (106,⟨2,24,.struct [(0,3),(1,9)],.agg [.int .i64 0,.str []]⟩),
 (154,⟨1,8,.map 3 4,.junk⟩)]
theorem oT:fM ax Jp=true:=by kernel_rfl
theorem y5:b3 Jp wo anM 1 Tryz.f18=true:=by kernel_rfl
theorem x9:ax.funcs[(18:Nat)]? =some Tryz.f18:=Tryz.func18
theorem NS:b3 Jp Gb BK 1 Tryz.f50=true:=by kernel_rfl
theorem K9:ax.funcs[(50:Nat)]? =some Tryz.f50:=Tryz.func50
theorem By:b3 Jp x7 ID 2 Tryz.f59=true:=by kernel_rfl
theorem Al:ax.funcs[(59:Nat)]? =some Tryz.f59:=Tryz.func59
def bK.e(s:bK):ak:= .agg [.int .i64 s.n,.slice 5 .no (s.b.map ai.e),.slice 1 .no (s.d.map cH),.slice 2 .no (s.k.map ca.e),.slice 2 .no (s.m.map bs.e)]
@[simp]theorem atC(S:aM->Prop)(s:bK):aJ S s.e=True:=by simp[bK.e,aJ,aN]
def jk(o:Option bK):ak:= .tuple [(o.getD hs).e,.bool o.isSome]
@[simp]theorem atB(S:aM->Prop)(o:Option bK):aJ S (jk o)=True:=by simp[jk,aJ,aN]
def vx(k:List ca)(i:Nat)(l:List (Int×Bool)):Prop:= ∀v,(tg v l).getD false=(k.take i).any fun x=>x.v==v&&x.k==3
theorem vx.put{k:List ca}{i:Nat}{l:List (Int×Bool)}(h:vx k i l){x:ca}(ad:k[i]? =some x)(ao:x.k=3):vx k (i+1) (e2 x.v true l):=fun v=>by
 rw[oc,mP ad,List.any_append,<-h v];by_cases e:v=x.v
 ·rw[if_pos e];simp[e,ao]
 ·rw[if_neg e];have:(x.v==v)=false:=by simp;exact fun h=>e h.symm
  simp[this]
theorem vx.skip{k:List ca}{i:Nat}{l:List (Int×Bool)}(h:vx k i l){x:ca}(ad:k[i]? =some x)(ao:¬x.k=3):vx k (i+1) l:=fun v=>by
 rw[mP ad,List.any_append,<-h v];have:(x.k==3)=false:=by simp[ao]
 simp[this]
theorem vx.fin{k:List ca}{l:List (Int×Bool)}(h:vx k k.length l)(ae:hl k)(x:bs):(tg x.v l).getD false= !jO k x:=by rw[h x.v,k9,abJ ae.asc,jO,bne,Bool.not_not]
def uk(k:List ca)(m:List bs)(i:Nat)(a:List bs):Prop:=a=(m.take i).filter (jO k)
theorem uk.step{k:List ca}{m:List bs}{i:Nat}{a:List bs}(h:uk k m i a){x:bs}(ad:m[i]? =some x):uk k m (i+1) (if jO k x=true then a++[x]else a):=by
 rw[uk,mP ad,List.filter_append,<-h];by_cases e:jO k x=true
 ·rw[if_pos e];simp[e]
 ·rw[if_neg e];simp[e]
theorem Bb(S:aM->Prop)(l:List bs)(d:bs):aN S (l.map bs.e++[d.e])=True:=by have:=MX S (l++[d]);rw[r6]at this;exact eq_true this
theorem W3{k:List ca}{m:List bs}(h:ji m):ji (m.filter (jO k)):=⟨fun x ad=>h.at' x (iL.1 ad).1,aba _ h.asc⟩
theorem Pp{G:List (List c0)}{k:List ca}{m:List bs}(h:lU G m):lU G (m.filter (jO k)):=fun x ad=>h x (iL.1 ad).1
theorem qP.skip{b:List ai}{k:List ca}{m:List bs}{D:List (List ai)}{i:Nat}{a:List (List ai)}(h:qP b k m D i a){d:List ai}(aF:D[i]? =some d)(he:∀r,fu b k m (d::r)=fu b k m r):qP b k m D (i+1) a:=⟨by have:=h.1;omega,h.2.1,by rw[<-h.2.2,Bg aF,he]⟩
theorem qP.snoc{b:List ai}{k:List ca}{m:List bs}{D:List (List ai)}{i:Nat}{a:List (List ai)}(h:qP b k m D i a){d x:List ai}(aF:D[i]? =some d)(ad:ek x)(he:∀r,fu b k m (d::r)=(fu b k m r).map (x:: ·)):qP b k m D (i+1) (a++[x]):=
 ⟨by have:=h.1;simp;omega,fun y aC=>by
  rcases iz.1 aC with aC|aC
  ·exact h.2.1 y aC
  ·simp at aC;subst aC;exact ad,by
  rw[<-h.2.2,Bg aF,he,Option.map_map];congr 1;funext r;simp⟩
theorem qP.stop{b:List ai}{k:List ca}{m:List bs}{D:List (List ai)}{i:Nat}{a:List (List ai)}(h:qP b k m D i a){d:List ai}(aF:D[i]? =some d)(he:∀r,fu b k m (d::r)=none):fu b k m D=none:=by rw[<-h.2.2,Bg aF,he];rfl
theorem qP.fin{b:List ai}{k:List ca}{m:List bs}{D:List (List ai)}{a:List (List ai)}(h:qP b k m D D.length a):fu b k m D=some a:=by rw[<-h.2.2,List.drop_length];simp[fu]
theorem uq(S:aM->Prop)(l:List (List ai))(d:List ai):aN S (l.map cH++[.slice 5 .no (d.map ai.e)])=True:=yR S l d
theorem CP{d:List ai}(aF:ek d):∀e∈ga d,e.1.ok=true/\e.2.ok=true:=fun e he=>by obtain⟨c,ar,rfl⟩:=hG.1 he;have:=aF.ok c ar;exact⟨by simpa[T.ok]using this.1,this.2⟩
theorem Ch{s:bK}(h:gu s){G:List (List c0)}(hR:G.length<=687000)(aX:lU G s.m):bQ ax 50 [s.e] (jk (e6 s)):=by
 generalize ds:e6 s=O;have kY:=aak h.b h.k;have kZ:=aal h.b h.m hR aX;have kE:=fun k=>IN (acc:=[]) (a:=k) h.b h.k.at' ⟨Ψ,Ψ⟩;have qX:=fun m=>IQ (acc:=[]) (a:=m) h.b h.m.at' ⟨Ψ,by simp[gT]⟩;have nM:=fun m=>IT (acc:=[]) (a:=m) (s:=s.b) aX (fun x ad=>by simp at ad);have ab:=h.b;have aF:=h.d;clear h aX;unfold e6 at ds;obtain⟨n,b,d,hk,m0⟩:=s;simp only at kY kZ kE qX nM ab aF ds;have fm:=ab.len;simp only[bK.e];generalize fJ b hk []=ok at kY ds kE;generalize fL b m0 []=om at kZ ds qX nM;cases ok with
 |none=>
  simp only at ds;subst ds;simp only[fS]at kY;simp only[ig]at kZ;clear kE qX nM;refine bj oT K9 NS fun aR=>?_;unfold Gb;simp;(with_reducible repeat' first|refine aj ?_|refine aA kY ?_|refine aB kY ?_|refine aA kZ ?_|refine aB kZ ?_|simp);all_goals simp[bk,BK,aU,aW,aT]
  all_goals simp[jk,hs,bK.e]
 |some k=>
  simp only at ds;cases om with
  |none=>
   simp only at ds;subst ds;simp only[fS]at kY;simp only[ig]at kZ;clear kE qX nM;refine bj oT K9 NS fun aR=>?_;unfold Gb;simp;(with_reducible repeat' first|refine aj ?_|refine aA kY ?_|refine aB kY ?_|refine aA kZ ?_|refine aB kZ ?_|simp);all_goals simp[bk,BK,aU,aW,aT]
   all_goals simp[jk,hs,bK.e]
  |some m=>
   simp only at ds;have wM:=kE k rfl;have yB:=qX m rfl;have yu:=nM m rfl;have gl:=oK wM;have l6:m.length<=68719470000:=by have:=Ed yB yu;omega
   have AN:=W3 (k:=k) yB;have AH:=Pp (k:=k) yu;have ais:(m.filter (jO k)).length<=68719470000:=gS (List.length_filter_le _ _) l6;simp only[fS,jo,mV]at kY;simp only[ig,jo,mV]at kZ;clear kE qX nM;refine bj oT K9 NS fun aR=>?_;unfold Gb;have yp:d.length<=68719476736:=by simp[gI,fZ,gz,lim]at aR;omega
   simp;(with_reducible repeat' first|refine aj ?_|refine aA kY ?_|refine aB kY ?_|refine aA kZ ?_|refine aB kZ ?_|simp);refine h0 (fun i (l:List (Int×Bool))=>⟨[(1,.ptr (.loc 0) 0),(2,.ptr (.loc 1) 0),(4,.slice 2 .no (k.map ca.e)),(6,.slice 2 .no (m.map bs.e)),(8,.gmap (.loc 2)),(49,.slice 2 .no (k.map ca.e)),(50,.int .i64 k.length),(51,.int .i64 i)],[(.loc 0,[.int .i64 n,.slice 5 .no (b.map ai.e),.slice 1 .no (d.map cH),.slice 2 .no (hk.map ca.e),.slice 2 .no (m0.map bs.e)]),(.loc 1,[.int .i64 0,.slice 5 .nil [],.slice 1 .nil [],.slice 2 .nil [],.slice 2 .nil []]),(.loc 2,qT l)],[],3,[]⟩) k.length (vx k) [] ⟨by simp[fresh,aN,aJ,cz,inObs,Pv.look,M9],eD (by simp[fresh,aN,aJ,cz,inObs,Pv.look,M9]),eE (by simp[fresh,aN,aJ,eg,inObs,Pv.look,M9]),Ψ⟩ (fun v=>by simp[tg]) (fun l af _=>?_) (fun i l hi af _=>?_);rotate_left
   ·obtain⟨x,ad,c6⟩:=ej hi;by_cases ao:x.k=3
    ·have au:=af.put ad ao;clear af ad;exact gX
    ·have au:=af.skip ad ao;have tS:(x.k==3)=false:=by simp[ao]
     clear af ad;exact gX
   have hints:=af.fin wM;clear af;simp;(with_reducible repeat' first|refine aj ?_|simp);refine h0 (fun i (a:List bs)=>⟨[(1,.ptr (.loc 0) 0),(2,.ptr (.loc 1) 0),(4,.slice 2 .no (k.map ca.e)),(8,.gmap (.loc 2)),(11,.slice 2 (.own (.loc 3)) (a.map bs.e)),(63,.slice 2 .no (m.map bs.e)),(64,.int .i64 m.length),(65,.int .i64 i)],[(.loc 0,[.int .i64 n,.slice 5 .no (b.map ai.e),.slice 1 .no (d.map cH),.slice 2 .no (hk.map ca.e),.slice 2 .no (m0.map bs.e)]),(.loc 1,[.int .i64 0,.slice 5 .nil [],.slice 1 .nil [],.slice 2 .nil [],.slice 2 .nil []]),(.loc 2,qT l)],[(.loc 3,⟨a.length,106,2,none⟩)],4,[]⟩) m.length (uk k m) [] bT (by simp[uk]) (fun a af _=>?_) (fun i a hi af _=>?_);rotate_left
   ·obtain⟨x,ad,c6⟩:=ej hi;have qd:a.length<=68719470000:=by
     have:a.length<=(m.take i).length:=by rw[af];exact List.length_filter_le _ _
     simp at this;omega
    have au:=af.step ad;have bt:=hints x;cases aQ:jO k x
    ·rw[aQ]at au bt;simp only[gZ,if_false,Bool.not_false]at au bt;clear af ad aQ;simp[hi,c6];((with_reducible repeat' first|refine aj ?_|simp[hi,c6,bt]|((first|apply bL|apply bN|apply bM)<;>intro h<;>try simp at h))<;>(try exact cm));all_goals exact bP.rng a hi au bT
    ·rw[aQ]at au bt;simp only[if_true,Bool.not_true]at au bt;clear af ad aQ;simp[hi,c6];((with_reducible repeat' first|refine aj ?_|simp[hi,c6,bt]|((first|apply bL|apply bN|apply bM)<;>intro h<;>try simp at h))<;>(try exact cm));all_goals first|(refine⟨by unfold lim;omega,?_⟩)|skip
     all_goals(with_reducible repeat' first|refine aj ?_|simp)
     all_goals exact bP.rng (a++[x]) hi au ⟨by simp[fresh,aN,aJ,cz,inObs,Pv.look,Bb],eD (by simp[fresh,aN,aJ,cz,inObs,Pv.look,Bb]),eE (by simp[fresh,aN,aJ,eg,inObs,Pv.look,Bb]),Ψ⟩
   rw[uk,k9]at af;rw[<-af]at AN AH ais ds;clear af hints gl yB yu;simp;(with_reducible repeat' first|refine aj ?_|simp);refine h0 (fun i (L:List (List ai))=>⟨[(1,.ptr (.loc 0) 0),(2,.ptr (.loc 1) 0),(4,.slice 2 .no (k.map ca.e)),(11,.slice 2 (.own (.loc 3)) (a.map bs.e)),(14,.slice 1 (.own (.loc 4)) (L.map cH)),(81,.slice 1 .no (d.map cH)),(82,.int .i64 d.length),(83,.int .i64 i)],[(.loc 0,[.int .i64 n,.slice 5 .no (b.map ai.e),.slice 1 .no (d.map cH),.slice 2 .no (hk.map ca.e),.slice 2 .no (m0.map bs.e)]),(.loc 1,[.int .i64 0,.slice 5 .nil [],.slice 1 .nil [],.slice 2 .nil [],.slice 2 .nil []])],[(.loc 3,⟨a.length,106,2,none⟩),(.loc 4,⟨L.length,23,1,none⟩)],5,[]⟩) d.length (qP b k a d) [] bT ⟨Ψ,Ψ,Ψ⟩ (fun L af _=>?_) (fun i L hi af _=>?_)
   ·have gU:=af.fin;have sw:=af.2.1;rw[gU]at ds;simp only at ds;have kX:=apY L sw;have iU:bQ ax 119 [.slice 5 .no (b.map ai.e)] (.slice 5 .no (b.map ai.e)):=Fh b fm;clear af gU sw;generalize j4 L=M at kX ds;by_cases lK:M.length<=30
    ·have pf:¬(30:Int)<M.length:=Ω
     rw[if_pos lK]at ds;subst ds;simp;(with_reducible repeat' first|refine aj ?_|refine aA kX ?_|refine aB kX ?_|refine aA iU ?_|refine aB iU ?_|simp[lK,pf]);all_goals simp[bk,BK,aU,aW,aT]
     all_goals simp[jk,bK.e]
    ·have pf:(30:Int)<M.length:=Ω
     rw[if_neg lK]at ds;subst ds;simp;(with_reducible repeat' first|refine aj ?_|refine aA kX ?_|refine aB kX ?_|refine aA iU ?_|refine aB iU ?_|simp[lK,pf]);all_goals simp[bk,BK,aU,aW,aT]
     all_goals simp[jk,hs,bK.e]
   ·obtain⟨x,ad,c6⟩:=ej hi;have hc:=aF x (dP ad);have Uz:=af.1;have h9:bQ ax 122 [.slice 5 .no (b.map ai.e),cH x] (fh (mgu b (ga x))):=apQ ab hc;simp only[fh]at h9;cases hu:mgu b (ga x)with
    |none=>have au:=af.skip ad fun r=>M2 hu;rw[hu]at h9;simp only[kc,jG]at h9;clear af ad ds;exact gX
    |some y=>
     have jx:=ab.mgu (CP hc) hu;rw[hu]at h9;simp only[jo,mV]at h9;have dk:=aak jx wM;have ef:=aal jx AN hR AH;have ia:=aaj ab jx;simp only[fS]at dk;simp only[ig]at ef;by_cases iS:fJ y k []=none\/fL y a []=none
     ·have au:=af.skip ad fun r=>M1 hu iS;clear af ad ds hu;rcases iS with e|e
      ·rw[e]at dk;simp only[kc,jG]at dk;exact gX
      ·rw[e]at ef;simp only[kc,jG]at ef;cases (fJ y k []).isSome
       ·simp[hi,c6];((with_reducible repeat' first|refine aj ?_|refine aA h9 ?_|refine aB h9 ?_|refine aA dk ?_|refine aB dk ?_|refine aA ef ?_|refine aB ef ?_|simp[hi,c6]|((first|apply bL|apply bN|apply bM)<;>intro h<;>try simp at h))<;>(try exact cm));all_goals exact bP.rng L hi au bT
       ·simp[hi,c6];((with_reducible repeat' first|refine aj ?_|refine aA h9 ?_|refine aB h9 ?_|refine aA dk ?_|refine aB dk ?_|refine aA ef ?_|refine aB ef ?_|simp[hi,c6]|((first|apply bL|apply bN|apply bM)<;>intro h<;>try simp at h))<;>(try exact cm));all_goals exact bP.rng L hi au bT
     ·have aq:(fJ y k []).isSome=true:=by cases e:fJ y k []with|none=>exact absurd (.inl e) iS|some _=>rfl
      have aG:(fL y a []).isSome=true:=by cases e:fL y a []with|none=>exact absurd (.inr e) iS|some _=>rfl
      rw[aq]at dk;rw[aG]at ef;by_cases cK:dN b y=[]
      ·have ag:=af.stop ad fun r=>M0 hu iS cK;rw[ag]at ds;simp only at ds;subst ds;rw[cK]at ia;simp only[oo]at ia;clear af ad hu iS;simp[hi,c6];((with_reducible repeat' first|refine aj ?_|refine aA h9 ?_|refine aB h9 ?_|refine aA dk ?_|refine aB dk ?_|refine aA ef ?_|refine aB ef ?_|refine aA ia ?_|refine aB ia ?_|simp[hi,c6]|((first|apply bL|apply bN|apply bM)<;>intro h<;>try simp at h))<;>(try exact cm));all_goals simp[bk,BK,aU,aW,aT]
       all_goals simp[jk,hs,bK.e]
      ·have au:=af.snoc ad (Ek (b:=b) jx) fun r=>M3 hu iS cK;have wN:¬((dN b y).length:Int)=0:=by have:(dN b y).length≠0:=fun h=>cK (List.length_eq_zero_iff.1 h);omega
       have wO:(((dN b y).length:Int)==0)=false:=by simp[cK]
       have HK:bQ ax 123 [.slice 5 .no (b.map ai.e),.slice 5 .no (y.map ai.e)] (cH (dN b y)):=ia;clear af ad hu iS ds ia;generalize dN b y=z at HK au wN wO cK;simp only[cH]at HK;simp[hi,c6];(with_reducible repeat' first|refine aj ?_|refine aA h9 ?_|refine aB h9 ?_|refine aA dk ?_|refine aB dk ?_|refine aA ef ?_|refine aB ef ?_|refine aA HK ?_|refine aB HK ?_|simp[hi,c6,wN,wO,cK]);all_goals first|(refine⟨by unfold lim;omega,?_⟩)|skip
       all_goals(with_reducible repeat' first|refine aj ?_|simp)
       all_goals exact bP.rng (L++[z]) hi au ⟨by simp[fresh,aN,aJ,cz,inObs,Pv.look,uq,cH],eD d7,eE d8,Ψ⟩
structure mv where
 n:Int
 b:List dL
 d:List (List dL)
 k:List ca
 m:List bs
def bK.r(s:bK):mv:=⟨s.n,s.b.map ai.b,s.d.map fun x=>x.map ai.b,s.k,s.m⟩
def pM(r:mv):Prop:= ∃s:bK,r=s.r/\mN s
def kx(n:Int)(x:List dL):Prop:= ∃s:List ai,x=s.map ai.b/\ek s/\ox s n
structure OE (r:mv):Prop where
 n:0<=r.n/\r.n<=100000
 b:kx r.n r.b
 d:∀x∈r.d,kx r.n x
 k:hl r.k
 m:ji r.m
 kb:∀x∈r.k,x.v<r.n
 mb:∀x∈r.m,x.v<r.n
theorem pM.raw{r:mv}(h:pM r):OE r:=by obtain⟨s,rfl,J,_⟩:=h;exact⟨J.n,⟨s.b,rfl,J.b,J.bb⟩,fun x ad=>by obtain⟨y,aC,rfl⟩:=hG.1 ad;exact⟨y,rfl,J.d y aC,J.db y aC⟩,J.k,J.m,J.kb,J.mb⟩
theorem p4:∀{a b:List ai},a.map ai.b=b.map ai.b->a=b
 |[],b,h=>by cases b<;>simp at h⊢
 |x::a,[],h=>by simp at h
 |x::a,y::b,h=>by simp only[ht,zK,ai.b,dL.mk.injEq]at h;rw[p4 h.2];have:=zy h.1.2;obtain⟨⟨J,_⟩,_⟩:=h;cases x;cases y;simp_all
theorem QD:∀{a b:List (List ai)},(a.map fun x=>x.map ai.b)=(b.map fun x=>x.map ai.b)->a=b
 |[],b,h=>by cases b<;>simp at h⊢
 |x::a,[],h=>by simp at h
 |x::a,y::b,h=>by rw[ht,ht,zK]at h;rw[QD h.2,p4 h.1]
theorem bK.r_inj{s t:bK}(h:s.r=t.r):s=t:=by obtain⟨n,b,d,k,m⟩:=s;obtain⟨n',b1,cn,bH,ic⟩:=t;simp only[bK.r,mv.mk.injEq]at h;obtain⟨J,U,ao,a6,b7⟩:=h;rw[J,p4 U,QD ao,a6,b7]
theorem Td{n:Int}:∀{d:List (List dL)},(∀x∈d,kx n x)->∃D:List (List ai),d=(D.map fun x=>x.map ai.b)/\(∀x∈D,ek x)/\∀x∈D,ox x n
 |[],_=>⟨[],rfl,Ψ,Ψ⟩
 |x::d,h=>by
  obtain⟨D,J,U,ao⟩:=Td (d:=d) fun y aC=>h y (by simp[aC]);obtain⟨s,aq,aG,bG⟩:=h x Ψ;refine⟨s::D,by rw[J,aq];rfl,fun y aC=>?_,fun y aC=>?_⟩
  ·rcases e7.1 aC with rfl|aC
   ·exact aG
   ·exact U y aC
  ·rcases e7.1 aC with rfl|aC
   ·exact bG
   ·exact ao y aC
theorem ZR{s:bK}(h:gu s):pM s.r↔e6 s=some s:=by
 constructor
 ·rintro⟨t,e,_,U⟩;rw[bK.r_inj e];exact U
 ·intro U;exact⟨s,rfl,h,U⟩
theorem xC{l:List dL}:JP l↔∃s:List ai,l=s.map ai.b/\ek s:=⟨fun⟨s,J,U,ao,a6⟩=>⟨s,J,U,ao,a6⟩,fun⟨s,J,U⟩=>⟨s,J,U.ok,U.sol,U.fits⟩⟩
def sf{α:Type}(a b:List α)(i:Nat)(_:Unit):Prop:= ∀k,k<i->a[k]? =b[k]?
theorem sf.fin{α:Type}{a b:List α}(h:sf a b b.length ())(av:a.length=b.length):a=b:=by
 apply List.ext_getElem?;intro k;by_cases ae:k<b.length
 ·exact h k ae
 ·rw[pT Ω,pT Ω]
theorem sf.step{α:Type}{a b:List α}{i:Nat}(h:sf a b i ()){x:α}(bm:a[i]? =some x)(ab:b[i]? =some x):sf a b (i+1) ():=fun k ae=>by
 rcases(by omega:k<i\/k=i)with J|rfl
 ·exact h k J
 ·rw[bm,ab]
def sT{α:Type}(p:α->Prop)(s:List α)(i:Nat)(_:Unit):Prop:= ∀k b,k<i->s[k]? =some b->p b
theorem sT.step{α:Type}{p:α->Prop}{s:List α}{i:Nat}(h:sT p s i ()){b:α}(ab:s[i]? =some b)(bD:p b):sT p s (i+1) ():=fun k c ae ar=>by
 rcases(by omega:k<i\/k=i)with J|rfl
 ·exact h k c J ar
 ·rw[ab]at ar;cases ar;exact bD
theorem sT.fin{α:Type}{p:α->Prop}{s:List α}(h:sT p s s.length ()):∀b∈s,p b:=fun b ab=>by obtain⟨k,ae,e⟩:=oi ab;exact h k b ae (by rw[bY ae,e])
@[simp]theorem arj(neg:Bool)(x y:ca):iO neg (some [false,false]) x.e y.e=some (True,.bool (if neg then !decide (x=y)else decide (x=y))):=by
 have h:(x.v==y.v&&(x.k==y.k&&true))=decide (x=y):=by rw[q4];simp only[Bool.and_true,cr,dQ,en];cases x;cases y;simp
 rw[<-h];rfl
@[simp]theorem ark(neg:Bool)(x y:bs):iO neg (some [false,true]) x.e y.e=some (True,.bool (if neg then !decide (x=y)else decide (x=y))):=by
 have h:(x.v==y.v&&(x.s==y.s&&true))=decide (x=y):=by rw[q4];simp only[Bool.and_true,cr,dQ,en];cases x;cases y;simp
 rw[<-h];rfl
theorem ap4(x y:List ai)(h:x.length<=1000000):bQ ax 135 [cH x,cH y] (.bool (decide (x=y))):=PE x y h
theorem aqI(a c:bK)(nP:a.b.length<=1000000)(Dc:∀x∈a.d,x.length<=1000000):bQ ax 59 [a.e,c.e] (.bool (decide (a=c))):=by
 obtain⟨n,b,d,k,m⟩:=a;obtain⟨n',b1,cn,bH,ic⟩:=c;simp only at nP Dc;generalize bA:decide ((⟨n,b,d,k,m⟩:bK)=⟨n',b1,cn,bH,ic⟩)=R;simp only[bK.mk.injEq,bK.e]at bA⊢;by_cases a1:n=n';rotate_left
 ·have gj:R=false:=by rw[<-bA];simp[a1]
  have uC:(n !=n')=true:=by simp[a1]
  rw[gj];clear bA gj;refine bj oT Al By fun aR=>?_;unfold x7;exact cp
 subst a1;have fI:=PE b b1 nP;by_cases bp:b=b1;rotate_left
 ·have gj:R=false:=by rw[<-bA];simp[bp]
  rw[h6 bp]at fI;rw[gj];clear bA gj;refine bj oT Al By fun aR=>?_;unfold x7;exact cp
 subst bp;rw[gx rfl]at fI;by_cases bV:d.length=cn.length;rotate_left
 ·have gj:R=false:=by rw[<-bA];simp only[gn];rintro⟨_,_,rfl,_⟩;exact bV rfl
  have tb:((d.length:Int) !=cn.length)=true:=by simp;omega
  rw[gj];clear bA gj;refine bj oT Al By fun aR=>?_;unfold x7;exact cp
 by_cases cQ:k.length=bH.length;rotate_left
 ·have gj:R=false:=by rw[<-bA];simp only[gn];rintro⟨_,_,_,rfl,_⟩;exact cQ rfl
  have anC:((k.length:Int) !=bH.length)=true:=by simp;omega
  rw[gj];clear bA gj;refine bj oT Al By fun aR=>?_;unfold x7;exact cp
 by_cases cZ:m.length=ic.length;rotate_left
 ·have gj:R=false:=by rw[<-bA];simp only[gn];rintro⟨_,_,_,_,rfl⟩;exact cZ rfl
  have anD:((m.length:Int) !=ic.length)=true:=by simp;omega
  rw[gj];clear bA gj;refine bj oT Al By fun aR=>?_;unfold x7;exact cp
 have yE:d≠cn->R=false:=fun h=>by rw[<-bA];simp[h]
 have yF:k≠bH->R=false:=fun h=>by rw[<-bA];simp[h]
 have Ma:m≠ic->R=false:=fun h=>by rw[<-bA];simp[h]
 refine bj oT Al By fun aR=>?_;unfold x7;have aii:cn.length<=68719476736:=by simp[gI,fZ,gz,lim]at aR;omega
 have aij:bH.length<=68719476736:=by simp[gI,fZ,gz,lim]at aR;omega
 have aik:ic.length<=68719476736:=by simp[gI,fZ,gz,lim]at aR;omega
 clear aR;simp;(with_reducible repeat' first|refine aj ?_|refine aA fI ?_|refine aB fI ?_|simp[bV,cQ,cZ]);have cB:=yE;refine dT [2,3,50] (fun i (_:Unit)=>[(51,.int .i64 i)]) cn.length (sf d cn) () bT (fun k ae=>Ω) (fun _ af _=>?_) (fun i _ hi af _=>?_);rotate_left
 ·obtain⟨x,ad⟩:∃x,d[i]? =some x:=⟨_,bY Ω⟩;obtain⟨y,aC⟩:∃y,cn[i]? =some y:=⟨_,bY hi⟩;have gD:i<d.length:=Ω
  have c6:∀h,(d[i]'h)=x:=fun h=>by rw[bY gD]at ad;exact eH ad
  have eX:∀h,(cn[i]'h)=y:=fun h=>by rw[bY hi]at aC;exact eH aC
  have fI:=ap4 x y (Dc x (dP ad));by_cases q:x=y
  ·subst q;have au:=af.step ad aC;rw[gx rfl]at fI;clear af ad aC;simp[hi,gD,c6,eX,-iO];(with_reducible repeat' first|refine aj ?_|refine aA fI ?_|refine aB fI ?_|simp[c6,eX,hi,gD,-iO]);all_goals exact bP.rng () hi au bT
  ·rw[cB (fun h=>q ci)];rw[h6 q]at fI;clear af ad aC;simp[hi,gD,c6,eX,-iO];(with_reducible repeat' first|refine aj ?_|refine aA fI ?_|refine aB fI ?_|simp[c6,eX,hi,gD,q,-iO]);all_goals simp[bk,ID,aU,aW,aT]
 have c8:=af.fin bV;subst c8;clear af cB yE bV;simp;(with_reducible repeat' first|refine aj ?_|simp[cQ]);have cB:=yF;refine dT [2,3,69] (fun i (_:Unit)=>[(70,.int .i64 i)]) bH.length (sf k bH) () bT (fun k ae=>Ω) (fun _ af _=>?_) (fun i _ hi af _=>?_);rotate_left
 ·obtain⟨x,ad⟩:∃x,k[i]? =some x:=⟨_,bY Ω⟩;obtain⟨y,aC⟩:∃y,bH[i]? =some y:=⟨_,bY hi⟩;have gD:i<k.length:=Ω
  have c6:∀h,(k[i]'h)=x:=fun h=>by rw[bY gD]at ad;exact eH ad
  have eX:∀h,(bH[i]'h)=y:=fun h=>by rw[bY hi]at aC;exact eH aC
  have fI:=True.intro;by_cases q:x=y
  ·subst q;have au:=af.step ad aC;skip;clear af ad aC;simp[hi,gD,c6,eX,-iO];(with_reducible repeat' first|refine aj ?_|refine aA fI ?_|refine aB fI ?_|simp[c6,eX,hi,gD,-iO]);all_goals exact bP.rng () hi au bT
  ·rw[cB (fun h=>q ci)];skip;clear af ad aC;simp[hi,gD,c6,eX,-iO];(with_reducible repeat' first|refine aj ?_|refine aA fI ?_|refine aB fI ?_|simp[c6,eX,hi,gD,q,-iO]);all_goals simp[bk,ID,aU,aW,aT]
 have c8:=af.fin cQ;subst c8;clear af cB yF cQ;simp;(with_reducible repeat' first|refine aj ?_|simp[cZ]);have cB:=Ma;refine dT [2,3,87] (fun i (_:Unit)=>[(88,.int .i64 i)]) ic.length (sf m ic) () bT (fun k ae=>Ω) (fun _ af _=>?_) (fun i _ hi af _=>?_);rotate_left
 ·obtain⟨x,ad⟩:∃x,m[i]? =some x:=⟨_,bY Ω⟩;obtain⟨y,aC⟩:∃y,ic[i]? =some y:=⟨_,bY hi⟩;have gD:i<m.length:=Ω
  have c6:∀h,(m[i]'h)=x:=fun h=>by rw[bY gD]at ad;exact eH ad
  have eX:∀h,(ic[i]'h)=y:=fun h=>by rw[bY hi]at aC;exact eH aC
  have fI:=True.intro;by_cases q:x=y
  ·subst q;have au:=af.step ad aC;skip;clear af ad aC;simp[hi,gD,c6,eX,-iO];(with_reducible repeat' first|refine aj ?_|refine aA fI ?_|refine aB fI ?_|simp[c6,eX,hi,gD,-iO]);all_goals exact bP.rng () hi au bT
  ·rw[cB (fun h=>q ci)];skip;clear af ad aC;simp[hi,gD,c6,eX,-iO];(with_reducible repeat' first|refine aj ?_|refine aA fI ?_|refine aB fI ?_|simp[c6,eX,hi,gD,q,-iO]);all_goals simp[bk,ID,aU,aW,aT]
 have c8:=af.fin cZ;subst c8;have gj:R=true:=by rw[<-bA];simp
 rw[gj];exact cp
def mv.e(r:mv):ak:= .agg [.int .i64 r.n,.slice 5 .no (r.b.map dL.e),.slice 1 .no (r.d.map l2),.slice 2 .no (r.k.map ca.e),.slice 2 .no (r.m.map bs.e)]
theorem Fa(s:bK):s.r.e=s.e:=by simp only[bK.r,mv.e,bK.e,qU,KK]
theorem ap0(x:List dL):bQ ax 55 [l2 x] (.bool (gL x)):=PB x
open Classical in
theorem aam(r:mv)(gC:ji r.m->mQ r.m):bQ ax 18 [r.e] (.bool (decide (pM r))):=by
 generalize bA:decide (pM r)=R;have cB:¬OE r->R=false:=fun h=>by rw[<-bA,gn];exact fun cd=>h cd.raw
 obtain⟨n,b,d,k,m⟩:=r;simp only[mv.e]at gC⊢;by_cases g1:n<0
 ·rw[cB fun h=>by have:=h.n.1;simp only at this;omega];refine bj oT x9 y5 fun aR=>?_;unfold wo;exact cp
 by_cases g2:100000<n
 ·rw[cB fun h=>by have:=h.n.2;simp only at this;omega];refine bj oT x9 y5 fun aR=>?_;unfold wo;exact cp
 have j3:bQ ax 55 [.slice 5 .no (b.map dL.e)] (.bool (gL b)):=PB b;cases g3:gL b
 ·rw[cB fun h=>by obtain⟨s,aq,aG,_⟩:=h.b;have:=rV.2 (xC.2 ⟨s,aq,aG⟩);simp only at this;rw[g3]at this;cases this]
  rw[g3]at j3;refine bj oT x9 y5 fun aR=>?_;unfold wo;exact cp
 rw[g3]at j3;obtain⟨s,rfl,ag⟩:=xC.1 (rV.1 g3);clear g3;rw[qU]at j3⊢;have dk:=aad k;by_cases g4:hl k;rotate_left
 ·rw[cB fun h=>g4 h.k];rw[h6 g4]at dk;refine bj oT x9 y5 fun aR=>?_;unfold wo;exact cp
 rw[gx g4]at dk;have ef:=aah m;by_cases g5:ji m;rotate_left
 ·rw[cB fun h=>g5 h.m];rw[h6 g5]at ef;refine bj oT x9 y5 fun aR=>?_;unfold wo;exact cp
 rw[gx g5]at ef;have lP:=aap ag (n:=n) Ω;cases g6:s.all (lf n)
 ·rw[cB fun h=>by obtain⟨ah,aq,_,bG⟩:=h.b;have di:=p4 aq;subst di;rw[wm.2 bG]at g6;cases g6]
  rw[g6]at lP;refine bj oT x9 y5 fun aR=>?_;unfold wo;exact cp
 rw[g6]at lP;have cI:=wm.1 g6;clear g6;have Du:=gC g5;have l6:=Du.len g5;refine bj oT x9 y5 fun aR=>?_;unfold wo;have yp:d.length<=68719476736:=by simp[gI,fZ,gz,lim]at aR;omega
 have gl:=oK g4;clear aR gC;simp;(with_reducible repeat' first|refine aj ?_|refine aA j3 ?_|refine aB j3 ?_|refine aA dk ?_|refine aB dk ?_|refine aA ef ?_|refine aB ef ?_|refine aA lP ?_|refine aB lP ?_|simp[g1,g2]);refine dT [1,46,47] (fun i (_:Unit)=>[(48,.int .i64 i)]) d.length (sT (kx n) d) () bT (fun k b ae=>Ω) (fun _ af _=>?_) (fun i _ hi af _=>?_);rotate_left
 ·obtain⟨x,ad,c6⟩:=ej hi;have DL:=dP ad;have c9:=ap0 x;cases ni:gL x
  ·rw[cB fun h=>by obtain⟨ah,aq,aG,_⟩:=h.d x DL;rw[rV.2 (xC.2 ⟨ah,aq,aG⟩)]at ni;cases ni]
   rw[ni]at c9;clear af ad DL;exact cp
  ·rw[ni]at c9;obtain⟨y,rfl,aC⟩:=xC.1 (rV.1 ni);clear ni;rw[KJ]at c9;have mi:bQ ax 58 [cH y,.int .i64 n] (.bool (y.all (lf n))):=aap aC (n:=n) Ω;have asU:∀h,l2 (d[i]'h)=cH y:=fun h=>by rw[c6 h,KJ]
   cases ss:y.all (lf n)
   ·rw[cB fun h=>by obtain⟨ah,aq,_,bG⟩:=h.d _ DL;have di:=p4 aq;subst di;rw[wm.2 bG]at ss;cases ss]
    rw[ss]at mi;clear af ad DL c6;exact cp
   ·rw[ss]at mi;have au:=af.step ad ⟨y,rfl,aC,wm.1 ss⟩;clear af ad DL c6;exact gX
 obtain⟨D,rfl,qG,LB⟩:=Td af.fin;clear af;simp only[KK];simp;(with_reducible repeat' first|refine aj ?_|simp);refine dT [1,64,65] (fun i (_:Unit)=>[(66,.int .i64 i)]) k.length (sT (fun x=>x.v<n) k) () bT (fun k b ae=>Ω) (fun _ af _=>?_) (fun i _ hi af _=>?_);rotate_left
 ·obtain⟨x,ad,c6⟩:=ej hi;by_cases ni:x.v<n
  ·have yj:¬n<=x.v:=Ω
   have au:=af.step ad ni;clear af ad;exact gX
  ·have yj:n<=x.v:=Ω
   rw[cB fun h=>ni (h.kb x (dP ad))];clear af ad;exact cp
 have yv:=af.fin;clear af;simp;(with_reducible repeat' first|refine aj ?_|simp);have qJ:=yv;refine dT [1,77,78] (fun i (_:Unit)=>[(79,.int .i64 i)]) m.length (sT (fun x=>x.v<n) m) () bT (fun k b ae=>Ω) (fun _ af _=>?_) (fun i _ hi af _=>?_);rotate_left
 ·obtain⟨x,ad,c6⟩:=ej hi;by_cases ni:x.v<n
  ·have yj:¬n<=x.v:=Ω
   have au:=af.step ad ni;clear af ad;exact gX
  ·have yj:n<=x.v:=Ω
   rw[cB fun h=>ni (h.mb x (dP ad))];clear af ad;exact cp
 have yv:=af.fin;clear af;simp;(with_reducible repeat' first|refine aj ?_|simp);have oG:=yv;have dh:gu ⟨n,s,D,k,m⟩:=⟨by simp only;omega,ag,qG,g4,g5,cI,LB,qJ,oG⟩;have vo:=ZR dh;obtain⟨G,hR,aX⟩:=Du;have dq:=Ch dh hR aX;have lM:pM ⟨n,s.map ai.b,D.map fun x=>x.map ai.b,k,m⟩↔e6 ⟨n,s,D,k,m⟩=some ⟨n,s,D,k,m⟩:=vo;clear vo cB;simp only[jk]at dq;cases kB:e6 ⟨n,s,D,k,m⟩with
 |none=>
  rw[kB]at dq lM;have gj:R=false:=by rw[<-bA,gn,lM];simp
  rw[gj];simp only[kc,jG,bK.e]at dq;clear bA gj lM;exact cp
 |some t=>
  have AZ:=zq dh kB;rw[kB]at dq lM;have w5:=aqI t ⟨n,s,D,k,m⟩ AZ.1.1.b.len (fun x ad=>(AZ.1.1.d x ad).len);have gj:R=decide (t=⟨n,s,D,k,m⟩):=by rw[<-bA,decide_eq_decide,lM];simp
  rw[gj];simp only[jo,mV]at dq;simp only[bK.e]at dq w5;clear bA gj lM AZ;generalize decide (t=(⟨n,s,D,k,m⟩:bK))=Q at w5⊢;obtain⟨xJ,xG,xH,xI,tm⟩:=t;simp only at dq w5;exact cp
def z7:C:=(aa [cU 2 0,bh 4 false] (.seq (aa [aI 7 3 1 2,az 8 1 7,ct 9 8,b6 10 0] (eZ 11 10 9 (.seq (.block 1 (aa [cw 12 4 8 10,aV 13 4 12,cL 6 da,bu 4 6 13] (aa [aV 14 4 6,I 15 1,b5 16 77 14 15] (aZ 16 (aa [bh 4 true] .ret) .skip)))) (.region [aS 17 .add 10 1,I 10 17])))) (aa [aI 18 0 1 2,az 19 1 18,aS 20 .eql 19 2,I 21 20,al 21 true (aI 22 2 1 2),al 21 true (az 23 1 22),bO 21 true 24 1,al 21 true (bq 25 .eql 23 24),de 26 21 25,I 4 26] .ret)))
@[simp] def xu:List bW:=[.tmp 4]
def R8:C:=(aa [bh 2 false] (.seq (aa [I 5 0,ct 6 5,b6 7 0] (eZ 8 7 6 (.seq (.block 1 (aa [I 9 7,cw 10 2 5 7,aV 11 2 10,cX (.alloc 4 none (.agg [.int .i64 0,.int .i64 0])),I 3 9,bu 2 4 11] (.seq (.drawn true 42 [I 12 3,aS 13 .gtr 12 0,I 14 13,bO 14 true 15 0,bO 14 true 16 3,al 14 true (aS 17 .sub 16 1),al 14 true (cw 18 2 15 17),al 14 true (aI 19 0 1 18),al 14 true (az 20 1 19),al 14 true (aI 21 0 1 4),al 14 true (az 22 1 21),al 14 true (bq 23 .geq 20 22),de 24 14 23,I 25 24,al 25 false (aI 26 0 1 4),al 25 false (az 27 1 26),al 25 false (c2 28 141 [.t 27,(dS 0),(dS 100000)]),al 25 false (cx 29 28),cV 30 25 29,I 31 30,al 31 false (aI 32 1 1 4),al 31 false (az 33 1 32),al 31 false (aS 34 .neq 33 2),bO 31 false 35 34,al 35 true (aI 36 1 1 4),al 35 true (az 37 1 36),al 35 true (aS 38 .neq 37 3),al 31 false (de 39 35 38),cV 40 31 39]) (aZ 40 (aa [bh 2 false] .ret) .skip)))) (.region [aS 41 .add 7 1,I 7 41])))) (aa [bh 2 true] .ret)))
@[simp] def EJ:List bW:=[.tmp 2]
def Se:C:=(aa [bh 2 false] (.seq (aa [I 5 0,ct 6 5,b6 7 0] (eZ 8 7 6 (.seq (.block 1 (aa [I 9 7,cw 10 2 5 7,aV 11 2 10,cX (.alloc 4 none (.agg [.int .i64 0,.str []])),I 3 9,bu 2 4 11] (.seq (.drawn true 37 [I 12 3,aS 13 .gtr 12 0,I 14 13,bO 14 true 15 0,bO 14 true 16 3,al 14 true (aS 17 .sub 16 1),al 14 true (cw 18 2 15 17),al 14 true (aV 19 2 18),al 14 true (aV 20 2 4),al 14 true (b5 21 215 19 20),al 14 true (cx 22 21),de 23 14 22,I 24 23,al 24 false (aI 25 0 1 4),al 24 false (az 26 1 25),al 24 false (c2 27 141 [.t 26,(dS 0),(dS 100000)]),al 24 false (cx 28 27),cV 29 24 28,I 30 29,al 30 false (aI 31 1 1 4),al 30 false (az 32 1 31),al 30 false (cG 33 216 32),al 30 false (cx 34 33),cV 35 30 34]) (aZ 35 (aa [bh 2 false] .ret) .skip)))) (.region [aS 36 .add 7 1,I 7 36])))) (aa [bh 2 true] .ret)))
@[simp] def BN:List bW:=[.tmp 2]
def z8:C:=(aa [cU 4 1,eA 6 2,bh 7 false] (.seq (aa [aI 10 0 1 4,az 11 1 10,aS 12 .neq 11 1] (aZ 12 (.seq (.drawn true 73 [I 13 0,aI 14 0 1 4,az 15 1 14,I 16 2,bq 17 .eql 15 16,I 6 13,I 7 17]) .ret) .skip)) (aa [b6 8 0] (.seq (.block 0 (.loop (.seq (.seq (.drawn true 73 [I 18 8,I 19 0,ct 20 19,bq 21 .lss 18 20,I 22 21,bO 22 true 23 0,bO 22 true 24 8,al 22 true (cw 25 2 23 24),al 22 true (aI 26 0 1 25),al 22 true (az 27 1 26),al 22 true (aI 28 1 1 4),al 22 true (az 29 1 28),al 22 true (bq 30 .lss 27 29),de 31 22 30]) (aZ 31 .skip (.exit 0))) (.block 1 (.region [I 32 8,aS 33 .add 32 1,I 8 33]))))) (.seq (.seq (.drawn true 73 [I 34 8,I 35 0,ct 36 35,bq 37 .lss 34 36,I 38 37,bO 38 true 39 0,bO 38 true 40 8,al 38 true (cw 41 2 39 40),al 38 true (aI 42 0 1 41),al 38 true (az 43 1 42),al 38 true (aI 44 1 1 4),al 38 true (az 45 1 44),al 38 true (bq 46 .eql 43 45),de 47 38 46]) (aZ 47 (.seq (.drawn true 73 [I 48 0,I 49 0,I 50 8,cw 51 2 49 50,aI 52 1 1 51,az 53 1 52,I 54 2,bq 55 .eql 53 54,I 6 48,I 7 55]) .ret) .skip)) (aa [dI 56 2 104 [],I 57 0,I 58 8,b2 59 (.lsl 2 (.t 57) none (some (.t 58))),gf 60 2 104 56 59,I 9 60] (aa [I 61 9,aI 62 1 1 4,az 63 1 62,I 64 2,b2 65 (.build [.int .i64 0,.int .i64 0] [(0,1,(.t 63)),(1,1,(.t 64))]),dI 66 2 104 [.t 65],gf 67 2 104 61 66,I 9 67] (aa [I 68 9,I 69 0,I 70 8,b2 71 (.lsl 2 (.t 69) (some (.t 70)) none),gf 72 2 104 68 71,I 6 72,bh 7 true] .ret))))))))
@[simp] def xv:List bW:=[.tmp 6,.tmp 7]
def Ky:C:=(aa [cU 4 1,eA 6 2,bh 7 false] (.seq (aa [aV 13 4 4,I 14 2,b5 15 77 13 14] (aZ 15 (aa [eA 6 2,bh 7 false] .ret) .skip)) (.seq (aa [aV 16 4 4,c2 17 165 [.t 16,(.c (.slice 1 .nil []))],ct 18 17,b6 19 0] (eZ 20 19 18 (.seq (.block 1 (aa [cw 21 1 17 19,az 22 1 21,I 9 22] (aa [I 23 9,I 24 2,b2 25 (.build [.int .i64 0,.str []] [(0,1,(.t 23)),(1,1,(.t 24))]),cX (.alloc 10 none (.agg [.int .i64 0,.str []])),bu 2 10 25] (aa [b6 11 0] (.seq (.block 2 (.loop (.seq (.seq (.drawn true 68 [I 26 11,I 27 0,ct 28 27,bq 29 .lss 26 28,I 30 29,bO 30 true 31 0,bO 30 true 32 11,al 30 true (cw 33 2 31 32),al 30 true (aV 34 2 33),al 30 true (aV 35 2 10),al 30 true (b5 36 215 34 35),de 37 30 36]) (aZ 37 .skip (.exit 2))) (.block 3 (.region [I 38 11,aS 39 .add 38 1,I 11 39]))))) (.seq (.drawn true 68 [I 40 11,I 41 0,ct 42 41,bq 43 .eql 40 42,I 44 43,al 44 false (aV 45 2 10),bO 44 false 46 0,bO 44 false 47 11,al 44 false (cw 48 2 46 47),al 44 false (aV 49 2 48),al 44 false (b5 50 215 45 49),cV 51 44 50]) (aZ 51 (aa [dI 52 2 106 [],I 53 0,I 54 11,b2 55 (.lsl 2 (.t 53) none (some (.t 54))),gf 56 2 106 52 55,I 12 56] (aa [I 57 12,aV 58 2 10,dI 59 2 106 [.t 58],gf 60 2 106 57 59,I 12 60] (.region [I 61 12,I 62 0,I 63 11,b2 64 (.lsl 2 (.t 62) (some (.t 63)) none),gf 65 2 106 61 64,I 0 65]))) .skip))))))) (.fg false 0 (.region [aS 66 .add 19 1,I 19 66]))))) (aa [I 67 0,I 6 67,bh 7 true] .ret))))
@[simp] def OB:List bW:=[.tmp 6,.tmp 7]
def Gh:C:=(aa [cU 2 0,cU 3 1,bh 4 false] (aa [aI 5 0 1 2,az 6 1 5,aI 7 0 1 3,az 8 1 7,bq 9 .lss 6 8,I 10 9,al 10 false (aI 11 0 1 2),al 10 false (az 12 1 11),al 10 false (aI 13 0 1 3),al 10 false (az 14 1 13),al 10 false (bq 15 .eql 12 14),bO 10 false 16 15,al 16 true (aI 17 1 1 2),al 16 true (az 18 1 17),al 16 true (aI 19 1 1 3),al 16 true (az 20 1 19),al 16 true (bq 21 .lss 18 20),al 10 false (de 22 16 21),cV 23 10 22,I 4 23] .ret))
@[simp] def aol:List bW:=[.tmp 4]
def SM:C:=(aa [eA 4 2,bh 5 false] (aa [dI 10 2 104 [],I 6 10] (aa [bh 7 true] (.seq (.seq (.fg false 6 (.region [I 11 1,ct 12 11,b6 13 0])) (eZ 14 13 12 (.seq (.block 1 (aa [cw 15 2 11 13,aV 16 2 15,cX (.alloc 9 none (.agg [.int .i64 0,.int .i64 0])),bu 2 9 16] (.seq (.drawn true 33 [I 18 6,I 19 0,aI 20 0 1 9,az 21 1 20,cG 22 91 21,b5 23 236 19 22,aI 24 1 1 9,az 25 1 24,c2 26 178 [.t 18,.t 23,.t 25],I 17 26,cj 27 0 17,cj 28 1 17,I 6 27,I 7 28]) (aa [I 29 7,cx 30 29] (aZ 30 (aa [eA 4 2,bh 5 false] .ret) .skip))))) (.region [aS 31 .add 13 1,I 13 31])))) (aa [I 32 6,I 4 32,bh 5 true] .ret)))))
@[simp] def OA:List bW:=[.tmp 4,.tmp 5]
def SN:C:=(aa [eA 4 2,bh 5 false] (aa [dI 10 2 106 [],I 6 10] (aa [bh 7 true] (.seq (.seq (.fg false 6 (.region [I 11 1,ct 12 11,b6 13 0])) (eZ 14 13 12 (.seq (.block 1 (aa [cw 15 2 11 13,aV 16 2 15,cX (.alloc 9 none (.agg [.int .i64 0,.str []])),bu 2 9 16] (.seq (.drawn true 33 [I 18 6,I 19 0,aI 20 0 1 9,az 21 1 20,cG 22 91 21,b5 23 236 19 22,aI 24 1 1 9,az 25 1 24,c2 26 179 [.t 18,.t 23,.t 25],I 17 26,cj 27 0 17,cj 28 1 17,I 6 27,I 7 28]) (aa [I 29 7,cx 30 29] (aZ 30 (aa [eA 4 2,bh 5 false] .ret) .skip))))) (.region [aS 31 .add 13 1,I 13 31])))) (aa [I 32 6,I 4 32,bh 5 true] .ret)))))
@[simp] def OC:List bW:=[.tmp 4,.tmp 5]
def we:List (Nat×dB):=[
 (3,⟨1,8,.int .i64,.int .i64 0⟩),
 (9,⟨1,16,.str,.str []⟩),
 (25,⟨1,24,.slice 104,.slice 2 .nil []⟩),
 (26,⟨1,24,.slice 106,.slice 2 .nil []⟩),
 (30,⟨1,24,.slice 32,.slice 4 .nil []⟩),
 (32,⟨4,56,.struct [(0,3),(1,3),(2,9),(3,30)],.agg [.int .i64 0,.int .i64 0,.str [],.slice 4 .nil []]⟩),
 (104,⟨2,16,.struct [(0,3),(1,3)],.agg [.int .i64 0,.int .i64 0]⟩),
 (106,⟨2,24,.struct [(0,3),(1,9)],.agg [.int .i64 0,.str []]⟩),
 (112,⟨1,24,.slice 3,.slice 1 .nil []⟩)]
theorem mR:fM ax we=true:=by kernel_rfl
theorem Es:b3 we z7 xu 2 Tryz.f77=true:=by kernel_rfl
theorem CU:ax.funcs[(77:Nat)]? =some Tryz.f77:=Tryz.func77
theorem amt:b3 we R8 EJ 1 Tryz.f144=true:=by kernel_rfl
theorem afp:ax.funcs[(144:Nat)]? =some Tryz.f144:=Tryz.func144
theorem amz:b3 we Se BN 1 Tryz.f145=true:=by kernel_rfl
theorem afv:ax.funcs[(145:Nat)]? =some Tryz.f145:=Tryz.func145
theorem Et:b3 we z8 xv 3 Tryz.f178=true:=by kernel_rfl
theorem CV:ax.funcs[(178:Nat)]? =some Tryz.f178:=Tryz.func178
theorem XU:b3 we Ky OB 3 Tryz.f179=true:=by kernel_rfl
theorem TU:ax.funcs[(179:Nat)]? =some Tryz.f179:=Tryz.func179
theorem NW:b3 we Gh aol 2 Tryz.f215=true:=by kernel_rfl
theorem Ld:ax.funcs[(215:Nat)]? =some Tryz.f215:=Tryz.func215
theorem am6:b3 we SM OA 2 Tryz.f217=true:=by kernel_rfl
theorem af2:ax.funcs[(217:Nat)]? =some Tryz.f217:=Tryz.func217
theorem am7:b3 we SN OC 2 Tryz.f218=true:=by kernel_rfl
theorem af3:ax.funcs[(218:Nat)]? =some Tryz.f218:=Tryz.func218
open Classical in
theorem aqD(l:List ca):bQ ax 144 [.slice 2 .no (l.map ca.e)] (.bool (decide (hl l))):=by
 generalize bA:decide (hl l)=R;refine bj mR afp amt fun aR=>?_;unfold R8;have h1:l.length<=68719476736:=by simp[gI,fZ,gz,lim]at aR;omega
 simp;refine dT [0,5,6] (fun i (_:Unit)=>[(7,.int .i64 i)]) l.length (fun i _=> ∀j,j<i->iC mJ nZ l j) () bT (fun k ae=>Ω) (fun _ af _=>?_) (fun i _ hi af _=>?_)
 ·have:R=true:=by rw[<-bA,en,HL];exact af
  rw[this];exact cp
 ·obtain⟨b,ab⟩:∃b,l[i]? =some b:=⟨_,bY hi⟩;obtain⟨c,ar⟩:∃c,l[i-1]? =some c:=⟨_,bY Ω⟩;have cD:∀h,(l[i]'h)=b:=fun h=>by rw[bY hi]at ab;exact eH ab
  have cB:¬iC mJ nZ l i->R=false:=fun h=>by rw[<-bA,gn];exact fun cd=>h (HL.1 cd i hi)
  have dh:iC mJ nZ l i->∀j,j<i+1->iC mJ nZ l j:=fun h j jL=>by
   by_cases e:j=i
   ·rw[e];exact h
   ·exact af j Ω
  have mA:iC mJ nZ l i->mJ b:=fun h=>(h b ab).1;have bz:iC mJ nZ l i->0<i->c.v<b.v:=fun h bE=>(h b ab).2 c bE ar;have eh:mJ b->(0<i->c.v<b.v)->iC mJ nZ l i:=fun J U b1 gk=>by rw[ab]at gk;cases gk;exact⟨J,fun cq bE hy=>by rw[ar]at hy;cases hy;exact U bE⟩
  unfold mJ at mA eh;by_cases g0:0<i/\¬c.v<b.v
  ·rw[cB (fun h=>g0.2 (bz h g0.1))];have asu:=g0.1;have wC:b.v<=c.v:=Ω
   exact cp
  have aF:(decide (0<i)&&decide (b.v<=c.v))=false:=by simp;intro h;by_cases cA:c.v<b.v;exact cA;exact absurd ⟨h,cA⟩ g0
  by_cases g1:0<=b.v/\b.v<=100000;rotate_left
  ·rw[cB (fun h=>g1 (mA h).1)];have jK:decide (0<=b.v/\b.v<=100000)=false:=by simp only[gn];exact g1
   by_cases bE:0<i
   ·have wC:¬b.v<=c.v:=by simp[bE]at aF;omega
    simp[hi,cD,ar];(with_reducible repeat' first|refine aj ?_|refine aA (dx _ _ _) ?_|refine aB (dx _ _ _) ?_|simp[cD,ar,hi,bE,wC,jK,g1]);all_goals simp[bk,EJ,aU,aW,aT]
   ·obtain rfl:i=0:=Ω
    simp[hi,cD,ar];(with_reducible repeat' first|refine aj ?_|refine aA (dx _ _ _) ?_|refine aB (dx _ _ _) ?_|simp[cD,ar,hi,jK,g1]);all_goals simp[bk,EJ,aU,aW,aT]
  have jK:decide (0<=b.v/\b.v<=100000)=true:=by simp only[en];exact g1
  by_cases g2:b.k=2\/b.k=3;rotate_left
  ·rw[cB (fun h=>g2 (mA h).2)];have g21:(b.k !=2)=true:=by simp;omega
   have g22:(b.k !=3)=true:=by simp;omega
   by_cases bE:0<i
   ·have wC:¬b.v<=c.v:=by simp[bE]at aF;omega
    simp[hi,cD,ar];(with_reducible repeat' first|refine aj ?_|refine aA (dx _ _ _) ?_|refine aB (dx _ _ _) ?_|simp[cD,ar,hi,bE,wC,jK,g1,g21,g22]);all_goals simp[bk,EJ,aU,aW,aT]
   ·obtain rfl:i=0:=Ω
    simp[hi,cD,ar];(with_reducible repeat' first|refine aj ?_|refine aA (dx _ _ _) ?_|refine aB (dx _ _ _) ?_|simp[cD,ar,hi,jK,g1,g21,g22]);all_goals simp[bk,EJ,aU,aW,aT]
  have dz:=dh (eh ⟨g1,g2⟩ fun bE=>by simp[bE]at aF;omega);have ry:((b.k !=2)=false)\/((b.k !=2)=true/\(b.k !=3)=false):=by
   rcases g2 with h|h
   ·left;simp[h]
   ·right;simp[h]
  rcases ry with g21|⟨g21,g22⟩
  ·by_cases bE:0<i
   ·have wC:¬b.v<=c.v:=by simp[bE]at aF;omega
    simp[hi,cD,ar];(with_reducible repeat' first|refine aj ?_|refine aA (dx _ _ _) ?_|refine aB (dx _ _ _) ?_|simp[cD,ar,hi,bE,wC,jK,g1,g21]);all_goals exact bP.rng () hi dz bT
   ·obtain rfl:i=0:=Ω
    simp[hi,cD,ar];(with_reducible repeat' first|refine aj ?_|refine aA (dx _ _ _) ?_|refine aB (dx _ _ _) ?_|simp[cD,ar,hi,jK,g1,g21]);all_goals exact bP.rng () hi dz bT
  ·by_cases bE:0<i
   ·have wC:¬b.v<=c.v:=by simp[bE]at aF;omega
    simp[hi,cD,ar];(with_reducible repeat' first|refine aj ?_|refine aA (dx _ _ _) ?_|refine aB (dx _ _ _) ?_|simp[cD,ar,hi,bE,wC,jK,g1,g21,g22]);all_goals exact bP.rng () hi dz bT
   ·obtain rfl:i=0:=Ω
    simp[hi,cD,ar];(with_reducible repeat' first|refine aj ?_|refine aA (dx _ _ _) ?_|refine aB (dx _ _ _) ?_|simp[cD,ar,hi,jK,g1,g21,g22]);all_goals exact bP.rng () hi dz bT
theorem mq(a b:bs):bQ ax 215 [a.e,b.e] (.bool (h4 fp a b)):=by
 rw[<-Xr];have bA:ux a b=(decide (a.v<b.v)||(a.v==b.v&&hL a.s b.s)):=rfl;rcases Int.lt_trichotomy a.v b.v with h|h|h
 ·have:ux a b=true:=by rw[bA];simp[h]
  rw[this];refine bj mR Ld NW fun aR=>?_;unfold Gh;exact cp
 ·have J:¬a.v<b.v:=Ω
  have U:(a.v==b.v)=true:=by simp[h]
  have:ux a b=hL a.s b.s:=by rw[bA];simp[h]
  rw[this];refine bj mR Ld NW fun aR=>?_;unfold Gh;exact cp
 ·have J:¬a.v<b.v:=Ω
  have U:¬a.v=b.v:=Ω
  have ao:(a.v==b.v)=false:=by simp[U]
  have:ux a b=false:=by rw[bA];simp[J,U]
  rw[this];refine bj mR Ld NW fun aR=>?_;unfold Gh;exact cp
def ajT(s:List c0)(a b:T)(i:Nat)(_:Unit):Prop:=(1<=i->a.has s=false)/\(2<=i->b.has s=false)
theorem Jv(s:List c0):∀t:T,bQ ax 77 [t.e,.str s] (.bool (t.has s))
 | .pair a b=>by
  have dJ:=Jv s a;have dK:=Jv s b;refine bj mR CU Es fun aR=>?_;unfold z7;simp;refine dT [1,2,8,9] (fun i (_:Unit)=>[(10,.int .i64 i)]) 2 (ajT s a b) () bT ⟨fun h=>Ω,fun h=>Ω⟩ (fun _ af _=>?_) (fun i _ hi af _=>?_)
  ·simp;(with_reducible repeat' first|refine aj ?_|simp);simp[bk,xu,aU,aW,aT];simp[T.has,af.1,af.2]
  ·rcases(by omega:i=0\/i=1)with rfl|rfl
   ·cases bm:a.has s
    ·rw[bm]at dJ;simp;((with_reducible repeat' first|refine aj ?_|refine aA dJ ?_|refine aB dJ ?_|simp|((first|apply bL|apply bN|apply bM)<;>intro h<;>try simp at h))<;>(try exact cm));exact bP.rng () hi ⟨fun _=>bm,fun h=>Ω⟩ bT
    ·rw[bm]at dJ;simp;((with_reducible repeat' first|refine aj ?_|refine aA dJ ?_|refine aB dJ ?_|simp|((first|apply bL|apply bN|apply bM)<;>intro h<;>try simp at h))<;>(try exact cm));simp[bk,xu,aU,aW,aT];simp[T.has,bm]
   ·cases ab:b.has s
    ·rw[ab]at dK;simp;((with_reducible repeat' first|refine aj ?_|refine aA dK ?_|refine aB dK ?_|simp|((first|apply bL|apply bN|apply bM)<;>intro h<;>try simp at h))<;>(try exact cm));exact bP.rng () hi ⟨fun _=>af.1 Ω,fun _=>ab⟩ bT
    ·rw[ab]at dK;simp;((with_reducible repeat' first|refine aj ?_|refine aA dK ?_|refine aB dK ?_|simp|((first|apply bL|apply bN|apply bM)<;>intro h<;>try simp at h))<;>(try exact cm));simp[bk,xu,aU,aW,aT];simp[T.has,ab]
 | .sym n=>by
  refine bj mR CU Es fun aR=>?_;unfold z7;simp;refine dT [1,2,8,9] (fun i (_:Unit)=>[(10,.int .i64 i)]) 0 (fun i _=>True) () bT trivial (fun _ af _=>?_) (fun i _ hi af _=>Ω);simp;(with_reducible repeat' first|refine aj ?_|simp);all_goals simp[bk,xu,aU,aW,aT]
  all_goals simp[T.has]
 | .num n=>by
  refine bj mR CU Es fun aR=>?_;unfold z7;simp;refine dT [1,2,8,9] (fun i (_:Unit)=>[(10,.int .i64 i)]) 0 (fun i _=>True) () bT trivial (fun _ af _=>?_) (fun i _ hi af _=>Ω);simp;(with_reducible repeat' first|refine aj ?_|simp);all_goals simp[bk,xu,aU,aW,aT]
  all_goals simp[T.has]
 | .var n=>by
  refine bj mR CU Es fun aR=>?_;unfold z7;simp;refine dT [1,2,8,9] (fun i (_:Unit)=>[(10,.int .i64 i)]) 0 (fun i _=>True) () bT trivial (fun _ af _=>?_) (fun i _ hi af _=>Ω);simp;(with_reducible repeat' first|refine aj ?_|simp);all_goals simp[bk,xu,aU,aW,aT]
  all_goals simp[T.has]
 | .nil=>by
  refine bj mR CU Es fun aR=>?_;unfold z7;simp;refine dT [1,2,8,9] (fun i (_:Unit)=>[(10,.int .i64 i)]) 0 (fun i _=>True) () bT trivial (fun _ af _=>?_) (fun i _ hi af _=>Ω);simp;(with_reducible repeat' first|refine aj ?_|simp);all_goals simp[bk,xu,aU,aW,aT]
  all_goals simp[T.has]
def n7(l:List ca)(o:Option (List ca)):ak:= .tuple [.slice 2 .no ((o.getD l).map ca.e),.bool o.isSome]
@[simp]theorem atz(S:aM->Prop)(l:List ca)(o:Option (List ca)):aJ S (n7 l o)=True:=by simp[n7]
def w4(l:List ca)(n:Int)(i:Nat):Prop:=i<=l.length/\∀j y,j<i->l[j]? =some y->y.v<n
theorem w4.none{l:List ca}{n:Int}{i:Nat}(h:w4 l n i)(bm:l.Pairwise fun x y=>x.v<y.v)(ar:∀c,l[i]? =some c->n<c.v):lx l n=none:=yQ.2 fun x ad=>by
 obtain⟨j,dF,rfl⟩:=oi ad;have e:=bY dF;rcases Nat.lt_or_ge j i with J|J
 ·have:=h.2 j _ J e;omega
 ·have AJ:i<l.length:=Ω
  have aG:=bY AJ;have ao:=ar _ aG;rcases Nat.lt_or_ge i j with U|U
  ·have:=o2.1 bm i j AJ dF U;omega
  ·obtain rfl:i=j:=Ω
   omega
theorem w4.ins{l:List ca}{n k:Int}{i:Nat}(h:w4 l n i)(ar:∀c,l[i]? =some c->n<c.v):mg ⟨n,k⟩ l=l.take i++⟨n,k⟩::l.drop i:=V0 ⟨n,k⟩ l i (fun j y J U=>h.2 j y J U) (fun y aC=>by have:=ar y aC;simp;omega) h.1
theorem w4.step{l:List ca}{n:Int}{i:Nat}{b:ca}(h:w4 l n i)(ab:l[i]? =some b)(au:b.v<n):w4 l n (i+1):=⟨(eS.1 ab).1,fun j y J U=>by
 rcases(by omega:j<i\/j=i)with ao|rfl
 ·exact h.2 j y ao U
 ·rw[ab]at U;cases U;exact au⟩
theorem aqk(l:List ca)(av:l.length<=1000000)(bm:l.Pairwise fun x y=>x.v<y.v)(n k:Int):bQ ax 178 [.slice 2 .no (l.map ca.e),(T.var n).e,.int .i64 k] (n7 l (hN l (.var n) k)):=by
 generalize ds:hN l (.var n) k=O;have dX:(match lx l n with|some bH=>if bH=k then some l else none|none=>some (mg ⟨n,k⟩ l))=O:=by rw[<-ds];rfl
 clear ds;refine bj mR CV Et fun aR=>?_;unfold z8;simp;refine u9 [0,2,4] (fun(i:Nat)=>[(8,.int .i64 i)]) (fun i=>l.length-i) (w4 l n) 0 bT ⟨Ω,fun j y h=>Ω⟩ (fun i af _=>?_);have ae:=af.1;by_cases hi:i<l.length
 ·obtain⟨b,ab,cD⟩:=ej hi;rcases Int.lt_trichotomy b.v n with h|h|h
  ·have ag:=af.step ab h;clear dX af ab bm;simp[hi,cD,h];((with_reducible repeat' first|refine aj ?_|simp[hi,cD,h]|((first|apply bL|apply bN|apply bM)<;>intro h<;>try simp at h))<;>(try exact cm));exact bP.whl (i+1) Ω ag bT
  ·have aX:lx l n=some b.k:=by rw[<-h];exact HO bm (dP ab)
   have J:¬b.v<n:=Ω
   have U:(b.v==n)=true:=by simp[h]
   rw[aX]at dX;simp only at dX;subst dX;clear af ab bm aX;simp[hi,cD,J,U];(with_reducible repeat' first|refine aj ?_|simp[hi,cD,J,U]);all_goals simp[bk,xv,aU,aW,aT]
   all_goals(by_cases e:b.k=k<;>simp[n7,e])
  ·have J:¬b.v<n:=Ω
   have U:(b.v==n)=false:=by simp;omega
   have ar:∀c,l[i]? =some c->n<c.v:=fun c ar=>by rw[ab]at ar;cases ar;exact h
   rw[af.none bm ar]at dX;simp only[af.ins ar]at dX;subst dX;clear af ab bm ar;simp[hi,cD,J,U];(with_reducible repeat' first|refine aj ?_|simp[hi,cD,J,U]);all_goals simp[bk,xv,aU,aW,aT]
   all_goals simp[n7]
   rw[gw (by simp:(l.map ca.e).length<=l.length),<-List.map_take,<-List.map_drop,<-ht,<-r6];exact Pj _
 ·have ar:∀c,l[i]? =some c->n<c.v:=fun c ar=>by rw[pT Ω]at ar;cases ar
  rw[af.none bm ar]at dX;simp only[af.ins ar]at dX;have AJ:i=l.length:=Ω
  clear af bm ar;subst dX;subst AJ;simp;(with_reducible repeat' first|refine aj ?_|simp);all_goals simp[bk,xv,aU,aW,aT]
  all_goals simp[n7]
  rw[gw (by simp:(l.map ca.e).length<=l.length),show [(⟨n,k⟩:ca).e]=[(⟨n,k⟩:ca)].map ca.e from rfl,<-r6];exact Pj _
theorem PJ(l:List ca)(av:l.length<=1000000)(bm:l.Pairwise fun x y=>x.v<y.v)(t:T)(k:Int):bQ ax 178 [.slice 2 .no (l.map ca.e),t.e,.int .i64 k] (n7 l (hN l t k)):=by
 cases t with
 |var n=>exact aqk l av bm n k
 |nil=>
  refine bj mR CV Et fun aR=>?_;unfold z8;simp;(with_reducible repeat' first|refine aj ?_|simp);all_goals simp[bk,xv,aU,aW,aT]
  all_goals(by_cases e:0=k<;>simp[n7,hN,e])
 |sym n=>
  refine bj mR CV Et fun aR=>?_;unfold z8;simp;(with_reducible repeat' first|refine aj ?_|simp);all_goals simp[bk,xv,aU,aW,aT]
  all_goals(by_cases e:2=k<;>simp[n7,hN,e])
 |num n=>
  refine bj mR CV Et fun aR=>?_;unfold z8;simp;(with_reducible repeat' first|refine aj ?_|simp);all_goals simp[bk,xv,aU,aW,aT]
  all_goals(by_cases e:3=k<;>simp[n7,hN,e])
 |pair a b=>
  refine bj mR CV Et fun aR=>?_;unfold z8;simp;(with_reducible repeat' first|refine aj ?_|simp);all_goals simp[bk,xv,aU,aW,aT]
  all_goals(by_cases e:4=k<;>simp[n7,hN,e])
theorem aaV(s:List ai)(v:Int):hE s (.var v)=aY s v:=rfl
theorem PK{s:List ai}(ag:ek s){l:List ca}(av:hl l):bQ ax 217 [.slice 5 .no (s.map ai.e),.slice 2 .no (l.map ca.e)] (fS (fJ s l [])):=by
 have yA:=oK av;refine bj mR af2 am6 fun aR=>?_;unfold SM;simp;refine dT [0,11,12] (fun i (a:List ca)=>[(6,.slice 2 .no (a.map ca.e)),(13,.int .i64 i)]) l.length (V9 s l) [] bT ⟨⟨Ψ,Ψ⟩,rfl⟩ (fun a af _=>?_) (fun i a hi af _=>?_)
 ·obtain⟨_,af⟩:=af;rw[List.drop_length]at af;simp only[fJ]at af;rw[<-af];simp;(with_reducible repeat' first|refine aj ?_|simp);simp[bk,OA,aU,aW,aT];simp[fS]
 ·obtain⟨bm,af⟩:=af;obtain⟨b,ab,cD⟩:=ej hi;have pj:=av.at' b (dP ab);rw[k8 hi,cD]at af;simp only[fJ]at af;have lP:=Ju s ag.len (.var b.v);rw[aaV]at lP;have e9:=PJ a (by have:=oK bm;omega) bm.asc (aY s b.v) b.k;simp[hi,cD];cases dX:hN a (aY s b.v) b.k with
  |none=>rw[dX]at af e9;simp only at af;rw[<-af];simp only[n7]at e9;(with_reducible repeat' first|refine aj ?_|refine aA (ks _) ?_|refine aB (ks _) ?_|refine aA lP ?_|refine aB lP ?_|refine aA e9 ?_|refine aB e9 ?_|simp[cD,hi]);simp[bk,OA,aU,aW,aT];simp[fS]
  |some bn=>rw[dX]at af e9;simp only[n7]at e9;(with_reducible repeat' first|refine aj ?_|refine aA (ks _) ?_|refine aB (ks _) ?_|refine aA lP ?_|refine aB lP ?_|refine aA e9 ?_|refine aB e9 ?_|simp[cD,hi]);exact bP.rng bn hi ⟨FN bm (BZ ag pj.1) pj.2 dX,af⟩ bT
open Classical in
theorem aqE(l:List bs):bQ ax 145 [.slice 2 .no (l.map bs.e)] (.bool (decide (ji l))):=by
 generalize bA:decide (ji l)=R;refine bj mR afv amz fun aR=>?_;unfold Se;have h1:l.length<=68719476736:=by simp[gI,fZ,gz,lim]at aR;omega
 simp;refine dT [0,5,6] (fun i (_:Unit)=>[(7,.int .i64 i)]) l.length (fun i _=> ∀j,j<i->iC kF k0 l j) () bT (fun k ae=>Ω) (fun _ af _=>?_) (fun i _ hi af _=>?_)
 ·have:R=true:=by rw[<-bA,en,H0];exact af
  rw[this];exact cp
 ·obtain⟨b,ab⟩:∃b,l[i]? =some b:=⟨_,bY hi⟩;obtain⟨c,ar⟩:∃c,l[i-1]? =some c:=⟨_,bY Ω⟩;have cD:∀h,(l[i]'h)=b:=fun h=>by rw[bY hi]at ab;exact eH ab
  have cB:¬iC kF k0 l i->R=false:=fun h=>by rw[<-bA,gn];exact fun cd=>h (H0.1 cd i hi)
  have dh:iC kF k0 l i->∀j,j<i+1->iC kF k0 l j:=fun h j jL=>by
   by_cases e:j=i
   ·rw[e];exact h
   ·exact af j Ω
  have e8:∀p:Prop,(p->eB)->(iC kF k0 l i->p)->R=false:=fun p J U=>cB fun h=>J (U h);have mA:iC kF k0 l i->kF b:=fun h=>(h b ab).1;have bz:iC kF k0 l i->0<i->h4 fp c b=true:=fun h bE=>by simpa[h4,k0]using(h b ab).2 c bE ar
  have eh:kF b->(0<i->h4 fp c b=true)->iC kF k0 l i:=fun J U b1 gk=>by rw[ab]at gk;cases gk;exact⟨J,fun cq bE hy=>by rw[ar]at hy;cases hy;simpa[h4,k0]using U bE⟩
  unfold kF at mA eh;by_cases g4:0<i
  ·cases g5:h4 fp c b
   ·rw[e8 _ (fun h=>by rw[h]at g5;cases g5) (fun h=>bz h g4)];simp[hi,cD,ar];(with_reducible repeat' first|refine aj ?_|refine aA (mq _ _) ?_|refine aB (mq _ _) ?_|simp[cD,ar,hi,g4,g5]);all_goals simp[bk,BN,aU,aW,aT]
   ·by_cases g1:0<=b.v/\b.v<=100000;rotate_left
    ·rw[e8 _ (fun h=>g1 h) (fun h=>(mA h).1)];have jK:decide (0<=b.v/\b.v<=100000)=false:=by simp only[gn];exact g1
     simp[hi,cD,ar];(with_reducible repeat' first|refine aj ?_|refine aA (mq _ _) ?_|refine aB (mq _ _) ?_|refine aA (dx _ _ _) ?_|refine aB (dx _ _ _) ?_|simp[cD,ar,hi,g4,g5,jK,g1]);all_goals simp[bk,BN,aU,aW,aT]
    have jK:decide (0<=b.v/\b.v<=100000)=true:=by simp only[en];exact g1
    cases g3:ix b.s
    ·rw[e8 _ (fun h=>by rw[h]at g3;cases g3) (fun h=>(mA h).2)];have ch:=hq b.s;rw[g3]at ch;simp[hi,cD,ar];(with_reducible repeat' first|refine aj ?_|refine aA (mq _ _) ?_|refine aB (mq _ _) ?_|refine aA (dx _ _ _) ?_|refine aB (dx _ _ _) ?_|refine aA ch ?_|refine aB ch ?_|simp[cD,ar,hi,g4,g5,jK,g1]);all_goals simp[bk,BN,aU,aW,aT]
    have ch:=hq b.s;rw[g3]at ch;have dz:=dh (eh ⟨g1,g3⟩ fun _=>g5);simp[hi,cD,ar];(with_reducible repeat' first|refine aj ?_|refine aA (mq _ _) ?_|refine aB (mq _ _) ?_|refine aA (dx _ _ _) ?_|refine aB (dx _ _ _) ?_|refine aA ch ?_|refine aB ch ?_|simp[cD,ar,hi,g4,g5,jK,g1]);all_goals exact bP.rng () hi dz bT
  ·obtain rfl:i=0:=Ω
   by_cases g1:0<=b.v/\b.v<=100000;rotate_left
   ·rw[e8 _ (fun h=>g1 h) (fun h=>(mA h).1)];have jK:decide (0<=b.v/\b.v<=100000)=false:=by simp only[gn];exact g1
    simp[hi,cD,ar];(with_reducible repeat' first|refine aj ?_|refine aA (mq _ _) ?_|refine aB (mq _ _) ?_|refine aA (dx _ _ _) ?_|refine aB (dx _ _ _) ?_|simp[cD,ar,hi,g4,jK,g1]);all_goals simp[bk,BN,aU,aW,aT]
   have jK:decide (0<=b.v/\b.v<=100000)=true:=by simp only[en];exact g1
   cases g3:ix b.s
   ·rw[e8 _ (fun h=>by rw[h]at g3;cases g3) (fun h=>(mA h).2)];have ch:=hq b.s;rw[g3]at ch;simp[hi,cD,ar];(with_reducible repeat' first|refine aj ?_|refine aA (mq _ _) ?_|refine aB (mq _ _) ?_|refine aA (dx _ _ _) ?_|refine aB (dx _ _ _) ?_|refine aA ch ?_|refine aB ch ?_|simp[cD,ar,hi,g4,jK,g1]);all_goals simp[bk,BN,aU,aW,aT]
   have ch:=hq b.s;rw[g3]at ch;have dz:=dh (eh ⟨g1,g3⟩ fun h=>absurd h g4);simp[hi,cD,ar];(with_reducible repeat' first|refine aj ?_|refine aA (mq _ _) ?_|refine aB (mq _ _) ?_|refine aA (dx _ _ _) ?_|refine aB (dx _ _ _) ?_|refine aA ch ?_|refine aB ch ?_|simp[cD,ar,hi,g4,jK,g1]);all_goals exact bP.rng () hi dz bT
def qb(s:List c0)(a7:List Int)(l:List bs):List bs:=a7.foldl (fun a v=>kC fp ⟨v,s⟩ a) l
theorem Lj(s:List c0):∀(a7:List Int) {l:List bs},gT fp l->gT fp (qb s a7 l)
 |[],_,h=>h
 |v::a7,_,h=>Lj s a7 (MD mm h)
theorem W9(s:List c0){x:bs}:∀(a7:List Int) {l:List bs},x∈qb s a7 l↔x∈l\/(x.s=s/\x.v∈a7)
 |[],l=>by simp[qb]
 |v::a7,l=>by
  have:=W9 s (x:=x) a7 (l:=kC fp ⟨v,s⟩ l);rw[show qb s (v::a7) l=qb s a7 (kC fp ⟨v,s⟩ l)from rfl,this,H4 mm,e7];constructor
  ·rintro((rfl|h)|⟨J,U⟩)
   ·exact .inr ⟨rfl,.inl rfl⟩
   ·exact .inl h
   ·exact .inr ⟨J,.inr U⟩
  ·rintro(h|⟨J,U|U⟩)
   ·exact .inl (.inr h)
   ·refine .inl (.inl ?_);cases x;simp_all
   ·exact .inr ⟨J,U⟩
theorem T4(s:List c0):∀(a7:List Int) (l:List bs),(qb s a7 l).length<=l.length+a7.length
 |[],l=>by simp[qb]
 |v::a7,l=>by have J:=T4 s a7 (kC fp ⟨v,s⟩ l);have U:=MF (c:=fp) (⟨v,s⟩:bs) l;rw[show qb s (v::a7) l=qb s a7 (kC fp ⟨v,s⟩ l)from rfl];simp only[oj];omega
theorem agk{t:T}{s:List c0}(cA:t.has s=false){l:List bs}(bm:gT fp l):im l t s=some (qb s (iy t []) l):=JU cA (Lj s _ bm) fun x=>by rw[W9,Ef];simp
def DV(l:List bs)(a7:List Int)(s:List c0)(i:Nat)(a:List bs):Prop:=a=qb s (a7.take i) l
def A6(a:List bs)(m:bs)(k:Nat):Prop:=k<=a.length/\∀j y,j<k->a[j]? =some y->fp y m<0
theorem A6.step{a:List bs}{m:bs}{k:Nat}{b:bs}(h:A6 a m k)(ab:a[k]? =some b)(au:fp b m<0):A6 a m (k+1):=⟨(eS.1 ab).1,fun j y J U=>by
 rcases(by omega:j<k\/j=k)with ao|rfl
 ·exact h.2 j y ao U
 ·rw[ab]at U;cases U;exact au⟩
theorem A6.fin{a:List bs}{m:bs}{k:Nat}(h:A6 a m k)(ar:∀y,a[k]? =some y->0<=fp y m):kC fp m a=if(match a[k]? with|some y=>decide (fp y m=0)|none=>false)=true then a else a.take k++m::a.drop k:=(ME mm m a k (fun j y J U=>h.2 j y J U) ar h.1).trans (by cases a[k]?<;>rfl)
theorem Xp(a:List bs)(k:Nat)(m:bs):pU k (a.map bs.e)++m.e::List.drop k (a.map bs.e)=(a.take k++m::a.drop k).map bs.e:=by simp
theorem Bo(a:List bs)(k:Nat)(m:bs):c7 (pU k (a.map bs.e)++m.e::List.drop k (a.map bs.e))=pU k (a.map bs.e)++m.e::List.drop k (a.map bs.e):=by rw[Xp,Pk]
theorem Bn(S:aM->Prop)(a:List bs)(k:Nat)(m:bs):aN S (pU k (a.map bs.e)++m.e::List.drop k (a.map bs.e))=True:=by rw[Xp,WE]
theorem Xo(a:List bs)(m:bs):a.map bs.e++[m.e]=(a++[m]).map bs.e:=by simp
theorem Bm(a:List bs)(m:bs):c7 (a.map bs.e++[m.e])=a.map bs.e++[m.e]:=by rw[Xo,Pk]
theorem Bl(S:aM->Prop)(a:List bs)(m:bs):aN S (a.map bs.e++[m.e])=True:=by rw[Xo,WE]
theorem aaH(l:List bs)(av:l.length<=68719470000)(t:T)(aH:t.size<=5000)(s:List c0)(bm:gT fp l):bQ ax 179 [.slice 2 .no (l.map bs.e),t.e,.str s] (ig (im l t s)):=by
 have iU:=Jv s t;cases cA:t.has s;rotate_left
 ·have bE:im l t s=none:=by simp[im,cA]
  rw[bE];rw[cA]at iU;refine bj mR TU XU fun aR=>?_;unfold Ky;simp;(with_reducible repeat' first|refine aj ?_|refine aA iU ?_|refine aB iU ?_|simp);all_goals simp[bk,OB,aU,aW,aT]
  all_goals simp[ig]
 ·rw[cA]at iU;have dX:=agk cA bm;have iT:=Cj t [];have ft:=Fj t [] (by simp;omega) (by simp[tD]);have Az:dV []=[]:=rfl;rw[Az]at ft;rw[dX];clear dX cA;generalize iy t []=a7 at ft iT⊢;have kW:a7.length<=5000:=by simp at iT;omega
  generalize gB:qb s a7 l=F;refine bj mR TU XU fun aR=>?_;unfold Ky;simp;(with_reducible repeat' first|refine aj ?_|refine aA iU ?_|refine aB iU ?_|refine aA ft ?_|refine aB ft ?_|simp[e5]);refine dT [2,17,18] (fun i (a:List bs)=>[(0,.slice 2 .no (a.map bs.e)),(19,.int .i64 i)]) a7.length (DV l a7 s) l ⟨by simp[fresh,aN,aJ,cz,inObs,Pv.look,e5],eD bi,eE bv,Ψ⟩ (by simp[DV,qb]) (fun a af _=>?_) (fun i a hi af _=>?_)
  ·rw[DV,k9,gB]at af;subst af;simp[e5];(with_reducible repeat' first|refine aj ?_|simp[e5]);all_goals simp[bk,OB,aU,aW,aT]
   all_goals simp[ig]
  ·obtain⟨v,ay⟩:∃v,a7[i]? =some v:=⟨_,bY hi⟩;have nW:∀h,((dV a7)[i]'h)= .int .i64 v:=fun cd=>by have:=DR a7 i;rw[ay,bY cd]at this;exact eH this
   have sx:gT fp a:=by rw[af];exact Lj s _ bm
   have qd:a.length<=68719475000:=by have:=T4 s (a7.take i) l;rw[af];simp at this⊢;omega
   have fA:DV l a7 s (i+1) (kC fp ⟨v,s⟩ a):=by rw[DV,q6,ay,af];simp[qb]
   generalize hm:(⟨v,s⟩:bs)=m at fA;have aiu:m.v=v:=by rw[<-hm]
   have vt:m.s=s:=by rw[<-hm]
   subst aiu;subst vt;clear af gB;simp[hi,nW,e5];(with_reducible repeat' first|refine aj ?_|simp[hi,nW,e5]);refine u9 [0,2,10,17,18,19] (fun(k:Nat)=>[(11,.int .i64 k)]) (fun k=>a.length-k) (A6 a m) 0 ⟨by simp[fresh,aN,aJ,cz,inObs,Pv.look,e5],eD bi,eE bv,Ψ⟩ ⟨Ω,fun j y h=>Ω⟩ (fun k af _=>?_);have ae:=af.1;by_cases hI:k<a.length
   ·obtain⟨b,ab,cD⟩:=ej hI;cases bz:h4 fp b m
    ·have wK:0<=fp b m:=by simpa[h4]using bz
     have dz:=af.fin (fun y aC=>by rw[ab]at aC;cases aC;exact wK);rw[ab]at dz;cases G4:h4 fp m b
     ·have hle:0<=fp m b:=by simpa[h4]using G4
      have bE:fp b m=0:=by have:=mm.neg b m;omega
      rw[if_pos (by simp[bE])]at dz;rw[dz]at fA;clear af ab dz qd sx;simp[hI,cD];((with_reducible repeat' first|refine aj ?_|refine aA (mq _ _) ?_|refine aB (mq _ _) ?_|simp[hI,cD,bz,G4]|((first|apply bL|apply bN|apply bM)<;>intro h<;>try simp at h))<;>(try exact cm));all_goals exact bP.rng a hi fA ⟨by simp[fresh,aN,aJ,cz,inObs,Pv.look,e5],eD bi,eE bv,Ψ⟩
     ·have hle:fp m b<0:=by simpa[h4]using G4
      have bE:¬fp b m=0:=by have:=mm.neg b m;omega
      rw[if_neg (by simp[bE])]at dz;rw[dz]at fA;clear af ab dz sx;simp[hI,cD];((with_reducible repeat' first|refine aj ?_|refine aA (mq _ _) ?_|refine aB (mq _ _) ?_|simp[hI,cD,bz,G4]|((first|apply bL|apply bN|apply bM)<;>intro h<;>try simp at h))<;>(try exact cm));all_goals first|(refine⟨by unfold lim;omega,?_⟩)|skip
      all_goals(with_reducible repeat' first|refine aj ?_|simp)
      all_goals first|(refine⟨by unfold lim;omega,?_⟩)|skip
      all_goals((with_reducible repeat' first|refine aj ?_|simp|((first|apply bL|apply bN|apply bM)<;>intro h<;>try simp at h))<;>(try exact cm))
      all_goals exact bP.rng _ hi fA ⟨by simp[fresh,aN,aJ,cz,inObs,Pv.look,e5,gw,Bo,Bn,Bm,Bl],eD (by simp[fresh,aN,aJ,cz,inObs,Pv.look,e5,gw,Bo,Bn,Bm,Bl]),eE (by simp[fresh,aN,aJ,eg,inObs,Pv.look,e5,gw,Bo,Bn,Bm,Bl]),Ψ⟩
    ·have wQ:fp b m<0:=by simpa[h4]using bz
     have ag:=af.step ab wQ;clear af ab sx fA;simp[hI,cD];((with_reducible repeat' first|refine aj ?_|refine aA (mq _ _) ?_|refine aB (mq _ _) ?_|simp[hI,cD,bz]|((first|apply bL|apply bN|apply bM)<;>intro h<;>try simp at h))<;>(try exact cm));all_goals exact bP.whl (k+1) Ω ag ⟨by simp[fresh,aN,aJ,cz,inObs,Pv.look,e5],eD bi,eE bv,Ψ⟩
   ·have dz:=af.fin (fun y aC=>by rw[pT Ω]at aC;cases aC);rw[pT Ω]at dz;simp only[gZ,if_false]at dz;rw[dz]at fA;have gl:k=a.length:=Ω
    clear af dz sx;subst gl;simp;(with_reducible repeat' first|refine aj ?_|simp);all_goals first|(refine⟨by unfold lim;omega,?_⟩)|skip
    all_goals(with_reducible repeat' first|refine aj ?_|simp)
    all_goals first|(refine⟨by unfold lim;omega,?_⟩)|skip
    all_goals(with_reducible repeat' first|refine aj ?_|simp)
    all_goals exact bP.rng _ hi fA ⟨by simp[fresh,aN,aJ,cz,inObs,Pv.look,e5,gw,Bo,Bn,Bm,Bl],eD (by simp[fresh,aN,aJ,cz,inObs,Pv.look,e5,gw,Bo,Bn,Bm,Bl]),eE (by simp[fresh,aN,aJ,eg,inObs,Pv.look,e5,gw,Bo,Bn,Bm,Bl]),Ψ⟩
theorem PL{s:List ai}(ag:ek s){l:List bs}(av:ji l){G:List (List c0)}(hR:G.length<=687000)(aX:lU G l):bQ ax 218 [.slice 5 .no (s.map ai.e),.slice 2 .no (l.map bs.e)] (ig (fL s l [])):=by
 have hlen:∀{a:List bs},ji a->lU G a->a.length<=68719470000:=fun J U=>by have:=Ed J U;omega
 have yA:=hlen av aX;refine bj mR af3 am7 fun aR=>?_;unfold SN;simp;refine dT [0,11,12] (fun i (a:List bs)=>[(6,.slice 2 .no (a.map bs.e)),(13,.int .i64 i)]) l.length (Wa s G l) [] bT ⟨⟨Ψ,by simp[gT]⟩,fun x ad=>by simp at ad,rfl⟩ (fun a af _=>?_) (fun i a hi af _=>?_)
 ·obtain⟨_,_,af⟩:=af;rw[List.drop_length]at af;simp only[fL]at af;rw[<-af];simp;(with_reducible repeat' first|refine aj ?_|simp);simp[bk,OC,aU,aW,aT];simp[ig]
 ·obtain⟨bm,DH,af⟩:=af;obtain⟨b,ab,cD⟩:=ej hi;have pj:=av.at' b (dP ab);have LI:=aX b (dP ab);rw[k8 hi,cD]at af;simp only[fL]at af;have lP:=Ju s ag.len (.var b.v);rw[aaV]at lP;have e9:=aaH a (hlen bm DH) (aY s b.v) (E2 ag b.v) b.s bm.asc;simp[hi,cD];cases dX:im a (aY s b.v) b.s with
  |none=>rw[dX]at af e9;simp only at af;rw[<-af];simp only[ig]at e9;(with_reducible repeat' first|refine aj ?_|refine aA (ks _) ?_|refine aB (ks _) ?_|refine aA lP ?_|refine aB lP ?_|refine aA e9 ?_|refine aB e9 ?_|simp[cD,hi]);simp[bk,OC,aU,aW,aT];simp[ig]
  |some bn=>rw[dX]at af e9;simp only[ig]at e9;(with_reducible repeat' first|refine aj ?_|refine aA (ks _) ?_|refine aB (ks _) ?_|refine aA lP ?_|refine aB lP ?_|refine aA e9 ?_|refine aB e9 ?_|simp[cD,hi]);exact bP.rng bn hi ⟨FO bm (BZ ag pj.1) pj.2 dX,Cx DH LI dX,af⟩ bT
theorem apk{s:List ai}(aw:jQ s)(bm:hf s)(aQ:fP s):gL (s.map ai.b)=s.all (mZ s):=by
 rw[q4,fy,rV,<-ZK bm];constructor
 ·rintro⟨ah,J,U,ao,a6⟩;rw[p4 J];exact ao
 ·intro ao;exact⟨s,rfl,aw,ao,aQ⟩
theorem ab3{s:List ai}(bm:hf s)(b:ai):mZ s b=true↔(∀v∈iy b.t [],df s v=none)/\(b.t.kind==1&&decide (b.v<=b.t.int))=false:=by unfold mZ;rw[cr,T5 bm];simp only[true_and,pQ,Ef,List.not_mem_nil,or_false]
def DU(s:List ai)(a7:List Int)(i:Nat)(_:Unit):Prop:= ∀v∈a7.take i,df s v=none
theorem DU.step{s:List ai}{a7:List Int}{i:Nat}(h:DU s a7 i ()){v:Int}(ay:a7[i]? =some v)(au:df s v=none):DU s a7 (i+1) ():=fun w hw=>by
 rw[q6,ay]at hw;simp only[iz,Option.toList_some,jT]at hw;rcases hw with hw|rfl
 ·exact h w hw
 ·exact au
theorem PN(l:List dL):bQ ax 142 [.slice 5 .no (l.map dL.e)] (.bool (gL l)):=by
 have ay:=aaD l;by_cases h:uX l;rotate_left
 ·have bE:gL l=false:=by unfold gL;simp only[gn];rintro⟨s,J,U,ao,a6⟩;exact h (uN.2 ⟨s,J,U,ao.asc,a6⟩)
  rw[bE];refine bj eN TR XR fun aR=>?_;unfold Kv;exact cp
 ·obtain⟨s,rfl,aw,bm,aQ⟩:=uN.1 h;have av:s.length<=1000000:=by have:=aQ.1;omega
  rw[apk aw bm aQ];rw[qU]at ay⊢;simp only[h,decide_true]at ay;clear h;generalize bA:s.all (mZ s)=R;refine bj eN TR XR fun aR=>?_;unfold Kv;simp;(with_reducible repeat' first|refine aj ?_|refine aA ay ?_|refine aB ay ?_|simp);refine dT [0,12,13] (fun i (_:Unit)=>[(14,.int .i64 i)]) s.length (kD (mZ s) s) () bT (fun k b ae=>Ω) (fun _ af _=>?_) (fun i _ hi af _=>?_)
  ·have:R=true:=by rw[<-bA,fy];intro b ab;obtain⟨k,ae,e⟩:=oi ab;exact af k b ae (by rw[bY ae,e])
   rw[this];exact cp
  ·obtain⟨b,ab,cD⟩:=ej hi;have e8:¬mZ s b=true->R=false:=fun h=>by rw[<-bA,Bool.eq_false_iff];intro cd;rw[fy]at cd;exact h (cd b (dP ab))
   have sE:mZ s b=true->kD (mZ s) s (i+1) ():=fun h=>af.step ab h;have vo:=ab3 bm b;have ep:=aQ.2 b (dP ab);have iT:=Cj b.t [];have ft:=Fj b.t [] (by simp;omega) (by simp[tD]);have Az:dV []=[]:=rfl;rw[Az]at ft;generalize iy b.t []=a7 at ft iT vo;have kW:a7.length<=5000:=by simp at iT;omega
   rw[vo]at e8 sE;clear vo af iT ab;simp[hi,cD];cases ae:(b.t.kind==1&&decide (b.v<=b.t.int));rotate_left
   ·rw[e8 (by rw[ae];simp)];rw[cr]at ae;have fH:=ae.1;have jZ:b.v<=b.t.int:=of_decide_eq_true ae.2;exact cp
   ·rw[ae]at e8 sE;simp only[and_true]at e8 sE;cases fH:(b.t.kind==1)
    ·clear ae;(with_reducible repeat' first|refine aj ?_|refine aA ft ?_|refine aB ft ?_|simp[cD,hi,e5,fH]);refine dT [0,12,13,14,32,33] (fun j (_:Unit)=>[(34,.int .i64 j)]) a7.length (DU s a7) () ⟨by simp[fresh,aN,aJ,cz,inObs,Pv.look,e5],eD bi,eE bv,Ψ⟩ (fun v ay=>by simp at ay) (fun _ af _=>?_) (fun j _ dF af _=>?_)
     ·have aX:=sE (fun v ay=>af v (by rwa[k9]));simp[e5];(with_reducible repeat' first|refine aj ?_|simp[e5]);exact bP.rng () hi aX ⟨by simp[fresh,aN,aJ,cz,inObs,Pv.look,e5],eD bi,eE bv,Ψ⟩
     ·obtain⟨v,ay⟩:∃v,a7[j]? =some v:=⟨_,bY dF⟩;have nW:∀h,((dV a7)[j]'h)= .int .i64 v:=fun cd=>by have:=DR a7 j;rw[ay,bY cd]at this;exact eH this
      have jz:=r1 s v av;cases hj:df s v with
      |none=>have au:=af.step ay hj;rw[hj]at jz;simp only[kc,jG]at jz;clear af sE e8 hj;simp[dF,nW,e5];(with_reducible repeat' first|refine aj ?_|refine aA jz ?_|refine aB jz ?_|simp[dF,nW,e5]);exact bP.rng () dF au ⟨by simp[fresh,aN,aJ,cz,inObs,Pv.look,e5],eD bi,eE bv,Ψ⟩
      |some x=>rw[e8 (fun h=>by have:=h v (dP ay);rw[hj]at this;cases this)];rw[hj]at jz;simp only[jo,mV]at jz;clear af sE e8 hj;simp[dF,nW,e5];(with_reducible repeat' first|refine aj ?_|refine aA jz ?_|refine aB jz ?_|simp[dF,nW,e5]);simp[bk,Oo,aU,aW,aT]
    ·have jZ:¬b.v<=b.t.int:=by rw[fH]at ae;simpa using ae
     clear ae;(with_reducible repeat' first|refine aj ?_|refine aA ft ?_|refine aB ft ?_|simp[cD,hi,e5,fH,jZ]);refine dT [0,12,13,14,32,33] (fun j (_:Unit)=>[(34,.int .i64 j)]) a7.length (DU s a7) () ⟨by simp[fresh,aN,aJ,cz,inObs,Pv.look,e5],eD bi,eE bv,Ψ⟩ (fun v ay=>by simp at ay) (fun _ af _=>?_) (fun j _ dF af _=>?_)
     ·have aX:=sE (fun v ay=>af v (by rwa[k9]));simp[e5];(with_reducible repeat' first|refine aj ?_|simp[e5]);exact bP.rng () hi aX ⟨by simp[fresh,aN,aJ,cz,inObs,Pv.look,e5],eD bi,eE bv,Ψ⟩
     ·obtain⟨v,ay⟩:∃v,a7[j]? =some v:=⟨_,bY dF⟩;have nW:∀h,((dV a7)[j]'h)= .int .i64 v:=fun cd=>by have:=DR a7 j;rw[ay,bY cd]at this;exact eH this
      have jz:=r1 s v av;cases hj:df s v with
      |none=>have au:=af.step ay hj;rw[hj]at jz;simp only[kc,jG]at jz;clear af sE e8 hj;simp[dF,nW,e5];(with_reducible repeat' first|refine aj ?_|refine aA jz ?_|refine aB jz ?_|simp[dF,nW,e5]);exact bP.rng () dF au ⟨by simp[fresh,aN,aJ,cz,inObs,Pv.look,e5],eD bi,eE bv,Ψ⟩
      |some x=>rw[e8 (fun h=>by have:=h v (dP ay);rw[hj]at this;cases this)];rw[hj]at jz;simp only[jo,mV]at jz;clear af sE e8 hj;simp[dF,nW,e5];(with_reducible repeat' first|refine aj ?_|refine aA jz ?_|refine aB jz ?_|simp[dF,nW,e5]);simp[bk,Oo,aU,aW,aT]
theorem PO{s:List ai}(h:ek s):bQ ax 142 [.slice 5 .no (s.map ai.e)] (.bool true):=by have:=PN (s.map ai.b);rw[qU,rV.2 ⟨s,rfl,h.ok,h.sol,h.fits⟩]at this;exact this
def Aa:C:=(aa [cU 2 0,bh 4 false] (.seq (aa [aI 7 3 1 2,az 8 1 7,ct 9 8,b6 10 0] (eZ 11 10 9 (.seq (.block 1 (aa [cw 12 4 8 10,aV 13 4 12,cL 6 da,bu 4 6 13] (aa [aV 14 4 6,I 15 1,b5 16 136 14 15,cx 17 16] (aZ 17 (aa [bh 4 false] .ret) .skip)))) (.region [aS 18 .add 10 1,I 10 18])))) (aa [aI 19 0 1 2,az 20 1 19,aS 21 .neq 20 1,I 22 21,al 22 false (aI 23 1 1 2),al 22 false (az 24 1 23),bO 22 false 25 1,al 22 false (bq 26 .lss 24 25),cV 27 22 26,I 4 27] .ret)))
@[simp] def xw:List bW:=[.tmp 4]
def SI:C:=(aa [bh 2 false] (.seq (aa [I 5 0,ct 6 5,b6 7 0] (eZ 8 7 6 (.seq (.block 1 (aa [cw 9 1 5 7,az 10 1 9,I 4 10] (aa [I 11 4,cG 12 142 11,cx 13 12] (aZ 13 (aa [bh 2 false] .ret) .skip)))) (.region [aS 14 .add 7 1,I 7 14])))) (aa [bh 2 true] .ret)))
@[simp] def aoi:List bW:=[.tmp 2]
def SQ:C:=(aa [bh 4 false] (.seq (aa [I 7 0,ct 8 7,b6 9 0] (eZ 10 9 8 (.seq (.block 1 (aa [cw 11 5 7 9,aV 12 5 11,cL 6 ib,bu 5 6 12] (aa [aI 13 0 1 6,az 14 1 13,I 15 1,bq 16 .geq 14 15,I 17 16,al 17 false (hp 18 1 4 6),al 17 false (aV 19 4 18),bO 17 false 20 1,al 17 false (b5 21 136 19 20),al 17 false (cx 22 21),cV 23 17 22] (aZ 23 (aa [bh 4 false] .ret) .skip)))) (.region [aS 24 .add 9 1,I 9 24])))) (aa [bh 4 true] .ret)))
@[simp] def aon:List bW:=[.tmp 4]
def SF:C:=(aa [eA 4 5] (aa [dI 10 5 61 [],I 5 10] (.seq (aa [I 11 1,ct 12 11,b6 13 0] (eZ 14 13 12 (.seq (.block 1 (aa [cw 15 5 11 13,aV 16 5 15,cL 7 ib,bu 5 7 16] (aa [I 18 0,aI 19 0 1 7,az 20 1 19,b5 21 161 18 20,I 17 21,cj 22 0 17,cj 23 1 17,cL 8 da,bu 4 8 22,I 9 23] (aa [I 24 9,cx 25 24] (aZ 25 (.region [I 26 5,aV 27 5 7,dI 28 5 61 [.t 27],gf 29 5 61 26 28,I 5 29]) .skip))))) (.region [aS 30 .add 13 1,I 13 30])))) (aa [I 31 5,I 4 31] .ret))))
@[simp] def aoh:List bW:=[.tmp 4]
def SJ:C:=(aa [b6 4 0] (.seq (aa [b6 5 0] (.block 0 (.loop (.seq (aa [I 7 5,I 8 0,ct 9 8,bq 10 .lss 7 9,I 11 10,bO 11 true 12 5,bO 11 true 13 1,al 11 true (ct 14 13),al 11 true (bq 15 .lss 12 14),de 16 11 15] (aZ 16 .skip (.exit 0))) (.seq (.block 1 (.seq (.seq (.drawn true 67 [I 19 0,I 20 5,cw 21 5 19 20,aI 22 0 1 21,az 23 1 22,I 24 1,I 25 5,cw 26 5 24 25,aI 27 0 1 26,az 28 1 27,bq 29 .neq 23 28]) (aZ 29 (.seq (.drawn true 67 [I 30 0,I 31 5,cw 32 5 30 31,aI 33 0 1 32,az 34 1 33,I 35 1,I 36 5,cw 37 5 35 36,aI 38 0 1 37,az 39 1 38,bq 40 .lss 34 39,cG 41 238 40,I 4 41]) .ret) .skip)) (.seq (.drawn true 67 [I 42 0,I 43 5,cw 44 5 42 43,hp 45 1 4 44,aV 46 4 45,I 47 1,I 48 5,cw 49 5 47 48,hp 50 1 4 49,aV 51 4 50,b5 52 229 46 51,I 6 52]) (aa [I 53 6,aS 54 .neq 53 0] (aZ 54 (aa [I 55 6,I 4 55] .ret) .skip))))) (.region [I 17 5,aS 18 .add 17 1,I 5 18])))))) (.seq (aa [I 56 0,ct 57 56,I 58 1,ct 59 58,bq 60 .neq 57 59] (aZ 60 (aa [I 61 0,ct 62 61,I 63 1,ct 64 63,bq 65 .lss 62 64,cG 66 238 65,I 4 66] .ret) .skip)) (aa [b6 4 0] .ret))))
@[simp] def EK:List bW:=[.tmp 4]
def SL:C:=(aa [eA 2 1] (aa [dI 11 1 23 [],I 3 11] (.seq (.seq (.fg false 3 (.region [I 12 0,ct 13 12,b6 14 0])) (eZ 15 14 13 (.seq (.block 1 (aa [cw 16 1 12 14,az 17 1 16,I 5 17] (aa [bh 6 true] (.seq (aa [I 18 0,ct 19 18,b6 20 0] (.block 2 (.loop (aa [bq 21 .lss 20 19] (.seq (aZ 21 .skip (.exit 2)) (.seq (.block 3 (aa [cw 22 1 18 20,az 23 1 22,I 8 23] (.region [I 24 6,I 25 24,bO 25 true 26 8,bO 25 true 27 5,al 25 true (b5 28 180 26 27),al 25 true (aS 29 .eql 28 0),bO 25 true 30 29,bO 30 false 31 8,bO 30 false 32 5,al 30 false (b5 33 269 31 32),al 30 false (cx 34 33),al 25 true (cV 35 30 34),de 36 25 35,I 6 36]))) (.region [aS 37 .add 20 1,I 20 37]))))))) (aa [I 38 3,ct 39 38,I 9 39] (.seq (.block 4 (.loop (.seq (aa [I 40 9,aS 41 .gtr 40 0,I 42 41,bO 42 true 43 3,bO 42 true 44 9,al 42 true (aS 45 .sub 44 1),al 42 true (cw 46 1 43 45),al 42 true (az 47 1 46),bO 42 true 48 5,al 42 true (b5 49 180 47 48),al 42 true (aS 50 .geq 49 0),de 51 42 50] (aZ 51 .skip (.exit 4))) (.block 5 (.region [I 52 9,aS 53 .sub 52 1,I 9 53]))))) (aa [I 54 6,I 55 54,bO 55 true 56 9,bO 55 true 57 3,al 55 true (ct 58 57),al 55 true (bq 59 .eql 56 58),bO 55 true 60 59,bO 60 false 61 3,bO 60 false 62 9,al 60 false (cw 63 1 61 62),al 60 false (az 64 1 63),bO 60 false 65 5,al 60 false (b5 66 180 64 65),al 60 false (aS 67 .neq 66 0),al 55 true (cV 68 60 67),de 69 55 68] (aZ 69 (aa [dI 70 1 23 [],I 71 3,I 72 9,b2 73 (.lsl 1 (.t 71) none (some (.t 72))),gf 74 1 23 70 73,I 10 74] (aa [I 75 10,I 76 5,dI 77 1 23 [.t 76],gf 78 1 23 75 77,I 10 78] (.region [I 79 10,I 80 3,I 81 9,b2 82 (.lsl 1 (.t 80) (some (.t 81)) none),gf 83 1 23 79 82,I 3 83]))) .skip)))))))) (.fg false 3 (.region [aS 84 .add 14 1,I 14 84]))))) (aa [I 85 3,I 2 85] .ret))))
@[simp] def aok:List bW:=[.tmp 2]
def Sf:C:=(aa [bh 4 false] (.seq (aa [I 11 0,cG 12 142 11,cx 13 12,I 14 13,bO 14 false 15 1,al 14 false (cG 16 142 15),al 14 false (cx 17 16),cV 18 14 17] (aZ 18 (aa [bh 4 false] .ret) .skip)) (.seq (aa [I 19 0,ct 20 19,b6 21 0] (eZ 22 21 20 (.seq (.block 1 (aa [cw 23 5 19 21,aV 24 5 23,cL 6 ib,bu 5 6 24] (aa [I 26 1,aI 27 0 1 6,az 28 1 27,cG 29 91 28,b5 30 166 26 29,I 25 30,cj 31 0 25,cj 32 1 25,cL 7 da,bu 4 7 31,I 8 32] (aa [I 34 1,hp 35 1 4 6,aV 36 4 35,b5 37 166 34 36,I 33 37,cj 38 0 33,cj 39 1 33,cL 9 da,bu 4 9 38,I 10 39] (aa [I 40 8,cx 41 40,I 42 41,bO 42 false 43 10,al 42 false (cx 44 43),cV 45 42 44,I 46 45,al 46 false (aV 47 4 7),al 46 false (aV 48 4 9),al 46 false (b5 49 167 47 48),al 46 false (cx 50 49),cV 51 46 50] (aZ 51 (aa [bh 4 false] .ret) .skip)))))) (.region [aS 52 .add 21 1,I 21 52])))) (aa [bh 4 true] .ret))))
@[simp] def On:List bW:=[.tmp 4]
def xL:List (Nat×dB):=[
 (3,⟨1,8,.int .i64,.int .i64 0⟩),
 (23,⟨1,24,.slice 61,.slice 5 .nil []⟩),
 (24,⟨1,24,.slice 23,.slice 1 .nil []⟩),
 (30,⟨1,24,.slice 32,.slice 4 .nil []⟩),
 (32,⟨4,56,.struct [(0,3),(1,3),(2,9),(3,30)],.agg [.int .i64 0,.int .i64 0,.str [],.slice 4 .nil []]⟩),
 (61,⟨5,64,.struct [(0,3),(1,32)],.agg [.int .i64 0,.int .i64 0,.int .i64 0,.str [],.slice 4 .nil []]⟩)]
theorem ts:fM ax xL=true:=by kernel_rfl
theorem Eu:b3 xL Aa xw 2 Tryz.f136=true:=by kernel_rfl
theorem CW:ax.funcs[(136:Nat)]? =some Tryz.f136:=Tryz.func136
theorem am2:b3 xL SI aoi 1 Tryz.f143=true:=by kernel_rfl
theorem afY:ax.funcs[(143:Nat)]? =some Tryz.f143:=Tryz.func143
theorem ana:b3 xL SQ aon 2 Tryz.f146=true:=by kernel_rfl
theorem af6:ax.funcs[(146:Nat)]? =some Tryz.f146:=Tryz.func146
theorem amZ:b3 xL SF aoh 2 Tryz.f177=true:=by kernel_rfl
theorem afV:ax.funcs[(177:Nat)]? =some Tryz.f177:=Tryz.func177
theorem am3:b3 xL SJ EK 2 Tryz.f180=true:=by kernel_rfl
theorem afZ:ax.funcs[(180:Nat)]? =some Tryz.f180:=Tryz.func180
theorem am5:b3 xL SL aok 1 Tryz.f220=true:=by kernel_rfl
theorem af1:ax.funcs[(220:Nat)]? =some Tryz.f220:=Tryz.func220
theorem amA:b3 xL Sf On 2 Tryz.f269=true:=by kernel_rfl
theorem afw:ax.funcs[(269:Nat)]? =some Tryz.f269:=Tryz.func269
theorem aqe{s t:List ai}(ag:ek s)(aH:ek t):bQ ax 177 [.slice 5 .no (s.map ai.e),.slice 5 .no (t.map ai.e)] (.slice 5 .no ((dN s t).map ai.e)):=by
 have wW:=aH.len;generalize bA:dN s t=R;refine bj ts afV amZ fun aR=>?_;unfold SF;simp;refine h0 (α:=List ai) (fun i out=>⟨[(0,.slice 5 .no (s.map ai.e)),(11,.slice 5 .no (t.map ai.e)),(12,.int .i64 t.length),(5,.slice 5 (.own (.loc 0)) (out.map ai.e)),(13,.int .i64 i)],[],[(.loc 0,⟨out.length,61,5,none⟩)],1,[]⟩) t.length (rJ s t) [] bT (by simp[rJ,dN]) (fun out af _=>?_) (fun i out hi af _=>?_)
 ·rw[rJ,gw (eu _),bA]at af;rw[<-af];exact cp
 ·obtain⟨b,ay,fV⟩:=ej hi;have AR:out.length<=1000000:=by
   have:out.length<=(t.take i).length:=by rw[af];exact List.length_filter_le _ _
   simp at this;omega
  have jz:=r1 s b.v ag.len;cases ab:df s b.v with
  |none=>
   have au:rJ s t (i+1) (out++[b]):=by rw[rJ,mP ay,dN,List.filter_append,af];simp[dN,ab]
   rw[ab]at jz;simp only[kc,jG]at jz;clear af ay ab;simp[hi,fV];(with_reducible repeat' first|refine aj ?_|refine aA jz ?_|refine aB jz ?_|simp[fV,hi]);all_goals first|(refine⟨by unfold lim;omega,?_⟩)|skip
   (with_reducible repeat' first|refine aj ?_|simp);refine bP.rng (out++[b]) hi au ?_;simp;exact⟨by simp[fresh,aN,aJ,cz,inObs,Pv.look,jA],eD (by simp[fresh,aN,aJ,cz,inObs,Pv.look,jA]),eE (by simp[fresh,aN,aJ,eg,inObs,Pv.look,jA]),Ψ⟩
  |some x=>
   have au:rJ s t (i+1) out:=by rw[rJ,mP ay,dN,List.filter_append,af];simp[dN,ab]
   rw[ab]at jz;simp only[jo,mV]at jz;clear af ay ab;simp[hi,fV];(with_reducible repeat' first|refine aj ?_|refine aA jz ?_|refine aB jz ?_|simp[fV,hi]);refine bP.rng out hi au ?_;exact bT
theorem apZ{s t:List ai}(ag:ek s)(aH:ek t):bQ ax 269 [.slice 5 .no (s.map ai.e),.slice 5 .no (t.map ai.e)] (.bool (km s t)):=by
 have qL:=ag.len;generalize bA:km s t=R;have c9:=PO ag;have dq:=PO aH;refine bj ts afw amA fun aR=>?_;unfold Sf;simp;(with_reducible repeat' first|refine aj ?_|refine aA c9 ?_|refine aB c9 ?_|refine aA dq ?_|refine aB dq ?_|simp);refine dT [1,19,20] (fun i (_:Unit)=>[(21,.int .i64 i)]) s.length (kD (rM t) s) () bT (fun k b ae=>Ω) (fun _ af _=>?_) (fun i _ hi af _=>?_)
 ·have:R=true:=by rw[<-bA,km,fy];intro b ab;obtain⟨k,ae,e⟩:=oi ab;exact af k b ae (by rw[bY ae,e])
  rw[this];exact cp
 ·obtain⟨b,ay,fV⟩:=ej hi;have e8:rM t b=false->R=false:=fun h=>by rw[<-bA,Bool.eq_false_iff];intro cd;rw[km,fy]at cd;rw[cd b (dP ay)]at h;cases h
  have aP:=zB t aH.len (.var b.v);have bd:=zB t aH.len b.t;have yK:=E2 aH b.v;have Hw:((T.var b.v).ap (aY t)).size<=5000:=yK;rw[gx Hw]at aP;rw[show(T.var b.v).ap (aY t)=aY t b.v from rfl]at aP;by_cases ba:(b.t.ap (aY t)).size<=5000
  ·rw[gx ba]at bd;by_cases he:aY t b.v=b.t.ap (aY t)
   ·have au:=af.step ay (by simp[rM,he]);have fI:=oX (aY t b.v) (b.t.ap (aY t));rw[gx he]at fI;clear af ay;simp[hi,fV];(with_reducible repeat' first|refine aj ?_|refine aA (ks _) ?_|refine aB (ks _) ?_|refine aA aP ?_|refine aB aP ?_|refine aA bd ?_|refine aB bd ?_|refine aA fI ?_|refine aB fI ?_|simp[fV,hi]);exact bP.rng () hi au bT
   ·rw[e8 (by simp[rM,he])];have fI:=oX (aY t b.v) (b.t.ap (aY t));rw[h6 he]at fI;clear af ay;simp[hi,fV];(with_reducible repeat' first|refine aj ?_|refine aA (ks _) ?_|refine aB (ks _) ?_|refine aA aP ?_|refine aB aP ?_|refine aA bd ?_|refine aB bd ?_|refine aA fI ?_|refine aB fI ?_|simp[fV,hi]);simp[bk,On,aU,aW,aT]
  ·rw[h6 ba]at bd;rw[e8 (by simp only[rM,gn];intro e;rw[<-e]at ba;exact ba yK)];clear af ay;simp[hi,fV];(with_reducible repeat' first|refine aj ?_|refine aA (ks _) ?_|refine aB (ks _) ?_|refine aA aP ?_|refine aB aP ?_|refine aA bd ?_|refine aB bd ?_|simp[fV,hi]);simp[bk,On,aU,aW,aT]
theorem PI(d e:List ai):bQ ax 180 [.slice 5 .no (d.map ai.e),.slice 5 .no (e.map ai.e)] (.int .i64 (ez d e)):=by
 generalize bA:ez d e=R;refine bj ts afZ am3 fun aR=>?_;unfold SJ;have aF:d.length<=68719476736:=by simp[gI,fZ,gz,lim]at aR;omega
 have he:e.length<=68719476736:=by simp[gI,fZ,gz,lim]at aR;omega
 simp;refine u9 [0,1] (fun(i:Nat)=>[(5,.int .i64 i)]) (fun i=>d.length-i) (ML d e) 0 bT ⟨Ω,Ω,Ψ⟩ (fun i af _=>?_);obtain⟨J,U,ao⟩:=af;rw[bA]at ao;by_cases hi:i<d.length
 ·by_cases hV:i<e.length
  ·obtain⟨x,ad⟩:∃x,d[i]? =some x:=⟨_,bY hi⟩;obtain⟨y,aC⟩:∃y,e[i]? =some y:=⟨_,bY hV⟩;have c6:∀h,(d[i]'h)=x:=fun h=>by rw[bY hi]at ad;exact eH ad
   have eX:∀h,(e[i]'h)=y:=fun h=>by rw[bY hV]at aC;exact eH aC
   have AF:d.drop i=x::d.drop (i+1):=by rw[k8 hi,c6]
   have AG:e.drop i=y::e.drop (i+1):=by rw[k8 hV,eX]
   rw[AF,AG]at ao;rw[XX]at ao;by_cases a1:x.v=y.v
   ·have pJ:eG x.v y.v=0:=(kH.zero _ _).2 a1;have uC:(x.v !=y.v)=false:=by simp[a1]
    rw[if_pos pJ]at ao;by_cases bp:du x.t y.t=0
    ·rw[if_pos bp]at ao;have au:ML d e (i+1):=⟨Ω,Ω,by rw[bA];exact ao⟩;have iU:=nC x.t y.t;rw[bp]at iU;clear AF AG ad aC ao pJ;simp[hi,hV,c6,eX];((with_reducible repeat' first|refine aj ?_|refine aA iU ?_|refine aB iU ?_|simp[c6,eX,hi,hV,a1,uC]|((first|apply bL|apply bN|apply bM)<;>intro h<;>try simp at h))<;>(try exact cm));all_goals exact bP.whl (i+1) Ω au bT
    ·rw[if_neg bp]at ao;have iU:=nC x.t y.t;have zb:(du x.t y.t !=0)=true:=by simp[bp]
     clear AF AG ad aC pJ;simp[hi,hV,c6,eX];(with_reducible repeat' first|refine aj ?_|refine aA iU ?_|refine aB iU ?_|simp[c6,eX,hi,hV,a1,uC,bp,zb]);all_goals simp[bk,EK,aU,aW,aT]
     all_goals exact ao
   ·have pJ:¬eG x.v y.v=0:=fun h=>a1 ((kH.zero _ _).1 h);have uC:(x.v !=y.v)=true:=by simp[a1]
    rw[if_neg pJ]at ao;have dy:R=if decide (x.v<y.v)=true then-1 else 1:=by rw[<-ao];unfold eG;simp only[en];(repeat' split)<;>omega
    clear AF AG ad aC ao pJ;rw[dy];simp[hi,hV,c6,eX];(with_reducible repeat' first|refine aj ?_|refine aA (rZ _) ?_|refine aB (rZ _) ?_|simp[c6,eX,hi,hV,a1,uC]);all_goals simp[bk,EK,aU,aW,aT]
  ·have hle:e.length<d.length:=Ω
   have:(1:Int)=R:=by rw[<-ao,ez,D8 _ _ _ (.inr (List.drop_eq_nil_of_le Ω))];simp only[tB];unfold eG;(repeat' split)<;>omega
   have cK:¬(d.length:Int)=e.length:=Ω
   have L8:((d.length:Int) !=e.length)=true:=by simp;omega
   have j1:¬(d.length:Int)<e.length:=Ω
   have Dw:¬d.length<e.length:=Ω
   have aiz:¬d.length=e.length:=Ω
   clear ao;rw[<-this];simp[hi,hV];(with_reducible repeat' first|refine aj ?_|refine aA (rZ _) ?_|refine aB (rZ _) ?_|simp[hi,hV,cK,L8,j1,Dw,aiz]);all_goals simp[bk,EK,aU,aW,aT]
   all_goals(try simp[Dw])
 ·have e4:i=d.length:=Ω
  by_cases av:d.length=e.length
  ·have:(0:Int)=R:=by rw[<-ao,ez,D8 _ _ _ (.inl (List.drop_eq_nil_of_le Ω))];simp only[tB];unfold eG;(repeat' split)<;>omega
   clear ao;rw[<-this];exact cp
  ·have:(-1:Int)=R:=by rw[<-ao,ez,D8 _ _ _ (.inl (List.drop_eq_nil_of_le Ω))];simp only[tB];unfold eG;(repeat' split)<;>omega
   have cK:¬(d.length:Int)=e.length:=Ω
   have L8:((d.length:Int) !=e.length)=true:=by simp;omega
   have j1:(d.length:Int)<e.length:=Ω
   have Dw:d.length<e.length:=Ω
   clear ao;rw[<-this];simp[hi];(with_reducible repeat' first|refine aj ?_|refine aA (rZ _) ?_|refine aB (rZ _) ?_|simp[hi,cK,L8,j1,Dw,av]);all_goals simp[bk,EK,aU,aW,aT]
   all_goals(try simp[Dw])
def ajS(n:Int)(a b:T)(i:Nat)(_:Unit):Prop:=(1<=i->ec n a=true)/\(2<=i->ec n b=true)
theorem PM(n:Int):∀t:T,bQ ax 136 [t.e,.int .i64 n] (.bool (ec n t))
 | .pair a b=>by
  have dJ:=PM n a;have dK:=PM n b;refine bj ts CW Eu fun aR=>?_;unfold Aa;simp;refine dT [1,2,8,9] (fun i (_:Unit)=>[(10,.int .i64 i)]) 2 (ajS n a b) () bT ⟨fun h=>Ω,fun h=>Ω⟩ (fun _ af _=>?_) (fun i _ hi af _=>?_)
  ·simp;(with_reducible repeat' first|refine aj ?_|simp);simp[bk,xw,aU,aW,aT];simp[ec,af.1,af.2]
  ·rcases(by omega:i=0\/i=1)with rfl|rfl
   ·cases bm:ec n a
    ·rw[bm]at dJ;simp;(with_reducible repeat' first|refine aj ?_|refine aA dJ ?_|refine aB dJ ?_|simp);simp[bk,xw,aU,aW,aT];simp[ec,bm]
    ·rw[bm]at dJ;simp;((with_reducible repeat' first|refine aj ?_|refine aA dJ ?_|refine aB dJ ?_|simp|((first|apply bL|apply bN|apply bM)<;>intro h<;>try simp at h))<;>(try exact cm));exact bP.rng () hi ⟨fun _=>bm,fun h=>Ω⟩ bT
   ·cases ab:ec n b
    ·rw[ab]at dK;simp;((with_reducible repeat' first|refine aj ?_|refine aA dK ?_|refine aB dK ?_|simp|((first|apply bL|apply bN|apply bM)<;>intro h<;>try simp at h))<;>(try exact cm));simp[bk,xw,aU,aW,aT];simp[ec,ab]
    ·rw[ab]at dK;simp;((with_reducible repeat' first|refine aj ?_|refine aA dK ?_|refine aB dK ?_|simp|((first|apply bL|apply bN|apply bM)<;>intro h<;>try simp at h))<;>(try exact cm));exact bP.rng () hi ⟨fun _=>af.1 Ω,fun _=>ab⟩ bT
 | .sym v=>by
  refine bj ts CW Eu fun aR=>?_;unfold Aa;simp;refine dT [1,2,8,9] (fun i (_:Unit)=>[(10,.int .i64 i)]) 0 (fun i _=>True) () bT trivial (fun _ af _=>?_) (fun i _ hi af _=>Ω);simp;((with_reducible repeat' first|refine aj ?_|simp|((first|apply bL|apply bN|apply bM)<;>intro h<;>try simp at h))<;>(try exact cm));all_goals simp[bk,xw,aU,aW,aT]
  all_goals simp[ec]
 | .num v=>by
  refine bj ts CW Eu fun aR=>?_;unfold Aa;simp;refine dT [1,2,8,9] (fun i (_:Unit)=>[(10,.int .i64 i)]) 0 (fun i _=>True) () bT trivial (fun _ af _=>?_) (fun i _ hi af _=>Ω);simp;(with_reducible repeat' first|refine aj ?_|simp);all_goals simp[bk,xw,aU,aW,aT]
  all_goals simp[ec]
 | .var v=>by
  refine bj ts CW Eu fun aR=>?_;unfold Aa;simp;refine dT [1,2,8,9] (fun i (_:Unit)=>[(10,.int .i64 i)]) 0 (fun i _=>True) () bT trivial (fun _ af _=>?_) (fun i _ hi af _=>Ω);simp;(with_reducible repeat' first|refine aj ?_|simp);all_goals simp[bk,xw,aU,aW,aT]
  all_goals simp[ec]
 | .nil=>by
  refine bj ts CW Eu fun aR=>?_;unfold Aa;simp;refine dT [1,2,8,9] (fun i (_:Unit)=>[(10,.int .i64 i)]) 0 (fun i _=>True) () bT trivial (fun _ af _=>?_) (fun i _ hi af _=>Ω);simp;(with_reducible repeat' first|refine aj ?_|simp);all_goals simp[bk,xw,aU,aW,aT]
  all_goals simp[ec]
theorem aaI(s:List ai)(n:Int):bQ ax 146 [.slice 5 .no (s.map ai.e),.int .i64 n] (.bool (s.all (lf n))):=by
 generalize bA:s.all (lf n)=R;refine bj ts af6 ana fun aR=>?_;unfold SQ;have h1:s.length<=68719476736:=by simp[gI,fZ,gz,lim]at aR;omega
 simp;refine dT [1,7,8] (fun i (_:Unit)=>[(9,.int .i64 i)]) s.length (kD (lf n) s) () bT (fun k b ae=>Ω) (fun _ af _=>?_) (fun i _ hi af _=>?_)
 ·have:R=true:=by rw[<-bA,fy];intro b ab;obtain⟨k,ae,e⟩:=oi ab;exact af k b ae (by rw[bY ae,e])
  rw[this];exact cp
 ·obtain⟨b,ay,fV⟩:=ej hi;have e8:lf n b=false->R=false:=fun h=>by rw[<-bA,Bool.eq_false_iff];intro cd;rw[fy]at cd;rw[cd b (dP ay)]at h;cases h
  have j3:=PM n b.t;by_cases J:b.v<n
  ·have oC:¬n<=b.v:=Ω
   cases U:ec n b.t
   ·rw[e8 (by simp[lf,U])];rw[U]at j3;clear af ay;exact cp
   ·have au:=af.step ay (by simp[lf,J,U]);rw[U]at j3;clear af ay;exact gX
  ·have oC:n<=b.v:=Ω
   rw[e8 (by simp[lf,J])];clear af ay;exact cp
theorem aqg(l:List (List dL)):bQ ax 143 [.slice 1 .no (l.map l2)] (.bool (l.all gL)):=by
 generalize bA:l.all gL=R;refine bj ts afY am2 fun aR=>?_;unfold SI;have h1:l.length<=68719476736:=by simp[gI,fZ,gz,lim]at aR;omega
 simp;refine dT [5,6] (fun i (_:Unit)=>[(7,.int .i64 i)]) l.length (kD gL l) () bT (fun k b ae=>Ω) (fun _ af _=>?_) (fun i _ hi af _=>?_)
 ·have:R=true:=by rw[<-bA,fy];intro b ab;obtain⟨k,ae,e⟩:=oi ab;exact af k b ae (by rw[bY ae,e])
  rw[this];exact cp
 ·obtain⟨b,ay,fV⟩:=ej hi;have c9:bQ ax 142 [l2 b] (.bool (gL b)):=PN b;cases ab:gL b
  ·have:R=false:=by rw[<-bA,Bool.eq_false_iff];intro cd;rw[fy]at cd;rw[cd b (dP ay)]at ab;cases ab
   rw[this];rw[ab]at c9;clear af ay;exact cp
  ·have au:=af.step ay ab;rw[ab]at c9;clear af ay;exact gX
theorem Tc(a:List (List ai))(k:Nat)(m:List ai):pU k (a.map cH)++cH m::List.drop k (a.map cH)=(a.take k++m::a.drop k).map cH:=by simp
theorem rn(a:List (List ai))(k:Nat)(m:List ai):c7 (pU k (a.map cH)++cH m::List.drop k (a.map cH))=pU k (a.map cH)++cH m::List.drop k (a.map cH):=by rw[Tc,Pl]
theorem rl(S:aM->Prop)(a:List (List ai))(k:Nat)(m:List ai):aN S (pU k (a.map cH)++cH m::List.drop k (a.map cH))=True:=by rw[Tc,WG]
theorem Gp(a:List (List ai))(m:List ai):a.map cH++[cH m]=(a++[m]).map cH:=by simp
theorem p6(a:List (List ai))(m:List ai):c7 (a.map cH++[cH m])=a.map cH++[cH m]:=by rw[Gp,Pl]
theorem rk(S:aM->Prop)(a:List (List ai))(m:List ai):aN S (a.map cH++[cH m])=True:=by rw[Gp,WG]
theorem aaG(L:List (List ai))(gU:∀d∈L,ek d):bQ ax 220 [.slice 1 .no (L.map cH)] (.slice 1 .no ((j4 L).map cH)):=by
 generalize bA:j4 L=R;rw[akS]at bA;refine bj ts af1 am5 fun aR=>?_;unfold SL;have h1:L.length<=68719476736:=by simp[gI,fZ,gz,lim]at aR;omega
 simp;refine dT [0,12,13] (fun i (a:List (List ai))=>[(3,.slice 1 .no (a.map cH)),(14,.int .i64 i)]) L.length (yO L) [] bT (by simp[yO]) (fun a af _=>?_) (fun i a hi af _=>?_)
 ·rw[yO,k9,bA]at af;subst af;exact cp
 ·obtain⟨e,he,LM⟩:=ej hi;have sx:gT ez a:=by rw[af];exact Nt _ (by simp[gT])
  have qd:a.length<=i:=by have:=Xl (L:=L) (L.take i) [];rw[af];simp at this⊢;omega
  have fA:=af.step he;have kB:=gU e (dP he);have bd:∀d,bQ ax 180 [cH d,cH e] (.int .i64 (ez d e)):=fun d=>PI d e;clear af he;simp[hi,LM];(with_reducible repeat' first|refine aj ?_|simp[hi,LM]);refine dT [0,3,5,12,13,14,18,19] (fun j (b:Bool)=>[(6,.bool b),(20,.int .i64 j)]) L.length (qO L e) true bT (by simp[qO]) (fun keep af _=>?_) (fun j keep dF af _=>?_)
  ·rw[qO,k9]at af;have Va:keep=iI L e:=af;rw[qW,<-Va]at fA;clear af Va;simp;(with_reducible repeat' first|refine aj ?_|simp);refine u9 [0,3,5,6,12,13,14] (fun(k:Nat)=>[(9,.int .i64 k)]) (fun k=>k) (HF a e) a.length bT ⟨Ω,fun c h=>by simp at h⟩ (fun k af _=>?_);have ae:=af.1;rcases Nat.eq_zero_or_pos k with bE|eW
   ·have ba:decide ((0:Int)<k)=false:=by simp;omega
    have sR:¬(0:Int)<k:=Ω
    have dz:=af.fin sx fun d h=>Ω
    clear af sx;cases keep with
    |false=>simp only[gZ,if_false]at fA;clear dz;exact gX
    |true=>
     simp only[if_true]at fA;by_cases hI:k<a.length
     ·obtain⟨c,ar,iv⟩:=ej hI;rw[ar]at dz;by_cases q:ez c e=0
      ·rw[if_pos (by simp[q])]at dz;rw[dz]at fA;clear dz ar;simp[hI,iv,ba,sR];((with_reducible repeat' first|refine aj ?_|refine aA (bd _) ?_|refine aB (bd _) ?_|simp[hI,iv,q,ba,sR]|((first|apply bL|apply bN|apply bM)<;>intro h<;>try simp at h))<;>(try exact cm));all_goals exact bP.rng a hi fA bT
      ·rw[if_neg (by simp[q])]at dz;have fX:(ez c e !=0)=true:=by simp[q]
       rw[dz]at fA;clear dz ar;simp[hI,iv,ba,sR];((with_reducible repeat' first|refine aj ?_|refine aA (bd _) ?_|refine aB (bd _) ?_|simp[hI,iv,q,fX,ba,sR]|((first|apply bL|apply bN|apply bM)<;>intro h<;>try simp at h))<;>(try exact cm));all_goals first|(refine⟨by unfold lim;omega,?_⟩)|skip
       all_goals(with_reducible repeat' first|refine aj ?_|simp)
       all_goals first|(refine⟨by unfold lim;omega,?_⟩)|skip
       all_goals((with_reducible repeat' first|refine aj ?_|simp|((first|apply bL|apply bN|apply bM)<;>intro h<;>try simp at h))<;>(try exact cm))
       all_goals exact bP.rng _ hi fA ⟨by simp[fresh,aN,aJ,cz,inObs,Pv.look,gw,rn,rl,p6,rk],eD co,eE dl,Ψ⟩
     ·rw[pT Ω]at dz;simp only[gZ,if_false]at dz;rw[dz]at fA;have gl:k=a.length:=Ω
      have tZ:a.take k++e::a.drop k=a++[e]:=by rw[gl];simp
      rw[tZ]at fA;clear dz tZ;simp[hI,ba,sR];((with_reducible repeat' first|refine aj ?_|refine aA (bd _) ?_|refine aB (bd _) ?_|simp[hI,gl,ba,sR]|((first|apply bL|apply bN|apply bM)<;>intro h<;>try simp at h))<;>(try exact cm));all_goals first|(refine⟨by unfold lim;omega,?_⟩)|skip
      all_goals(with_reducible repeat' first|refine aj ?_|simp)
      all_goals first|(refine⟨by unfold lim;omega,?_⟩)|skip
      all_goals((with_reducible repeat' first|refine aj ?_|simp|((first|apply bL|apply bN|apply bM)<;>intro h<;>try simp at h))<;>(try exact cm))
      all_goals exact bP.rng _ hi fA ⟨by simp[fresh,aN,aJ,cz,inObs,Pv.look,gw,rn,rl,p6,rk],eD co,eE dl,Ψ⟩
   ·obtain⟨d,aF⟩:∃d,a[k-1]? =some d:=⟨_,bY Ω⟩;have aq:((k:Int)-1).toNat=k-1:=Ω
    have aG:∀h,(a[k-1]'h)=d:=fun h=>by rw[bY h]at aF;exact eH aF
    have jg:(0:Int)<k:=Ω
    have mF:k-1<a.length:=Ω
    by_cases ab:0<=ez d e
    ·have ag:HF a e (k-1):=⟨Ω,fun c ar=>by rw[aF]at ar;cases ar;exact ab⟩;clear af sx fA aF;simp[eW,jg,aq,aG,ab,mF];((with_reducible repeat' first|refine aj ?_|refine aA (bd _) ?_|refine aB (bd _) ?_|simp[eW,jg,aq,aG,ab,mF]|((first|apply bL|apply bN|apply bM)<;>intro h<;>try simp at h))<;>(try exact cm));refine bP.whl (k-1) Ω ag ?_;have bG:((k-1:Nat):Int)=(k:Int)-1:=Ω
     simp[bG];exact bT
    ·have dz:=af.fin sx fun cn _ nk=>by rw[aF]at nk;cases nk;omega
     clear af sx aF;cases keep with
     |false=>simp only[gZ,if_false]at fA;clear dz;simp[eW,jg,aq,aG,ab,mF];(with_reducible repeat' first|refine aj ?_|refine aA (bd _) ?_|refine aB (bd _) ?_|simp[eW,jg,aq,aG,ab,mF]);all_goals exact bP.rng a hi fA bT
     |true=>
      simp only[if_true]at fA;by_cases hI:k<a.length
      ·obtain⟨c,ar,iv⟩:=ej hI;rw[ar]at dz;by_cases q:ez c e=0
       ·rw[if_pos (by simp[q])]at dz;rw[dz]at fA;clear dz ar;simp[hI,iv,eW,jg,aq,aG,ab,mF];((with_reducible repeat' first|refine aj ?_|refine aA (bd _) ?_|refine aB (bd _) ?_|simp[hI,iv,q,eW,jg,aq,aG,ab,mF]|((first|apply bL|apply bN|apply bM)<;>intro h<;>try simp at h))<;>(try exact cm));all_goals exact bP.rng a hi fA bT
       ·rw[if_neg (by simp[q])]at dz;have fX:(ez c e !=0)=true:=by simp[q]
        rw[dz]at fA;clear dz ar;simp[hI,iv,eW,jg,aq,aG,ab,mF];((with_reducible repeat' first|refine aj ?_|refine aA (bd _) ?_|refine aB (bd _) ?_|simp[hI,iv,q,fX,eW,jg,aq,aG,ab,mF]|((first|apply bL|apply bN|apply bM)<;>intro h<;>try simp at h))<;>(try exact cm));all_goals first|(refine⟨by unfold lim;omega,?_⟩)|skip
        all_goals(with_reducible repeat' first|refine aj ?_|simp)
        all_goals first|(refine⟨by unfold lim;omega,?_⟩)|skip
        all_goals((with_reducible repeat' first|refine aj ?_|simp|((first|apply bL|apply bN|apply bM)<;>intro h<;>try simp at h))<;>(try exact cm))
        all_goals exact bP.rng _ hi fA ⟨by simp[fresh,aN,aJ,cz,inObs,Pv.look,gw,rn,rl,p6,rk],eD co,eE dl,Ψ⟩
      ·rw[pT Ω]at dz;simp only[gZ,if_false]at dz;rw[dz]at fA;have gl:k=a.length:=Ω
       have tZ:a.take k++e::a.drop k=a++[e]:=by rw[gl];simp
       rw[tZ]at fA;clear dz tZ;simp[hI,eW,jg,aq,aG,ab,mF];((with_reducible repeat' first|refine aj ?_|refine aA (bd _) ?_|refine aB (bd _) ?_|simp[hI,gl,eW,jg,aq,aG,ab,mF]|((first|apply bL|apply bN|apply bM)<;>intro h<;>try simp at h))<;>(try exact cm));all_goals first|(refine⟨by unfold lim;omega,?_⟩)|skip
       all_goals(with_reducible repeat' first|refine aj ?_|simp)
       all_goals first|(refine⟨by unfold lim;omega,?_⟩)|skip
       all_goals(with_reducible repeat' first|refine aj ?_|simp)
       all_goals exact bP.rng _ hi fA ⟨by simp[fresh,aN,aJ,cz,inObs,Pv.look,gw,rn,rl,p6,rk],eD co,eE dl,Ψ⟩
  ·obtain⟨d,aF,hdi⟩:=ej dF;have au:=af.step aF;have iG:=gU d (dP aF);have ef:bQ ax 269 [cH d,cH e] (.bool (km d e)):=apZ iG kB;clear af aF fA sx;cases keep with
   |false=>simp only[Bool.false_and]at au;exact gX
   |true=>
    simp only[Bool.true_and,xa]at au;by_cases q:ez d e=0
    ·rw[gx ((ly.zero _ _).1 q),Bool.true_or]at au;simp[dF,hdi];(with_reducible repeat' first|refine aj ?_|refine aA (bd _) ?_|refine aB (bd _) ?_|simp[dF,hdi,q]);all_goals exact bP.rng true dF au bT
    ·rw[h6 (fun h=>q ((ly.zero _ _).2 h)),Bool.false_or]at au;have fX:(ez d e==0)=false:=by simp[q]
     cases aX:km d e
     ·rw[aX]at au ef;simp[dF,hdi];(with_reducible repeat' first|refine aj ?_|refine aA (bd _) ?_|refine aB (bd _) ?_|refine aA ef ?_|refine aB ef ?_|simp[dF,hdi,q,fX]);all_goals exact bP.rng true dF au bT
     ·rw[aX]at au ef;simp[dF,hdi];(with_reducible repeat' first|refine aj ?_|refine aA (bd _) ?_|refine aB (bd _) ?_|refine aA ef ?_|refine aB ef ?_|simp[dF,hdi,q,fX]);all_goals exact bP.rng false dF au bT
def wv:C:=(aa [cU 1 0,bh 2 false] (.seq (aa [aI 11 0 1 1,az 12 1 11,c2 13 141 [.t 12,(dS 0),(dS 100000)],cx 14 13,I 15 14,al 15 false (aI 16 1 1 1),al 15 false (az 17 1 16),al 15 false (cG 18 142 17),al 15 false (cx 19 18),cV 20 15 19,I 21 20,al 21 false (aI 22 2 1 1),al 21 false (az 23 1 22),al 21 false (cG 24 143 23),al 21 false (cx 25 24),cV 26 21 25,I 27 26,al 27 false (aI 28 3 1 1),al 27 false (az 29 1 28),al 27 false (cG 30 144 29),al 27 false (cx 31 30),cV 32 27 31,I 33 32,al 33 false (aI 34 4 1 1),al 33 false (az 35 1 34),al 33 false (cG 36 145 35),al 33 false (cx 37 36),cV 38 33 37,I 39 38,al 39 false (aI 40 1 1 1),al 39 false (az 41 1 40),al 39 false (aI 42 0 1 1),al 39 false (az 43 1 42),al 39 false (b5 44 146 41 43),al 39 false (cx 45 44),cV 46 39 45] (aZ 46 (aa [bh 2 false] .ret) .skip)) (.seq (aa [aI 47 2 1 1,az 48 1 47,ct 49 48,b6 50 0] (eZ 51 50 49 (.seq (.block 1 (aa [cw 52 1 48 50,az 53 1 52,I 4 53] (aa [I 54 4,aI 55 0 1 1,az 56 1 55,b5 57 146 54 56,cx 58 57] (aZ 58 (aa [bh 2 false] .ret) .skip)))) (.region [aS 59 .add 50 1,I 50 59])))) (.seq (aa [aI 60 3 1 1,az 61 1 60,ct 62 61,b6 63 0] (.block 2 (.loop (aa [bq 64 .lss 63 62] (.seq (aZ 64 .skip (.exit 2)) (.seq (.block 3 (aa [cw 65 2 61 63,aV 66 2 65,cX (.alloc 6 none (.agg [.int .i64 0,.int .i64 0])),bu 2 6 66] (aa [aI 67 0 1 6,az 68 1 67,aI 69 0 1 1,az 70 1 69,bq 71 .geq 68 70] (aZ 71 (aa [bh 2 false] .ret) .skip)))) (.region [aS 72 .add 63 1,I 63 72]))))))) (.seq (aa [aI 73 4 1 1,az 74 1 73,ct 75 74,b6 76 0] (.block 4 (.loop (aa [bq 77 .lss 76 75] (.seq (aZ 77 .skip (.exit 4)) (.seq (.block 5 (aa [cw 78 2 74 76,aV 79 2 78,cX (.alloc 8 none (.agg [.int .i64 0,.str []])),bu 2 8 79] (aa [aI 80 0 1 8,az 81 1 80,aI 82 0 1 1,az 83 1 82,bq 84 .geq 81 83] (aZ 84 (aa [bh 2 false] .ret) .skip)))) (.region [aS 85 .add 76 1,I 76 85]))))))) (aa [aV 87 5 1,cG 88 147 87,I 86 88,cj 89 0 86,cj 90 1 86,cL 9 fW,bu 5 9 89,I 10 90] (aa [I 91 10,I 92 91,al 92 true (aV 93 5 9),al 92 true (aV 94 5 1),al 92 true (b5 95 94 93 94),de 96 92 95,I 2 96] .ret)))))))
@[simp] def aoc:List bW:=[.tmp 2]
def x8:C:=(aa [cU 2 0,cU 3 1,bh 4 false] (.seq (aa [aI 11 0 1 2,az 12 1 11,aI 13 0 1 3,az 14 1 13,bq 15 .neq 12 14,I 16 15,al 16 false (aI 17 1 1 2),al 16 false (az 18 1 17),al 16 false (aI 19 1 1 3),al 16 false (az 20 1 19),al 16 false (b5 21 180 18 20),al 16 false (aS 22 .neq 21 0),cV 23 16 22,I 24 23,al 24 false (aI 25 2 1 2),al 24 false (az 26 1 25),al 24 false (ct 27 26),al 24 false (aI 28 2 1 3),al 24 false (az 29 1 28),al 24 false (ct 30 29),al 24 false (bq 31 .neq 27 30),cV 32 24 31,I 33 32,al 33 false (aI 34 3 1 2),al 33 false (az 35 1 34),al 33 false (ct 36 35),al 33 false (aI 37 3 1 3),al 33 false (az 38 1 37),al 33 false (ct 39 38),al 33 false (bq 40 .neq 36 39),cV 41 33 40,I 42 41,al 42 false (aI 43 4 1 2),al 42 false (az 44 1 43),al 42 false (ct 45 44),al 42 false (aI 46 4 1 3),al 42 false (az 47 1 46),al 42 false (ct 48 47),al 42 false (bq 49 .neq 45 48),cV 50 42 49] (aZ 50 (aa [bh 4 false] .ret) .skip)) (.seq (aa [aI 51 2 1 2,az 52 1 51,ct 53 52,b6 54 0] (eZ 55 54 53 (.seq (.block 1 (aa [I 56 54,cw 57 1 52 54,az 58 1 57,I 5 56,I 6 58] (aa [I 59 6,aI 60 2 1 3,az 61 1 60,I 62 5,cw 63 1 61 62,az 64 1 63,b5 65 180 59 64,aS 66 .neq 65 0] (aZ 66 (aa [bh 4 false] .ret) .skip)))) (.region [aS 67 .add 54 1,I 54 67])))) (.seq (aa [aI 68 3 1 2,az 69 1 68,ct 70 69,b6 71 0] (.block 2 (.loop (aa [bq 72 .lss 71 70] (.seq (aZ 72 .skip (.exit 2)) (.seq (.block 3 (aa [I 73 71,cw 74 2 69 71,aV 75 2 74,cX (.alloc 8 none (.agg [.int .i64 0,.int .i64 0])),I 7 73,bu 2 8 75] (.seq (.drawn true 100 [aV 76 2 8,aI 77 3 1 3,az 78 1 77,I 79 7,cw 80 2 78 79,aV 81 2 80,b2 82 (.beq true (some [false,false]) (.t 76) (.t 81))]) (aZ 82 (aa [bh 4 false] .ret) .skip)))) (.region [aS 83 .add 71 1,I 71 83]))))))) (.seq (aa [aI 84 4 1 2,az 85 1 84,ct 86 85,b6 87 0] (.block 4 (.loop (aa [bq 88 .lss 87 86] (.seq (aZ 88 .skip (.exit 4)) (.seq (.block 5 (aa [I 89 87,cw 90 2 85 87,aV 91 2 90,cX (.alloc 10 none (.agg [.int .i64 0,.str []])),I 9 89,bu 2 10 91] (.seq (.drawn true 100 [aV 92 2 10,aI 93 4 1 3,az 94 1 93,I 95 9,cw 96 2 94 95,aV 97 2 96,b2 98 (.beq true (some [false,true]) (.t 92) (.t 97))]) (aZ 98 (aa [bh 4 false] .ret) .skip)))) (.region [aS 99 .add 87 1,I 87 99]))))))) (aa [bh 4 true] .ret))))))
@[simp] def IL:List bW:=[.tmp 4]
def Gi:C:=(aa [cU 1 0,cL 2 fW,bh 3 false] (aa [aI 20 1 1 1,az 21 1 20,aI 22 3 1 1,az 23 1 22,b5 24 217 21 23,I 19 24,cj 25 0 19,cj 26 1 19,I 4 25,I 5 26] (aa [aI 28 1 1 1,az 29 1 28,aI 30 4 1 1,az 31 1 30,b5 32 218 29 31,I 27 32,cj 33 0 27,cj 34 1 27,I 6 33,I 7 34] (.seq (aa [I 35 5,cx 36 35,I 37 36,bO 37 false 38 7,al 37 false (cx 39 38),cV 40 37 39] (aZ 40 (aa [gv 41 fW [],bu 5 2 41,bh 3 false] .ret) .skip)) (aa [aI 42 0 1 1,az 43 1 42,aI 44 1 1 1,az 45 1 44,I 46 4,gv 47 fW [(0,1,(.t 43)),(1,1,(.t 45)),(3,1,(.t 46))],cL 8 fW,bu 5 8 47] (.seq (aa [I 48 6,ct 49 48,b6 50 0] (eZ 51 50 49 (.seq (.block 1 (aa [cw 52 2 48 50,aV 53 2 52,cX (.alloc 10 none (.agg [.int .i64 0,.str []])),bu 2 10 53] (aa [I 55 4,aI 56 0 1 10,az 57 1 56,cG 58 91 57,c2 59 178 [.t 55,.t 58,(dS 2)],I 54 59,cj 60 0 54,cj 61 1 54,I 11 60,I 12 61] (aa [I 62 12] (aZ 62 (.region [aI 63 4 1 8,az 64 1 63,aV 65 2 10,dI 66 2 106 [.t 65],gf 67 2 106 64 66,aI 68 4 1 8,bu 1 68 67]) .skip))))) (.region [aS 69 .add 50 1,I 50 69])))) (aa [dI 70 1 23 [],I 13 70] (.seq (aa [aI 71 2 1 1,az 72 1 71,ct 73 72,b6 74 0] (.block 2 (.loop (aa [bq 75 .lss 74 73] (.seq (aZ 75 .skip (.exit 2)) (.seq (.block 3 (aa [cw 76 1 72 74,az 77 1 76,I 15 77] (aa [aI 79 1 1 1,az 80 1 79,I 81 15,b5 82 219 80 81,I 78 82,cj 83 0 78,cj 84 1 78,I 16 83,I 17 84] (.seq (aa [I 85 17] (aZ 85 (aa [I 87 16,aI 88 3 1 8,az 89 1 88,b5 90 217 87 89,I 86 90,cj 91 0 86,cj 92 1 86,I 5 92] (.region [I 94 16,aI 95 4 1 8,az 96 1 95,b5 97 218 94 96,I 93 97,cj 98 0 93,cj 99 1 93,I 7 99])) .skip)) (.seq (aa [I 100 17,cx 101 100,I 102 101,bO 102 false 103 5,al 102 false (cx 104 103),cV 105 102 104,I 106 105,bO 106 false 107 7,al 106 false (cx 108 107),cV 109 106 108] (aZ 109 (aa [bh 5 true] (aa [bh 7 true] (.exit 3))) .skip)) (aa [aI 110 1 1 1,az 111 1 110,I 112 16,b5 113 177 111 112,I 18 113] (.seq (aa [I 114 18,ct 115 114,aS 116 .eql 115 0] (aZ 116 (aa [gv 117 fW [],bu 5 2 117,bh 3 false] .ret) .skip)) (.region [I 118 13,I 119 18,dI 120 1 23 [.t 119],gf 121 1 23 118 120,I 13 121])))))))) (.region [aS 122 .add 74 1,I 74 122]))))))) (aa [I 123 13,cG 124 220 123,aI 125 2 1 8,bu 1 125 124] (.seq (.fz true 8 (.drawn true 131 [b2 126 (.loadZ true 5 (.t 8)),aI 127 2 1 8,b2 128 (.loadZ false 1 (.t 127)),ct 129 128,aS 130 .leq 129 30,bu 5 2 126,I 3 130])) .ret))))))))))
@[simp] def vU:List bW:=[.cell 2 true 5,.tmp 3]
def Jq:List (Nat×dB):=[
 (3,⟨1,8,.int .i64,.int .i64 0⟩),
 (9,⟨1,16,.str,.str []⟩),
 (23,⟨1,24,.slice 61,.slice 5 .nil []⟩),
 (24,⟨1,24,.slice 23,.slice 1 .nil []⟩),
 (25,⟨1,24,.slice 104,.slice 2 .nil []⟩),
 (26,⟨1,24,.slice 106,.slice 2 .nil []⟩),
 (28,⟨5,104,.struct [(0,3),(1,23),(2,24),(3,25),(4,26)],.agg [.int .i64 0,.slice 5 .nil [],.slice 1 .nil [],.slice 2 .nil [],.slice 2 .nil []]⟩),
 (104,⟨2,16,.struct [(0,3),(1,3)],.agg [.int .i64 0,.int .i64 0]⟩),
 (106,⟨2,24,.struct [(0,3),(1,9)],.agg [.int .i64 0,.str []]⟩)]
theorem oU:fM ax Jq=true:=by kernel_rfl
theorem y8:b3 Jq wv aoc 1 Tryz.f65=true:=by kernel_rfl
theorem yc:ax.funcs[(65:Nat)]? =some Tryz.f65:=Tryz.func65
theorem Bz:b3 Jq x8 IL 2 Tryz.f94=true:=by kernel_rfl
theorem Am:ax.funcs[(94:Nat)]? =some Tryz.f94:=Tryz.func94
theorem NX:b3 Jq Gi vU 1 Tryz.f147=true:=by kernel_rfl
theorem Le:ax.funcs[(147:Nat)]? =some Tryz.f147:=Tryz.func147
noncomputable def qv(s:bK):ak:= .tuple [(th s).e,.bool (e6 s).isSome]
theorem aqj{k:List ca}(ae:hl k)(v:Int):bQ ax 178 [.slice 2 .no (k.map ca.e),(T.var v).e,.int .i64 2] (n7 k (hN k (.var v) 2)):=PJ k (by have:=oK ae;omega) ae.asc (.var v) 2
theorem PG{b y:List ai}(ab:ek b)(aC:ek y):bQ ax 177 [.slice 5 .no (b.map ai.e),.slice 5 .no (y.map ai.e)] (cH (dN b y)):=aqe ab aC
theorem aaE{b x:List ai}(ab:ek b)(ad:ek x):bQ ax 219 [.slice 5 .no (b.map ai.e),cH x] (fh (mgu b (ga x))):=aqd b x ab.sol ab.fits ad.len
def Nc(a:List bs):ak:=match a with
 |[]=>.slice 2 .nil []
 |_::_=>.slice 2 (.own (.loc 5)) (a.map bs.e)
def Nb(a:List bs):List (aM×fQ):=match a with
 |[]=>[]
 |_::_=>[(.loc 5,⟨a.length,106,2,none⟩)]
def Na(a:List bs):Nat:=match a with
 |[]=>3
 |_::_=>6
@[simp]theorem atU:Nc []= .slice 2 .nil []:=rfl
@[simp]theorem atT(x:bs)(a:List bs):Nc (x::a)= .slice 2 (.own (.loc 5)) (x.e::a.map bs.e):=rfl
@[simp]theorem atS:Nb []=[]:=rfl
@[simp]theorem atQ(x:bs)(a:List bs):Nb (x::a)=[(.loc 5,⟨a.length+1,106,2,none⟩)]:=rfl
@[simp]theorem atP:Na []=3:=rfl
@[simp]theorem atO(x:bs)(a:List bs):Na (x::a)=6:=rfl
theorem Cg{s:bK}(h:gu s){G:List (List c0)}(hR:G.length<=687000)(aX:lU G s.m):bQ ax 147 [s.e] (qv s):=by
 unfold qv;generalize ds:e6 s=O;generalize dy:th s=SS;have kY:=PK h.b h.k;have kZ:=PL h.b h.m hR aX;have kE:=fun k=>IN (acc:=[]) (a:=k) h.b h.k.at' ⟨Ψ,Ψ⟩;have qX:=fun m=>IQ (acc:=[]) (a:=m) h.b h.m.at' ⟨Ψ,by simp[gT]⟩;have nM:=fun m=>IT (acc:=[]) (a:=m) (s:=s.b) aX (fun x ad=>by simp at ad);have ab:=h.b;have aF:=h.d;clear h aX;unfold e6 at ds;unfold th at dy;obtain⟨n,b,d,hk,m0⟩:=s;simp only at kY kZ kE qX nM ab aF ds dy;have fm:=ab.len;simp only[bK.e];generalize fJ b hk []=ok at kY ds dy kE;generalize fL b m0 []=om at kZ ds dy qX nM;cases ok with
 |none=>
  simp only at ds dy;subst ds;subst dy;simp only[fS]at kY;simp only[ig]at kZ;clear kE qX nM;refine bj oU Le NX fun aR=>?_;unfold Gi;simp;(with_reducible repeat' first|refine aj ?_|refine aA kY ?_|refine aB kY ?_|refine aA kZ ?_|refine aB kZ ?_|simp);all_goals simp[bk,vU,aU,aW,aT]
  all_goals simp[hs,bK.e]
 |some k=>
  simp only at ds dy;cases om with
  |none=>
   simp only at ds dy;subst ds;subst dy;simp only[fS]at kY;simp only[ig]at kZ;clear kE qX nM;refine bj oU Le NX fun aR=>?_;unfold Gi;simp;(with_reducible repeat' first|refine aj ?_|refine aA kY ?_|refine aB kY ?_|refine aA kZ ?_|refine aB kZ ?_|simp);all_goals simp[bk,vU,aU,aW,aT]
   all_goals simp[hs,bK.e]
  |some m=>
   simp only at ds dy;have wM:=kE k rfl;have yB:=qX m rfl;have yu:=nM m rfl;have l6:m.length<=68719470000:=by have:=Ed yB yu;omega
   have AN:=W3 (k:=k) yB;have AH:=Pp (k:=k) yu;simp only[fS,jo,mV]at kY;simp only[ig,jo,mV]at kZ;clear kE qX nM;refine bj oU Le NX fun aR=>?_;unfold Gi;have yp:d.length<=68719476736:=by simp[gI,fZ,gz,lim]at aR;omega
   clear aR;simp;(with_reducible repeat' first|refine aj ?_|refine aA kY ?_|refine aB kY ?_|refine aA kZ ?_|refine aB kZ ?_|simp);refine h0 (fun i (a:List bs)=>⟨[(1,.ptr (.loc 0) 0),(2,.ptr (.loc 1) 0),(4,.slice 2 .no (k.map ca.e)),(8,.ptr (.loc 2) 0),(48,.slice 2 .no (m.map bs.e)),(49,.int .i64 m.length),(50,.int .i64 i)],[(.loc 0,[.int .i64 n,.slice 5 .no (b.map ai.e),.slice 1 .no (d.map cH),.slice 2 .no (hk.map ca.e),.slice 2 .no (m0.map bs.e)]),(.loc 1,[.int .i64 0,.slice 5 .nil [],.slice 1 .nil [],.slice 2 .nil [],.slice 2 .nil []]),(.loc 2,[.int .i64 n,.slice 5 .no (b.map ai.e),.slice 1 .nil [],.slice 2 .no (k.map ca.e),Nc a])],Nb a,Na a,[]⟩) m.length (uk k m) [] bT (by simp[uk]) (fun a af _=>?_) (fun i a hi af _=>?_);rotate_left
   ·obtain⟨x,ad,c6⟩:=ej hi;have qd:a.length<=68719470000:=by
     have:a.length<=(m.take i).length:=by rw[af];exact List.length_filter_le _ _
     simp at this;omega
    have au:=af.step ad;have mi:=aqj wM x.v;have bt:(hN k (.var x.v) 2).isSome=jO k x:=abB wM x.v;simp only[n7,bt]at mi;clear bt;generalize (hN k (.var x.v) 2).getD k=kz at mi;cases aQ:jO k x
    ·rw[aQ]at au mi;simp only[gZ,if_false]at au;clear af ad aQ;cases a with
     |nil=>simp[hi,c6];(with_reducible repeat' first|refine aj ?_|refine aA (ks _) ?_|refine aB (ks _) ?_|refine aA mi ?_|refine aB mi ?_|simp[hi,c6]);all_goals exact bP.rng [] hi au bT
     |cons y ys=>simp[hi,c6];(with_reducible repeat' first|refine aj ?_|refine aA (ks _) ?_|refine aB (ks _) ?_|refine aA mi ?_|refine aB mi ?_|simp[hi,c6]);all_goals exact bP.rng (y::ys) hi au bT
    ·rw[aQ]at au mi;simp only[if_true]at au;clear af ad aQ;cases a with
     |nil=>
      simp[hi,c6];(with_reducible repeat' first|refine aj ?_|refine aA (ks _) ?_|refine aB (ks _) ?_|refine aA mi ?_|refine aB mi ?_|simp[hi,c6]);all_goals first|(refine⟨by unfold lim;omega,?_⟩)|skip
      all_goals(with_reducible repeat' first|refine aj ?_|simp)
      all_goals exact bP.rng [x] hi au bT
     |cons y ys=>
      simp only[oj]at qd;simp[hi,c6];(with_reducible repeat' first|refine aj ?_|refine aA (ks _) ?_|refine aB (ks _) ?_|refine aA mi ?_|refine aB mi ?_|simp[hi,c6]);all_goals first|(refine⟨by unfold lim;omega,?_⟩)|skip
      all_goals(with_reducible repeat' first|refine aj ?_|simp)
      all_goals exact bP.rng (y::ys++[x]) hi au ⟨by simp[fresh,aN,aJ,cz,inObs,Pv.look,Bb],eD (by simp[fresh,aN,aJ,cz,inObs,Pv.look,Bb]),eE (by simp[fresh,aN,aJ,eg,inObs,Pv.look,Bb]),Ψ⟩
   rw[uk,k9]at af;rw[<-af]at AN AH ds dy;clear af yB yu;cases a with
   |nil=>
    simp;(with_reducible repeat' first|refine aj ?_|simp);refine h0 (fun i (L:List (List ai))=>⟨[(1,.ptr (.loc 0) 0),(2,.ptr (.loc 1) 0),(8,.ptr (.loc 2) 0),(13,.slice 1 (.own (.loc 3)) (L.map cH)),(72,.slice 1 .no (d.map cH)),(73,.int .i64 d.length),(74,.int .i64 i)],[(.loc 0,[.int .i64 n,.slice 5 .no (b.map ai.e),.slice 1 .no (d.map cH),.slice 2 .no (hk.map ca.e),.slice 2 .no (m0.map bs.e)]),(.loc 1,[.int .i64 0,.slice 5 .nil [],.slice 1 .nil [],.slice 2 .nil [],.slice 2 .nil []]),(.loc 2,[.int .i64 n,.slice 5 .no (b.map ai.e),.slice 1 .nil [],.slice 2 .no (k.map ca.e),.slice 2 .nil []])],[(.loc 3,⟨L.length,23,1,none⟩)],3+1,[]⟩) d.length (qP b k [] d) [] bT ⟨Ψ,Ψ,Ψ⟩ (fun L af _=>?_) (fun i L hi af _=>?_)
    ·have gU:=af.fin;have sw:=af.2.1;rw[gU]at ds dy;simp only at ds dy;have kX:=aaG L sw;clear af gU sw;generalize j4 L=M at kX ds dy;subst dy;by_cases lK:M.length<=30
     ·have pf:(M.length:Int)<=30:=Ω
      rw[if_pos lK]at ds;subst ds;simp;(with_reducible repeat' first|refine aj ?_|refine aA kX ?_|refine aB kX ?_|simp[lK,pf]);all_goals simp[bk,vU,aU,aW,aT]
      all_goals try simp[bK.e,lK,pf]
      all_goals first|exact⟨_,rfl,rfl⟩|skip
     ·have pf:¬(M.length:Int)<=30:=Ω
      rw[if_neg lK]at ds;subst ds;simp;(with_reducible repeat' first|refine aj ?_|refine aA kX ?_|refine aB kX ?_|simp[lK,pf]);all_goals simp[bk,vU,aU,aW,aT]
      all_goals try simp[bK.e,lK,pf]
      all_goals first|exact⟨_,rfl,rfl⟩|skip
    ·obtain⟨x,ad,c6⟩:=ej hi;have hc:=aF x (dP ad);have Uz:=af.1;have h9:=aaE ab hc;simp only[fh]at h9;cases hu:mgu b (ga x)with
     |none=>have au:=af.skip ad fun r=>M2 hu;rw[hu]at h9;simp only[kc,jG]at h9;clear af ad ds dy;exact gX
     |some y=>
      have jx:=ab.mgu (CP hc) hu;rw[hu]at h9;simp only[jo,mV]at h9;have dk:=PK jx wM;have ef:=PL jx AN hR AH;have ia:=PG ab jx;simp only[fS]at dk;simp only[ig,oo,ht]at ef;by_cases iS:fJ y k []=none\/fL y [] []=none
      ·have au:=af.skip ad fun r=>M1 hu iS;clear af ad ds dy hu ia;rcases iS with e|e
       ·rw[e]at dk;simp only[kc,jG]at dk;exact gX
       ·rw[e]at ef;simp only[kc,jG]at ef;generalize (fJ y k []).isSome=a1 at dk;cases a1
        ·exact gX
        ·exact gX
      ·have aq:(fJ y k []).isSome=true:=by cases e:fJ y k []with|none=>exact absurd (.inl e) iS|some _=>rfl
       have aG:(fL y [] []).isSome=true:=by cases e:fL y [] []with|none=>exact absurd (.inr e) iS|some _=>rfl
       rw[aq]at dk;rw[aG]at ef;by_cases cK:dN b y=[]
       ·have ag:=af.stop ad fun r=>M0 hu iS cK;rw[ag]at ds dy;simp only at ds dy;subst ds;subst dy;rw[cK]at ia;simp only[cH,oo]at ia;clear af ad hu iS;simp[hi,c6];(with_reducible repeat' first|refine aj ?_|refine aA h9 ?_|refine aB h9 ?_|refine aA dk ?_|refine aB dk ?_|refine aA ef ?_|refine aB ef ?_|refine aA ia ?_|refine aB ia ?_|simp[hi,c6]);all_goals simp[bk,vU,aU,aW,aT]
        all_goals try simp[hs,bK.e]
       ·have au:=af.snoc ad (Ek (b:=b) jx) fun r=>M3 hu iS cK;have wN:¬((dN b y).length:Int)=0:=by have:(dN b y).length≠0:=fun h=>cK (List.length_eq_zero_iff.1 h);omega
        have wO:(((dN b y).length:Int)==0)=false:=by simp[cK]
        clear af ad hu iS ds dy;generalize dN b y=z at ia au wN wO cK;simp only[cH]at ia;simp[hi,c6];(with_reducible repeat' first|refine aj ?_|refine aA h9 ?_|refine aB h9 ?_|refine aA dk ?_|refine aB dk ?_|refine aA ef ?_|refine aB ef ?_|refine aA ia ?_|refine aB ia ?_|simp[hi,c6,wN,wO,cK]);all_goals first|(refine⟨by unfold lim;omega,?_⟩)|skip
        all_goals(with_reducible repeat' first|refine aj ?_|simp)
        all_goals exact bP.rng (L++[z]) hi au ⟨by simp[fresh,aN,aJ,cz,inObs,Pv.look,uq,cH],eD d7,eE d8,Ψ⟩
   |cons Fs Ft=>
    simp;(with_reducible repeat' first|refine aj ?_|simp);refine h0 (fun i (L:List (List ai))=>⟨[(1,.ptr (.loc 0) 0),(2,.ptr (.loc 1) 0),(8,.ptr (.loc 2) 0),(13,.slice 1 (.own (.loc 6)) (L.map cH)),(72,.slice 1 .no (d.map cH)),(73,.int .i64 d.length),(74,.int .i64 i)],[(.loc 0,[.int .i64 n,.slice 5 .no (b.map ai.e),.slice 1 .no (d.map cH),.slice 2 .no (hk.map ca.e),.slice 2 .no (m0.map bs.e)]),(.loc 1,[.int .i64 0,.slice 5 .nil [],.slice 1 .nil [],.slice 2 .nil [],.slice 2 .nil []]),(.loc 2,[.int .i64 n,.slice 5 .no (b.map ai.e),.slice 1 .nil [],.slice 2 .no (k.map ca.e),.slice 2 (.own (.loc 5)) (Fs.e::Ft.map bs.e)])],[(.loc 6,⟨L.length,23,1,none⟩)],6+1,[]⟩) d.length (qP b k (Fs::Ft) d) [] bT ⟨Ψ,Ψ,Ψ⟩ (fun L af _=>?_) (fun i L hi af _=>?_)
    ·have gU:=af.fin;have sw:=af.2.1;rw[gU]at ds dy;simp only at ds dy;have kX:=aaG L sw;clear af gU sw;generalize j4 L=M at kX ds dy;subst dy;by_cases lK:M.length<=30
     ·have pf:(M.length:Int)<=30:=Ω
      rw[if_pos lK]at ds;subst ds;simp;(with_reducible repeat' first|refine aj ?_|refine aA kX ?_|refine aB kX ?_|simp[lK,pf]);all_goals simp[bk,vU,aU,aW,aT]
      all_goals try simp[bK.e,lK,pf]
      all_goals first|exact⟨_,rfl,rfl⟩|skip
     ·have pf:¬(M.length:Int)<=30:=Ω
      rw[if_neg lK]at ds;subst ds;simp;(with_reducible repeat' first|refine aj ?_|refine aA kX ?_|refine aB kX ?_|simp[lK,pf]);all_goals simp[bk,vU,aU,aW,aT]
      all_goals try simp[bK.e,lK,pf]
      all_goals first|exact⟨_,rfl,rfl⟩|skip
    ·obtain⟨x,ad,c6⟩:=ej hi;have hc:=aF x (dP ad);have Uz:=af.1;have h9:=aaE ab hc;simp only[fh]at h9;cases hu:mgu b (ga x)with
     |none=>have au:=af.skip ad fun r=>M2 hu;rw[hu]at h9;simp only[kc,jG]at h9;clear af ad ds dy;exact gX
     |some y=>
      have jx:=ab.mgu (CP hc) hu;rw[hu]at h9;simp only[jo,mV]at h9;have dk:=PK jx wM;have ef:=PL jx AN hR AH;have ia:=PG ab jx;simp only[fS]at dk;simp only[ig,oo,ht]at ef;by_cases iS:fJ y k []=none\/fL y (Fs::Ft) []=none
      ·have au:=af.skip ad fun r=>M1 hu iS;clear af ad ds dy hu ia;rcases iS with e|e
       ·rw[e]at dk;simp only[kc,jG]at dk;exact gX
       ·rw[e]at ef;simp only[kc,jG]at ef;generalize (fJ y k []).isSome=a1 at dk;cases a1
        ·exact gX
        ·exact gX
      ·have aq:(fJ y k []).isSome=true:=by cases e:fJ y k []with|none=>exact absurd (.inl e) iS|some _=>rfl
       have aG:(fL y (Fs::Ft) []).isSome=true:=by cases e:fL y (Fs::Ft) []with|none=>exact absurd (.inr e) iS|some _=>rfl
       rw[aq]at dk;rw[aG]at ef;by_cases cK:dN b y=[]
       ·have ag:=af.stop ad fun r=>M0 hu iS cK;rw[ag]at ds dy;simp only at ds dy;subst ds;subst dy;rw[cK]at ia;simp only[cH,oo]at ia;clear af ad hu iS;simp[hi,c6];(with_reducible repeat' first|refine aj ?_|refine aA h9 ?_|refine aB h9 ?_|refine aA dk ?_|refine aB dk ?_|refine aA ef ?_|refine aB ef ?_|refine aA ia ?_|refine aB ia ?_|simp[hi,c6]);all_goals simp[bk,vU,aU,aW,aT]
        all_goals try simp[hs,bK.e]
       ·have au:=af.snoc ad (Ek (b:=b) jx) fun r=>M3 hu iS cK;have wN:¬((dN b y).length:Int)=0:=by have:(dN b y).length≠0:=fun h=>cK (List.length_eq_zero_iff.1 h);omega
        have wO:(((dN b y).length:Int)==0)=false:=by simp[cK]
        clear af ad hu iS ds dy;generalize dN b y=z at ia au wN wO cK;simp only[cH]at ia;simp[hi,c6];(with_reducible repeat' first|refine aj ?_|refine aA h9 ?_|refine aB h9 ?_|refine aA dk ?_|refine aB dk ?_|refine aA ef ?_|refine aB ef ?_|refine aA ia ?_|refine aB ia ?_|simp[hi,c6,wN,wO,cK]);all_goals first|(refine⟨by unfold lim;omega,?_⟩)|skip
        all_goals(with_reducible repeat' first|refine aj ?_|simp)
        all_goals exact bP.rng (L++[z]) hi au ⟨by simp[fresh,aN,aJ,cz,inObs,Pv.look,uq,cH],eD d7,eE d8,Ψ⟩
theorem aqh(x y:List ai):bQ ax 180 [cH x,cH y] (.int .i64 (ez x y)):=PI x y
theorem aqt{x y:List ai}(h:¬x=y):(ez x y !=0)=true:=by have:¬ez x y=0:=fun e=>h ((ly.zero _ _).1 e);simp[this]
theorem aqr(a c:bK):bQ ax 94 [a.e,c.e] (.bool (decide (a=c))):=by
 obtain⟨n,b,d,k,m⟩:=a;obtain⟨n',b1,cn,bH,ic⟩:=c;generalize bA:decide ((⟨n,b,d,k,m⟩:bK)=⟨n',b1,cn,bH,ic⟩)=R;simp only[bK.mk.injEq,bK.e]at bA⊢;by_cases a1:n=n';rotate_left
 ·have gj:R=false:=by rw[<-bA];simp[a1]
  have uC:(n !=n')=true:=by simp[a1]
  rw[gj];clear bA gj;refine bj oU Am Bz fun aR=>?_;unfold x8;exact cp
 subst a1;have fI:=PI b b1;by_cases bp:b=b1;rotate_left
 ·have gj:R=false:=by rw[<-bA];simp[bp]
  have pJ:¬ez b b1=0:=fun h=>bp ((ly.zero _ _).1 h);have Yb:(ez b b1 !=0)=true:=by simp[pJ]
  rw[gj];clear bA gj;refine bj oU Am Bz fun aR=>?_;unfold x8;exact cp
 subst bp;rw[(ly.zero b b).2 rfl]at fI;by_cases bV:d.length=cn.length;rotate_left
 ·have gj:R=false:=by rw[<-bA];simp only[gn];rintro⟨_,_,rfl,_⟩;exact bV rfl
  have tb:((d.length:Int) !=cn.length)=true:=by simp;omega
  rw[gj];clear bA gj;refine bj oU Am Bz fun aR=>?_;unfold x8;exact cp
 by_cases cQ:k.length=bH.length;rotate_left
 ·have gj:R=false:=by rw[<-bA];simp only[gn];rintro⟨_,_,_,rfl,_⟩;exact cQ rfl
  have anC:((k.length:Int) !=bH.length)=true:=by simp;omega
  rw[gj];clear bA gj;refine bj oU Am Bz fun aR=>?_;unfold x8;exact cp
 by_cases cZ:m.length=ic.length;rotate_left
 ·have gj:R=false:=by rw[<-bA];simp only[gn];rintro⟨_,_,_,_,rfl⟩;exact cZ rfl
  have anD:((m.length:Int) !=ic.length)=true:=by simp;omega
  rw[gj];clear bA gj;refine bj oU Am Bz fun aR=>?_;unfold x8;exact cp
 have yE:d≠cn->R=false:=fun h=>by rw[<-bA];simp[h]
 have yF:k≠bH->R=false:=fun h=>by rw[<-bA];simp[h]
 have Ma:m≠ic->R=false:=fun h=>by rw[<-bA];simp[h]
 refine bj oU Am Bz fun aR=>?_;unfold x8;have aii:cn.length<=68719476736:=by simp[gI,fZ,gz,lim]at aR;omega
 have aij:bH.length<=68719476736:=by simp[gI,fZ,gz,lim]at aR;omega
 have aik:ic.length<=68719476736:=by simp[gI,fZ,gz,lim]at aR;omega
 clear aR;simp;(with_reducible repeat' first|refine aj ?_|refine aA fI ?_|refine aB fI ?_|simp[bV,cQ,cZ]);have cB:=yE;refine dT [2,3,52,53] (fun i (_:Unit)=>[(54,.int .i64 i)]) cn.length (sf d cn) () bT (fun k ae=>Ω) (fun _ af _=>?_) (fun i _ hi af _=>?_);rotate_left
 ·obtain⟨x,ad⟩:∃x,d[i]? =some x:=⟨_,bY Ω⟩;obtain⟨y,aC⟩:∃y,cn[i]? =some y:=⟨_,bY hi⟩;have gD:i<d.length:=Ω
  have c6:∀h,(d[i]'h)=x:=fun h=>by rw[bY gD]at ad;exact eH ad
  have eX:∀h,(cn[i]'h)=y:=fun h=>by rw[bY hi]at aC;exact eH aC
  have fI:=aqh x y;by_cases q:x=y
  ·subst q;have au:=af.step ad aC;rw[(ly.zero _ _).2 rfl]at fI;clear af ad aC;simp[hi,gD,c6,eX,-iO];(with_reducible repeat' first|refine aj ?_|refine aA fI ?_|refine aB fI ?_|simp[c6,eX,hi,gD,-iO]);all_goals exact bP.rng () hi au bT
  ·rw[cB (fun h=>q ci)];have pJ:=aqt q;clear af ad aC;simp[hi,gD,c6,eX,-iO];(with_reducible repeat' first|refine aj ?_|refine aA fI ?_|refine aB fI ?_|simp[c6,eX,hi,gD,q,pJ,-iO]);all_goals simp[bk,IL,aU,aW,aT]
 have c8:=af.fin bV;subst c8;clear af cB yE bV;simp;(with_reducible repeat' first|refine aj ?_|simp[cQ]);have cB:=yF;refine dT [2,3,69,70] (fun i (_:Unit)=>[(71,.int .i64 i)]) bH.length (sf k bH) () bT (fun k ae=>Ω) (fun _ af _=>?_) (fun i _ hi af _=>?_);rotate_left
 ·obtain⟨x,ad⟩:∃x,k[i]? =some x:=⟨_,bY Ω⟩;obtain⟨y,aC⟩:∃y,bH[i]? =some y:=⟨_,bY hi⟩;have gD:i<k.length:=Ω
  have c6:∀h,(k[i]'h)=x:=fun h=>by rw[bY gD]at ad;exact eH ad
  have eX:∀h,(bH[i]'h)=y:=fun h=>by rw[bY hi]at aC;exact eH aC
  have fI:=True.intro;by_cases q:x=y
  ·subst q;have au:=af.step ad aC;skip;clear af ad aC;simp[hi,gD,c6,eX,-iO];(with_reducible repeat' first|refine aj ?_|refine aA fI ?_|refine aB fI ?_|simp[c6,eX,hi,gD,-iO]);all_goals exact bP.rng () hi au bT
  ·rw[cB (fun h=>q ci)];skip;clear af ad aC;simp[hi,gD,c6,eX,-iO];(with_reducible repeat' first|refine aj ?_|refine aA fI ?_|refine aB fI ?_|simp[c6,eX,hi,gD,q,q,-iO]);all_goals simp[bk,IL,aU,aW,aT]
 have c8:=af.fin cQ;subst c8;clear af cB yF cQ;simp;(with_reducible repeat' first|refine aj ?_|simp[cZ]);have cB:=Ma;refine dT [3,85,86] (fun i (_:Unit)=>[(87,.int .i64 i)]) ic.length (sf m ic) () bT (fun k ae=>Ω) (fun _ af _=>?_) (fun i _ hi af _=>?_);rotate_left
 ·obtain⟨x,ad⟩:∃x,m[i]? =some x:=⟨_,bY Ω⟩;obtain⟨y,aC⟩:∃y,ic[i]? =some y:=⟨_,bY hi⟩;have gD:i<m.length:=Ω
  have c6:∀h,(m[i]'h)=x:=fun h=>by rw[bY gD]at ad;exact eH ad
  have eX:∀h,(ic[i]'h)=y:=fun h=>by rw[bY hi]at aC;exact eH aC
  have fI:=True.intro;by_cases q:x=y
  ·subst q;have au:=af.step ad aC;skip;clear af ad aC;simp[hi,gD,c6,eX,-iO];(with_reducible repeat' first|refine aj ?_|refine aA fI ?_|refine aB fI ?_|simp[c6,eX,hi,gD,-iO]);all_goals exact bP.rng () hi au bT
  ·rw[cB (fun h=>q ci)];skip;clear af ad aC;simp[hi,gD,c6,eX,-iO];(with_reducible repeat' first|refine aj ?_|refine aA fI ?_|refine aB fI ?_|simp[c6,eX,hi,gD,q,q,-iO]);all_goals simp[bk,IL,aU,aW,aT]
 have c8:=af.fin cZ;subst c8;have gj:R=true:=by rw[<-bA];simp
 rw[gj];exact cp
@[simp]theorem apj:∀l:List (List dL),c7 (l.map l2)=l.map l2
 |[]=>rfl
 |x::xs=>by simp[c7,apj xs]
theorem ZU:∀{d:List (List dL)},d.all gL=true->∃D:List (List ai),d=(D.map fun x=>x.map ai.b)/\∀x∈D,ek x
 |[],_=>⟨[],rfl,Ψ⟩
 |x::d,h=>by
  rw[List.all_cons,cr]at h;obtain⟨D,J,U⟩:=ZU h.2;obtain⟨s,aq,aG⟩:=xC.1 (rV.1 h.1);refine⟨s::D,by rw[J,aq];rfl,fun y aC=>?_⟩;rcases e7.1 aC with rfl|aC
  ·exact aG
  ·exact U y aC
open Classical in
theorem aqF(r:mv)(gC:ji r.m->mQ r.m):bQ ax 65 [r.e] (.bool (decide (pM r))):=by
 generalize bA:decide (pM r)=R;have cB:¬OE r->R=false:=fun h=>by rw[<-bA,gn];exact fun cd=>h cd.raw
 obtain⟨n,b,d,k,m⟩:=r;simp only[mv.e]at gC⊢;have nY:=dx n 0 100000;by_cases g1:0<=n/\n<=100000;rotate_left
 ·rw[cB fun h=>g1 h.n];rw[h6 g1]at nY;refine bj oU yc y8 fun aR=>?_;unfold wv;exact cp
 rw[gx g1]at nY;have j3:bQ ax 142 [.slice 5 .no (b.map dL.e)] (.bool (gL b)):=PN b;cases g3:gL b
 ·rw[cB fun h=>by obtain⟨s,aq,aG,_⟩:=h.b;have:=rV.2 (xC.2 ⟨s,aq,aG⟩);simp only at this;rw[g3]at this;cases this]
  rw[g3]at j3;refine bj oU yc y8 fun aR=>?_;unfold wv;exact cp
 rw[g3]at j3;obtain⟨s,rfl,ag⟩:=xC.1 (rV.1 g3);clear g3;rw[qU]at j3⊢;have e9:=aqg d;cases wD:d.all gL
 ·rw[cB fun h=>by
   have:d.all gL=true:=by rw[fy];intro x ad;obtain⟨s,aq,aG,_⟩:=h.d x ad;exact rV.2 (xC.2 ⟨s,aq,aG⟩)
   rw[wD]at this;cases this]
  rw[wD]at e9;refine bj oU yc y8 fun aR=>?_;unfold wv;exact cp
 rw[wD]at e9;obtain⟨D,rfl,qG⟩:=ZU wD;clear wD;rw[KK]at e9⊢;have dk:=aqD k;by_cases g4:hl k;rotate_left
 ·rw[cB fun h=>g4 h.k];rw[h6 g4]at dk;refine bj oU yc y8 fun aR=>?_;unfold wv;exact cp
 rw[gx g4]at dk;have ef:=aqE m;by_cases g5:ji m;rotate_left
 ·rw[cB fun h=>g5 h.m];rw[h6 g5]at ef;refine bj oU yc y8 fun aR=>?_;unfold wv;exact cp
 rw[gx g5]at ef;have lP:=aaI s n;cases g6:s.all (lf n)
 ·rw[cB fun h=>by obtain⟨ah,aq,_,bG⟩:=h.b;have di:=p4 aq;subst di;rw[wm.2 bG]at g6;cases g6]
  rw[g6]at lP;refine bj oU yc y8 fun aR=>?_;unfold wv;exact cp
 rw[g6]at lP;have cI:=wm.1 g6;clear g6;have Du:=gC g5;have l6:=Du.len g5;refine bj oU yc y8 fun aR=>?_;unfold wv;have yp:D.length<=68719476736:=by simp[gI,fZ,gz,lim]at aR;omega
 have gl:=oK g4;clear aR gC;simp;(with_reducible repeat' first|refine aj ?_|refine aA nY ?_|refine aB nY ?_|refine aA j3 ?_|refine aB j3 ?_|refine aA e9 ?_|refine aB e9 ?_|refine aA dk ?_|refine aB dk ?_|refine aA ef ?_|refine aB ef ?_|refine aA lP ?_|refine aB lP ?_|simp);refine dT [1,48,49] (fun i (_:Unit)=>[(50,.int .i64 i)]) D.length (sT (fun x=>ox x n) D) () bT (fun k b ae=>Ω) (fun _ af _=>?_) (fun i _ hi af _=>?_);rotate_left
 ·obtain⟨y,aC,eX⟩:=ej hi;have My:=dP aC;have mi:bQ ax 146 [cH y,.int .i64 n] (.bool (y.all (lf n))):=aaI y n;cases ss:y.all (lf n)
  ·rw[cB fun h=>by obtain⟨ah,aq,_,bG⟩:=h.d _ (List.mem_map_of_mem My);have di:=p4 aq;subst di;rw[wm.2 bG]at ss;cases ss]
   rw[ss]at mi;clear af aC My;exact cp
  ·rw[ss]at mi;have au:=af.step aC (wm.1 ss);clear af aC My;exact gX
 have LB:=af.fin;clear af;simp;(with_reducible repeat' first|refine aj ?_|simp);refine dT [1,61,62] (fun i (_:Unit)=>[(63,.int .i64 i)]) k.length (sT (fun x=>x.v<n) k) () bT (fun k b ae=>Ω) (fun _ af _=>?_) (fun i _ hi af _=>?_);rotate_left
 ·obtain⟨x,ad,c6⟩:=ej hi;by_cases ni:x.v<n
  ·have yj:¬n<=x.v:=Ω
   have au:=af.step ad ni;clear af ad;exact gX
  ·have yj:n<=x.v:=Ω
   rw[cB fun h=>ni (h.kb x (dP ad))];clear af ad;exact cp
 have yv:=af.fin;clear af;simp;(with_reducible repeat' first|refine aj ?_|simp);have qJ:=yv;refine dT [1,74,75] (fun i (_:Unit)=>[(76,.int .i64 i)]) m.length (sT (fun x=>x.v<n) m) () bT (fun k b ae=>Ω) (fun _ af _=>?_) (fun i _ hi af _=>?_);rotate_left
 ·obtain⟨x,ad,c6⟩:=ej hi;by_cases ni:x.v<n
  ·have yj:¬n<=x.v:=Ω
   have au:=af.step ad ni;clear af ad;exact gX
  ·have yj:n<=x.v:=Ω
   rw[cB fun h=>ni (h.mb x (dP ad))];clear af ad;exact cp
 have yv:=af.fin;clear af;simp;(with_reducible repeat' first|refine aj ?_|simp);have oG:=yv;have dh:gu ⟨n,s,D,k,m⟩:=⟨g1,ag,qG,g4,g5,cI,LB,qJ,oG⟩;have vo:=ZR dh;obtain⟨G,hR,aX⟩:=Du;have dq:=Cg dh hR aX;have lM:pM ⟨n,s.map ai.b,D.map fun x=>x.map ai.b,k,m⟩↔e6 ⟨n,s,D,k,m⟩=some ⟨n,s,D,k,m⟩:=vo;clear vo cB;simp only[qv]at dq;generalize LD:th ⟨n,s,D,k,m⟩=t at dq;have w5:=aqr t ⟨n,s,D,k,m⟩;cases kB:e6 ⟨n,s,D,k,m⟩with
 |none=>
  rw[kB]at dq lM;have gj:R=false:=by rw[<-bA,gn,lM];simp
  rw[gj];obtain⟨xJ,xG,xH,xI,tm⟩:=t;simp only[jG,bK.e]at dq;clear bA gj lM LD w5;exact cp
 |some dO=>
  have aq:=O2 kB;rw[LD]at aq;subst aq;rw[kB]at dq lM;have gj:R=decide (t=⟨n,s,D,k,m⟩):=by rw[<-bA,decide_eq_decide,lM];simp
  rw[gj];simp only[mV]at dq;simp only[bK.e]at dq w5;clear bA gj lM kB;generalize decide (t=(⟨n,s,D,k,m⟩:bK))=Q at w5⊢;clear LD;obtain⟨xJ,xG,xH,xI,tm⟩:=t;simp only at dq w5;exact cp
def Lg(n:Int)(l:List bU):Prop:= ∃x:List T,l=x.map T.tm/\(∀t∈x,t.fit=true)/\∀t∈x,ec n t=true
theorem apu{x y:List T}(h:x.map T.tm=y.map T.tm):x=y:=(List.map_inj_right fun _ _=>zy).1 h
theorem To(l:List T):(l.map T.tm).map enc=l.map T.e:=by rw[List.map_map];exact List.map_congr_left fun t _=>lj t
theorem TW:∀{l:List bU},l.all bU.fits=true->∃x:List T,l=x.map T.tm/\∀t∈x,t.fit=true
 |[],_=>⟨[],rfl,Ψ⟩
 |t::l,h=>by rw[List.all_cons,cr]at h;obtain⟨x,rfl,U⟩:=TW h.2;obtain⟨y,rfl,a6⟩:=bU.fits_ex h.1;exact⟨y::x,rfl,fun z ba=>(e7.1 ba).elim (fun e=>by rw[e];exact a6) (U z)⟩
theorem agd{n:Int}{x y:T}(ad:x.fit=true)(aC:y.fit=true)(J:ec n x=true)(U:ec n y=true):Lg n [x.tm,y.tm]:=⟨[x,y],rfl,by simp[ad,aC],by simp[J,U]⟩
theorem aaR{n:Int}:∀(l:List T) (m:Int),l.foldl (fun m t=>t.fold r2 m) m<=n↔m<=n/\∀t∈l,ec n t=true
 |[],m=>by simp
 |t::l,m=>by rw[List.foldl_cons,aaR l,Jy];simp[and_assoc]
theorem kD.fin{α:Type}{p:α->Bool}{s:List α}(h:kD p s s.length ()):∀b∈s,p b=true:=fun b ab=>by obtain⟨i,hi⟩:=List.mem_iff_getElem?.1 ab;exact h i b (by have:=(eS.1 hi).1;omega) hi
theorem aqJ(l:List bU):bQ ax 68 [.slice 4 .no (l.map enc)] (.bool (l.all bU.fits)):=by
 generalize bA:l.all bU.fits=R;refine bj fN TM XM fun aR=>?_;unfold Kl;have h1:l.length<=68719476736:=by simp[gI,fZ,gz,lim]at aR;omega
 simp;refine dT [5,6] (fun i (_:Unit)=>[(7,.int .i64 i)]) l.length (kD bU.fits l) () bT (fun k b ae=>Ω) (fun _ af _=>?_) (fun i _ hi af _=>?_)
 ·have:R=true:=by rw[<-bA,fy];exact af.fin
  subst this;clear af bA;exact cp
 ·obtain⟨t,aH,lu⟩:=ej hi;have dq:=Fg t;cases g:t.fits
  ·rw[g]at dq;have:R=false:=by rw[<-bA,List.all_eq_false];exact⟨t,dP aH,by rw[g];simp⟩
   subst this;clear aH af bA;exact cp
  ·rw[g]at dq;have au:=af.step aH g;clear aH af bA;exact gX
open Classical in
theorem aar(r:mv)(gC:ji r.m->mQ r.m)(l:List bU):bQ ax 47 [r.e,.slice 4 .no (l.map enc)] (.bool (decide (pM r/\Lg r.n l))):=by
 generalize bA:decide (pM r/\Lg r.n l)=R;have c9:=aam r gC;have dq:=aqJ l;have au:=fun h:pM r=>(pM.raw h).n;by_cases g1:pM r;rotate_left
 ·rw[h6 g1]at c9;have:R=false:=by rw[<-bA];exact h6 fun h=>g1 h.1
  subst this;obtain⟨n,b,d,k,m⟩:=r;simp only[mv.e]at c9⊢;clear bA au gC g1;refine bj fa K4 NN fun aR=>?_;unfold F6;exact cp
 rw[gx g1]at c9;cases g2:l.all bU.fits
 ·rw[g2]at dq;have:R=false:=by rw[<-bA];refine h6 fun h=>?_;obtain⟨x,rfl,U,_⟩:=h.2;rw[List.all_eq_false]at g2;obtain⟨t,aH,aQ⟩:=g2;obtain⟨y,aC,rfl⟩:=hG.1 aH;rw[bU.fits_T]at aQ;exact aQ (U y aC)
  subst this;obtain⟨n,b,d,k,m⟩:=r;simp only[mv.e]at c9⊢;clear bA au gC g1 g2;refine bj fa K4 NN fun aR=>?_;unfold F6;exact cp
 rw[g2]at dq;obtain⟨x,rfl,ad⟩:=TW g2;rw[To]at dq⊢;have ft:=aao x ad;have ay:decide (xQ x<=r.n)=R:=by rw[<-bA,xQ];refine decide_eq_decide.2 ?_;rw[aaR];refine⟨fun h=>⟨g1,x,rfl,ad,h.2⟩,fun h=>⟨(au g1).1,?_⟩⟩;obtain⟨y,e,_,U⟩:=h.2;rw[apu e];exact U
 generalize xQ x=q at ft ay;obtain⟨n,b,d,k,m⟩:=r;simp only[mv.e]at c9 ay⊢;clear bA au gC g1 g2 ad;subst ay;refine bj fa K4 NN fun aR=>?_;unfold F6;exact cp
noncomputable def mz(s:bK)(x y:T):Option bK:=(mgu s.b [(x,y)]).bind fun b=>e6 {s with b:=b}
theorem aan{b:List ai}(ab:ek b){x y:T}(ad:x.fit=true)(aC:y.fit=true):bQ ax 48 [.slice 5 .no (b.map ai.e),x.e,y.e] (fh (mgu b [(x,y)])):=by have c9:=oW ab;have aP:=xN ad;have bd:=xN aC;have key:=aaQ b [x] [y] rfl ab.sol ab.fits ab.ok Ψ (by simp only[T.fit,cr]at ad;simpa using ad.1) (by simp only[T.fit,cr]at aC;simpa using aC.1);simp only[ht,oo,List.zip_cons_cons,List.zip_nil_left]at key;unfold fh at key⊢;generalize mgu b [(x,y)]=O at key;refine bj fa aer alu fun aR=>?_;unfold Q7;exact cp
theorem vB(S:aM->Prop)(l:List (List ai))(d:List ai):aN S (l.map cH++[cH d])=True:=uq S l d
theorem aaq{x:List ai}(h:x.length<=1000000):bQ ax 119 [cH x] (cH x):=Fh x h
theorem PD(s:bK)(ab:s.b.length<=1000000)(aF:∀x∈s.d,x.length<=1000000)(ae:s.k.length<=1000000)(hm:s.m.length<=68719470000):bQ ax 49 [s.e] s.e:=by
 obtain⟨n,b,d,k,m⟩:=s;simp only[bK.e]at ab aF ae hm⊢;have j3:=Fh b ab;refine bj fa TJ XJ fun aR=>?_;unfold Ki;have h1:d.length<=68719476736:=by simp[gI,fZ,gz,lim]at aR;omega
 clear aR;simp;(with_reducible repeat' first|refine aj ?_|refine aA j3 ?_|refine aB j3 ?_|simp);refine h0 (fun i (L:List (List ai))=>⟨[(1,.ptr (.loc 0) 0),(2,.ptr (.loc 1) 0),(3,.ptr (.loc 5) 0),(14,.slice 1 .no (d.map cH)),(15,.int .i64 d.length),(16,.int .i64 i)],[(.loc 0,[.int .i64 n,.slice 5 .no (b.map ai.e),.slice 1 .no (d.map cH),.slice 2 .no (k.map ca.e),.slice 2 .no (m.map bs.e)]),(.loc 1,[.int .i64 0,.slice 5 .nil [],.slice 1 .nil [],.slice 2 .nil [],.slice 2 .nil []]),(.loc 5,[.int .i64 n,.slice 5 .no (b.map ai.e),.slice 1 (.own (.loc 13)) (L.map cH),.slice 2 .nil [],.slice 2 .nil []])],[(.loc 13,⟨L.length,23,1,none⟩)],41,[]⟩) d.length (fun i L=>L=d.take i) [] bT Ψ (fun L af _=>?_) (fun i L hi af _=>?_)
 ·rw[k9]at af;subst af;simp;(with_reducible repeat' first|refine aj ?_|simp);all_goals first|(refine⟨by unfold lim;omega,?_⟩)|skip
  exact cp
 ·obtain⟨x,ad,c6⟩:=ej hi;have mh:=aaq (aF x (dP ad));have av:L.length<=i:=by rw[af];simp;omega
  simp[hi,c6];(with_reducible repeat' first|refine aj ?_|refine aA mh ?_|refine aB mh ?_|simp[c6,hi]);all_goals first|(refine⟨by unfold lim;omega,?_⟩)|skip
  (with_reducible repeat' first|refine aj ?_|simp);refine bP.rng (L++[x]) hi (by rw[mP ad,af]) ?_;simp;exact⟨by simp[fresh,aN,aJ,cz,inObs,Pv.look,vB],eD (by simp[fresh,aN,aJ,cz,inObs,Pv.look,vB]),eE (by simp[fresh,aN,aJ,eg,inObs,Pv.look,vB]),Ψ⟩
theorem T.fit_ok{x:T}(h:x.fit=true):x.ok=true:=by simp only[T.fit,cr]at h;exact h.1
theorem gu.bind{s:bK}(h:gu s){x y:T}(ad:x.fit=true)(aC:y.fit=true)(bx:ec s.n x=true)(hO:ec s.n y=true){b:List ai}(hm:mgu s.b [(x,y)]=some b):gu {s with b:=b}:=⟨h.n,h.b.mgu (by simp[T.fit_ok ad,T.fit_ok aC]) hm,h.d,h.k,h.m,Xg (fun v=>v<s.n) h.b.sol h.b.fits h.bb (fun e he=>by simp only[jT]at he;subst he;exact⟨sc.1 bx,sc.1 hO⟩) hm,h.db,h.kb,h.mb⟩
open Classical in
theorem aas{s:bK}(h:mN s)(hm:mQ s.m){x y:T}(ad:x.fit=true)(aC:y.fit=true)(bx:ec s.n x=true)(hO:ec s.n y=true):bQ ax 47 [s.e,.slice 4 .no [x.e,y.e]] (.bool true):=by have:=aar s.r (fun _=>hm) [x.tm,y.tm];rw[gx ⟨⟨s,rfl,h⟩,agd ad aC bx hO⟩,Fa]at this;simpa[lj]using this
theorem apL{s:bK}(h:mN s)(hm:mQ s.m){x y:T}(ad:x.fit=true)(aC:y.fit=true)(bx:ec s.n x=true)(hO:ec s.n y=true):bQ ax 12 [s.e,x.e,y.e] (jk (mz s x y)):=by
 have aP:=aas h hm ad aC bx hO;have bd:=aan h.1.b ad aC;have bS:=PD s h.1.b.len (fun z ba=>(h.1.d z ba).len) (by have:=oK h.1.k;omega) (hm.len h.1.m);unfold mz;cases hu:mgu s.b [(x,y)]with
 |none=>rw[hu]at bd;clear h hu bS;obtain⟨n,b,d,k,m⟩:=s;simp only[bK.e,fh,jk,Option.bind_none,kc,jG,hs]at aP bd⊢;refine bj fa TD XD fun aR=>?_;unfold Kc;simp;((with_reducible repeat' first|refine aj ?_|refine aA aP ?_|refine aB aP ?_|refine aA bd ?_|refine aB bd ?_|simp|((first|apply bL|apply bN|apply bM)<;>intro h<;>try simp at h))<;>(try exact cm));all_goals simp[bk,N6,aU,aW,aT]
 |some b1=>rw[hu]at bd;obtain⟨G,hR,aX⟩:=hm;have ea:=Ch (h.1.bind ad aC bx hO hu) hR aX;rw[ij];generalize e6 {s with b:=b1}=O at ea;clear h hu;obtain⟨n,b,d,k,m⟩:=s;simp only[bK.e,fh,jk]at aP bd bS ea⊢;refine bj fa TD XD fun aR=>?_;unfold Kc;simp;(with_reducible repeat' first|refine aj ?_|refine aA aP ?_|refine aB aP ?_|refine aA bd ?_|refine aB bd ?_|refine aA bS ?_|refine aB bS ?_|refine aA ea ?_|refine aB ea ?_|simp);all_goals simp[bk,N6,aU,aW,aT]
noncomputable def I4(s:bK)(x y:T):ak:=match mgu s.b [(x,y)]with
 |none=>.tuple [hs.e,.bool false]
 |some b=>qv {s with b:=b}
theorem aor(s:bK)(x y:T):∃t:bK,∃q:Bool,I4 s x y= .tuple [t.e,.bool q]/\(q=true->mz s x y=some t)/\(q=false->mz s x y=none):=by
 unfold I4 mz;cases mgu s.b [(x,y)]with
 |none=>exact⟨hs,false,rfl,(fun h=>by cases h),fun _=>rfl⟩
 |some b=>
  refine⟨_,_,rfl,(fun h=>?_),fun h=>?_⟩
  ·obtain⟨t,aH⟩:=fE.1 h;rw[O2 aH];exact aH
  ·rw[ij];cases e:e6 {s with b:=b}with
   |none=>rfl
   |some t=>rw[e]at h;cases h
theorem aql{s:bK}(h:gu s)(hm:mQ s.m){x y:T}(ad:x.fit=true)(aC:y.fit=true)(bx:ec s.n x=true)(hO:ec s.n y=true)(kE:Int)(tag:List c0):bQ ax 93 [s.e,.int .i64 0,x.e,y.e,.int .i64 kE,.str tag] (I4 s x y):=by
 have aP:=PH s.b x y h.b.sol h.b.fits;unfold I4;cases hu:mgu s.b [(x,y)]with
 |none=>rw[hu]at aP;clear h hu;obtain⟨n,b,d,k,m⟩:=s;simp only[bK.e,fh,hs]at aP⊢;refine bj fa sk s7 fun aR=>?_;unfold rj;exact cp
 |some b1=>rw[hu]at aP;obtain⟨G,hR,aX⟩:=hm;have bd:=Cg (h.bind ad aC bx hO hu) hR aX;simp only[qv]at bd⊢;generalize th {s with b:=b1}=t at bd;generalize (e6 {s with b:=b1}).isSome=q at bd;clear h hu;obtain⟨n,b,d,k,m⟩:=s;obtain⟨xJ,xG,xH,xI,tm⟩:=t;simp only[bK.e,fh]at aP bd⊢;refine bj fa sk s7 fun aR=>?_;unfold rj;exact cp
theorem ap9{x:List ai}(h:x.length<=1000000):bQ ax 190 [cH x] (cH x):=aaB x h
theorem aqi(t:List (List ai))(aH:∀x∈t,x.length<=1000000):bQ ax 191 [.slice 1 .no (t.map cH)] (.slice 1 .no (t.map cH)):=by
 refine bj fa af0 am4 fun aR=>?_;unfold SK;have h1:t.length<=68719476736:=by simp[gI,fZ,gz,lim]at aR;omega
 clear aR;have dk:=fun x ad=>ap9 (aH x ad);simp;(with_reducible repeat' first|refine aj ?_|simp);refine h0 (fun i (L:List (List ai))=>⟨[(7,.slice 1 .no (t.map cH)),(8,.int .i64 t.length),(3,.slice 1 (.own (.loc 0)) (L.map cH)),(9,.int .i64 i)],[],[(.loc 0,⟨L.length,23,1,none⟩)],1,[]⟩) t.length (fun i L=>L=t.take i) [] bT Ψ (fun L af _=>?_) (fun i L hi af _=>?_)
 ·rw[k9]at af;subst af;exact cp
 ·obtain⟨x,ad,c6⟩:=ej hi;have mh:=dk x (dP ad);have av:L.length<=i:=by rw[af];simp;omega
  clear dk;simp[hi,c6];(with_reducible repeat' first|refine aj ?_|refine aA mh ?_|refine aB mh ?_|simp[c6,hi]);all_goals first|(refine⟨by unfold lim;omega,?_⟩)|skip
  all_goals(with_reducible repeat' first|refine aj ?_|simp)
  all_goals refine bP.rng (L++[x]) hi (by rw[mP ad,af]) ?_
  all_goals simp
  all_goals exact⟨by simp[fresh,aN,aJ,cz,inObs,Pv.look,vB],eD (by simp[fresh,aN,aJ,cz,inObs,Pv.look,vB]),eE (by simp[fresh,aN,aJ,eg,inObs,Pv.look,vB]),Ψ⟩
theorem aqq(s:bK)(ab:s.b.length<=1000000)(aF:∀x∈s.d,x.length<=1000000)(ae:s.k.length<=1000000)(hm:s.m.length<=68719470000):bQ ax 112 [s.e] s.e:=by
 have aP:=aaB s.b ab;have bd:=aqi s.d aF;obtain⟨n,b,d,k,m⟩:=s;simp only[bK.e]at aP bd ae hm⊢;refine bj fa af4 am8 fun aR=>?_;unfold SO;simp;(with_reducible repeat' first|refine aj ?_|refine aA aP ?_|refine aB aP ?_|refine aA bd ?_|refine aB bd ?_|simp);all_goals first|(refine⟨by unfold lim;omega,?_⟩)|skip
 exact cp
theorem adh{s t:bK}(h:gu s){x y:T}(ad:x.fit=true)(aC:y.fit=true)(bx:ec s.n x=true)(hO:ec s.n y=true)(he:mz s x y=some t):mN t:=by unfold mz at he;obtain⟨b,J,U⟩:=iX.1 he;exact(zq (h.bind ad aC bx hO J) U).1
def Br(s:List ai):Option (List ai)->List ai
 |none=>[]
 |some b=>dN s b
open Classical in
noncomputable def wz(s:List ai):Option (List ai)->Int
 |none=>1
 |some b=>if dN s b=[]then 2 else 0
noncomputable def nf(s:bK)(x y:T):Option bK:=match mgu s.b [(x,y)]with
 |none=>e6 s
 |some b=>if dN s.b b=[]then none else e6 {s with d:=s.d++[dN s.b b]}
theorem Nx{s b:List ai}(ag:ek s){E:List (T×T)}(hm:mgu s E=some b):dN s b=[]↔s=b:=by
 constructor
 ·intro h;have J:=Eh ag.sol ag.fits hm;rw[h,show ga []=[]from rfl,Ei ag.sol ag.fits]at J;exact eH J
 ·rintro rfl;unfold dN;rw[List.filter_eq_nil_iff];intro c ar;rw[sb ag.sol.asc ar];simp
theorem gu.dif{s:bK}(h:gu s){x y:T}(ad:x.fit=true)(aC:y.fit=true)(bx:ec s.n x=true)(hO:ec s.n y=true){b:List ai}(hm:mgu s.b [(x,y)]=some b):gu {s with d:=s.d++[dN s.b b]}:=by
 have ab:=h.bind ad aC bx hO hm;refine⟨h.n,h.b,fun z ba=>?_,h.k,h.m,h.bb,fun z ba=>?_,h.kb,h.mb⟩
 ·rcases iz.1 ba with ba|ba
  ·exact h.d z ba
  ·rw[jT.1 ba];exact Ek ab.b
 ·rcases iz.1 ba with ba|ba
  ·exact h.db z ba
  ·rw[jT.1 ba];exact fun c ar=>ab.bb c (iL.1 ar).1
theorem ac0{s t:bK}(h:gu s){x y:T}(ad:x.fit=true)(aC:y.fit=true)(bx:ec s.n x=true)(hO:ec s.n y=true)(he:nf s x y=some t):mN t:=by
 unfold nf at he;cases hm:mgu s.b [(x,y)]with
 |none=>rw[hm]at he;exact(zq h he).1
 |some b=>
  rw[hm]at he;simp only at he;split at he
  ·cases he
  ·exact(zq (h.dif ad aC bx hO hm) he).1
theorem aoN{s t:bK}(he:e6 s=some t):t.d.length<=30:=by
 unfold e6 at he;split at he
 ·cases he
 split at he
 ·cases he
 split at he
 ·cases he
 split at he
 ·rename_i h;have:=eH he;rw[<-this];exact h
 ·cases he
open Classical in
noncomputable def nu(s:bK)(t:T)(k:Int):Option bK:=if(k=2\/k=3)/\(t.ap (aY s.b)).size<=5000 then(hN s.k (t.ap (aY s.b)) k).bind fun l=>e6 {s with k:=l}else none
open Classical in
noncomputable def nz(s:bK)(t:T)(g:List c0):Option bK:=if(t.ap (aY s.b)).size<=5000 then(im s.m (t.ap (aY s.b)) g).bind fun l=>e6 {s with m:=l}else none
def zx(m:List bs):Prop:= ∃G:List (List c0),G.length<=686999/\lU G m
theorem zx.w{m:List bs}(h:zx m):mQ m:=by obtain⟨G,J,U⟩:=h;exact⟨G,Ω,U⟩
theorem gu.apb{s:bK}(h:gu s){t:T}(u4:ec s.n t=true){w:Int}(hw:(t.ap (aY s.b)).occ w=true):w<s.n:=by obtain⟨v,J,U⟩:=Bu.1 hw;exact MR h.b h.bb (sc.1 u4 v J) U
theorem gu.apo{s:bK}(h:gu s){t:T}(aH:t.fit=true):(t.ap (aY s.b)).ok=true:=BY h.b.ok (T.fit_ok aH)
theorem gu.knd{s:bK}(h:gu s){t:T}(aH:t.fit=true)(u4:ec s.n t=true){k:Int}(ae:k=2\/k=3){l:List ca}(he:hN s.k (t.ap (aY s.b)) k=some l):gu {s with k:=l}:=⟨h.n,h.b,h.d,FN h.k (h.apo aH) ae he,h.m,h.bb,h.db,fun x ad=>(JT he x ad).elim (h.kb x) fun e=>h.apb u4 (by rw[e];simp[T.occ]),h.mb⟩
theorem gu.mrk{s:bK}(h:gu s){t:T}(aH:t.fit=true)(u4:ec s.n t=true){g:List c0}(aX:ix g=true){l:List bs}(he:im s.m (t.ap (aY s.b)) g=some l):gu {s with m:=l}:=⟨h.n,h.b,h.d,h.k,FO h.m (h.apo aH) aX he,h.bb,h.db,h.kb,fun x ad=>((yX he x).1 ad).elim (h.mb x) fun e=>h.apb u4 e.2⟩
theorem zx.mrk{m l:List bs}(h:zx m){t:T}{g:List c0}(he:im m t g=some l):mQ l:=by obtain⟨G,J,U⟩:=h;exact⟨g::G,by simp only[oj];omega,Cx (fun x ad=>o1 _ (U x ad)) Ψ he⟩
theorem akf{s u:bK}(h:gu s){t:T}(aH:t.fit=true)(u4:ec s.n t=true){k:Int}(he:nu s t k=some u):mN u:=by
 unfold nu at he;split at he
 ·rename_i g;obtain⟨l,J,U⟩:=iX.1 he;exact(zq (h.knd aH u4 g.1 J) U).1
 ·cases he
theorem akY{s u:bK}(h:gu s){t:T}(aH:t.fit=true)(u4:ec s.n t=true){g:List c0}(aX:ix g=true)(he:nz s t g=some u):mN u:=by
 unfold nz at he;split at he
 ·obtain⟨l,J,U⟩:=iX.1 he;exact(zq (h.mrk aH u4 aX J) U).1
 ·cases he
theorem D6{b:List ai}{k:List ca}{m:List bs}:∀{l L:List (List ai)},fu b k m l=some L->L.length<=l.length
 |[],L,h=>by simp only[fu,dE]at h;rw[<-h];simp
 |d::l,L,h=>by
  simp only[fu]at h;split at h
  ·have:=D6 h;simp only[oj];omega
  ·split at h
   ·have:=D6 h;simp only[oj];omega
   ·split at h
    ·cases h
    ·rw[gm]at h;obtain⟨Fy,J,rfl⟩:=h;have:=D6 J;simp only[oj];omega
def _root_.Go.Pv.T.gnd:T->Bool
 | .var _=>false
 | .pair a b=>a.gnd&&b.gnd
 |_=>true
def mX(b:Bool):cR:=⟨[(.obj 501,[.bool b])],[]⟩
theorem FD(b:Bool):dM (mX b):=by unfold mX;exact(dM.of ⟨by intro m;simp[Pv.look],by intro m;simp[Pv.look]⟩ (by simp[aN,aJ,inObs,Pv.look]) (by simp[aN,aJ,inObs,Pv.look]))
theorem JK(a b:Bool):Same (mX a) (mX b):=⟨fun k=>by simp only[mX,Pv.look];split<;>rfl,fun _=>rfl⟩
theorem agI(v:Int)(b:Bool):bI ax 233 [.int .i64 v,.ptr (.obj 501) 0] (mX b) fun r ah=>r= .tuple []/\ah=mX false:=by have ag:=FD b;unfold mX at ag⊢;refine bI.mk mixed pO aeL alO Ψ ag.obj fun aR cI=>?_;unfold Rs;simp;refine cP.at (mX false) (.inr rfl) (FD _) (JK b false) (by unfold mX;exact aL) (by unfold mX;exact aL) ?_;simp[cW,YB,aU,aW,aT];simp[mX]
theorem agn(t:T)(b:Bool):t.fold (fun _ _=>false) b=(b&&t.gnd):=by
 induction t generalizing b with
 |pair x y oJ qM=>simp[T.fold,T.gnd,oJ,qM,Bool.and_assoc]
 |_=>simp[T.fold,T.gnd]
theorem aav(t:T):bQ ax 171 [t.e] (.bool t.gnd):=by refine bj pO aeK alN fun aR=>?_;unfold Rr;simp;refine cO.ob (Lo mX FD JK 233 [.ptr (.obj 501) 0] (by intro a;simp[inObs,mX,Pv.look,aN,aJ]) Ψ (fun _ _=>false) agI t true) (FD true) (by unfold mX;exact aL) (by unfold mX;exact aL) (by simp[inObs,mX,Pv.look]) ?_;rintro r ah ⟨rfl,rfl⟩;refine⟨JK _ _,?_⟩;unfold mX;simp[cb,agn];simp[bk,YA,aU,aW,aT]
structure hY (n:Int) (v:List ai):Prop where
 ok:jQ v
 asc:hf v
 fits:fP v
 len:(v.length:Int)=n
 at':∀(i:Nat) b,v[i]? =some b->b.v=(i:Int)
 gnd:∀b∈v,b.t.gnd=true
theorem hY.get{n:Int}{v:List ai}(h:hY n v){w:Int}(bE:0<=w)(J:w<n):∃b:ai,v[w.toNat]? =some b/\df v w=some b.t/\aY v w=b.t:=by
 have av:=h.len;have hi:w.toNat<v.length:=Ω
 have e:=bY hi;have aG:=h.at' _ _ e;have bG:=sb h.asc (List.getElem_mem hi);rw[aG,Int.toNat_of_nonneg bE]at bG;exact⟨_,e,bG,by rw[aY,bG];rfl⟩
theorem O4{v:List ai}(h:fP v)(w:Int):(aY v w).size<=5000:=by
 unfold aY;cases e:df v w with
 |none=>simp[T.size]
 |some x=>exact h.2 _ (jI e)
theorem jQ.fit{v:List ai}(h:jQ v)(aQ:fP v):ye v:=fun b ab=>by simp[T.fit,(h b ab).2,aQ.2 b ab]
def qK(v:List ai)(b:ai):Bool:=decide ((b.t.ap (aY v)).size<=5000)&& !decide (aY v b.v=b.t.ap (aY v))
def kN(v:List ai)(d:List ai):Bool:=d.any (qK v)
open Classical in
theorem apJ{v:List ai}(ay:jQ v)(h3:fP v)(bm:hf v){d:List ai}(aF:ek d):bQ ax 172 [.slice 5 .no (d.map ai.e),.slice 5 .no (v.map ai.e)] (.bool (kN v d)):=by
 have c9:=oW aF;have ft:=PC (v.map ai.b);rw[gx (uN.2 ⟨v,rfl,ay,bm,h3⟩),qU]at ft;have iT:v.length<=1000000:=by have:=h3.1;omega
 have yp:=aF.len;have ky:=jQ.fit ay h3;generalize bA:kN v d=R;refine bj fa aeg alh fun aR=>?_;unfold QW;clear aR;simp;((with_reducible repeat' first|refine aj ?_|refine aA c9 ?_|refine aB c9 ?_|refine aA ft ?_|refine aB ft ?_|simp|((first|apply bL|apply bN|apply bM)<;>intro h<;>try simp at h))<;>(try exact cm));refine dT [1,19,20] (fun i (_:Unit)=>[(21,.int .i64 i)]) d.length (kD (fun b=> !qK v b) d) () bT (fun k b ae=>Ω) (fun _ af _=>?_) (fun i _ hi af _=>?_)
 ·have:R=false:=by rw[<-bA,kN,List.any_eq_false];intro b ab;have:=af.fin b ab;simpa using this
  subst this;clear af bA c9 ft;exact cp
 ·obtain⟨b,ab,cD⟩:=ej hi;have aP:=zD v (.var b.v) iT bm ky;have bd:=zD v b.t iT bm ky;have aq:((T.var b.v).ap (aY v)).size<=5000:=O4 h3 b.v;rw[if_pos aq,gx aq]at aP;have bS:=rY (aY v b.v) (b.t.ap (aY v));have cA:qK v b=(decide ((b.t.ap (aY v)).size<=5000)&& !decide (aY v b.v=b.t.ap (aY v))):=rfl;have gQ:qK v b=true->R=true:=fun h=>by rw[<-bA,kN,List.any_eq_true];exact⟨b,dP ab,h⟩
  have cB:=fun h:qK v b=false=>af.step ab (by rw[h];rfl);rw[show(T.var b.v).ap (aY v)=aY v b.v from rfl]at aP;clear af bA c9 ft ab aq;generalize qK v b=H at cA gQ cB;by_cases ba:(b.t.ap (aY v)).size<=5000
  ·rw[if_pos ba,gx ba]at bd;rw[gx ba,Bool.true_and]at cA;generalize b.t.ap (aY v)=y at bd bS cA;generalize aY v b.v=x at aP bS cA;generalize decide (x=y)=q at bS cA;cases q
   ·have:=gQ cA;subst this;simp[hi,cD];(with_reducible repeat' first|refine aj ?_|refine aA (jF _) ?_|refine aB (jF _) ?_|refine aA aP ?_|refine aB aP ?_|refine aA bd ?_|refine aB bd ?_|refine aA bS ?_|refine aB bS ?_|simp[cD,hi]);all_goals simp[bk,Yg,aU,aW,aT]
   ·have au:=cB cA;simp[hi,cD];(with_reducible repeat' first|refine aj ?_|refine aA (jF _) ?_|refine aB (jF _) ?_|refine aA aP ?_|refine aB aP ?_|refine aA bd ?_|refine aB bd ?_|refine aA bS ?_|refine aB bS ?_|simp[cD,hi]);all_goals exact bP.rng () hi au bT
  ·rw[if_neg ba,h6 ba]at bd;rw[h6 ba,Bool.false_and]at cA;have au:=cB cA;clear bS cA;generalize aY v b.v=x at aP;simp[hi,cD];(with_reducible repeat' first|refine aj ?_|refine aA (jF _) ?_|refine aB (jF _) ?_|refine aA aP ?_|refine aB aP ?_|refine aA bd ?_|refine aB bd ?_|simp[cD,hi]);all_goals exact bP.rng () hi au bT
def oN(v:List ai)(b:ai):Bool:=decide ((b.t.ap (aY v)).size<=5000)&&decide (b.t.ap (aY v)=aY v b.v)
structure kJ (s:bK) (v:List ai):Prop where
 b:s.b.all (oN v)=true
 d:s.d.all (kN v)=true
 k:s.k.all (fun k=>decide ((aY v k.v).kind=k.k))=true
 m:s.m.all (fun m=> !(aY v m.v).has m.s)=true
def w2(s:bK)(l:List dL):Prop:= ∃v:List ai,l=v.map ai.b/\hY s.n v/\kJ s v
def DW(v:List ai)(i:Nat)(_:Unit):Prop:= ∀k b,k<i->v[k]? =some b->b.v=(k:Int)/\b.t.gnd=true
theorem DW.step{v:List ai}{i:Nat}(h:DW v i ()){b:ai}(ab:v[i]? =some b)(bD:b.v=(i:Int)/\b.t.gnd=true):DW v (i+1) ():=fun k c ae ar=>by
 rcases Nat.lt_or_ge k i with J|J
 ·exact h k c J ar
 ·have:k=i:=Ω
  subst this;rw[ab]at ar;cases ar;exact bD
open Classical in
theorem ap6{s:bK}(ag:gu s)(l:List dL):bQ ax 84 [s.e,.slice 5 .no (l.map dL.e)] (.bool (decide (w2 s l))):=by
 have ft:=PC l;generalize bA:decide (w2 s l)=R;by_cases g1:uX l;rotate_left
 ·rw[h6 g1]at ft;have:R=false:=by rw[<-bA,gn];rintro⟨v,rfl,h,_⟩;exact g1 (uN.2 ⟨v,rfl,h.ok,h.asc,h.fits⟩)
  subst this;clear bA g1 ag;obtain⟨n,b,d,k,m⟩:=s;simp only[bK.e]at ft⊢;refine bj fa K6 NP fun aR=>?_;unfold F8;exact cp
 rw[gx g1]at ft;obtain⟨v,rfl,pC,qj,h3⟩:=uN.1 g1;clear g1;rw[qU]at ft⊢;by_cases g2:(v.length:Int)=s.n;rotate_left
 ·have:R=false:=by rw[<-bA,gn];rintro⟨w,e,h,_⟩;rw[p4 e]at g2;exact g2 h.len
  subst this;have ry:s.n≠(v.length:Int):=fun h=>g2 h.symm;clear bA ag pC qj h3;obtain⟨n,b,d,k,m⟩:=s;simp only[bK.e]at ft g2 ry⊢;refine bj fa K6 NP fun aR=>?_;unfold F8;simp;((with_reducible repeat' first|refine aj ?_|refine aA ft ?_|refine aB ft ?_|simp[g2,ry]|((first|apply bL|apply bN|apply bM)<;>intro h<;>try simp at h))<;>(try exact cm));all_goals simp[bk,Iz,aU,aW,aT]
 have cB:¬(hY s.n v/\kJ s v)->R=false:=fun h=>by rw[<-bA,gn];rintro⟨w,e,J,U⟩;rw[p4 e]at h;exact h ⟨J,U⟩
 have gQ:hY s.n v->kJ s v->R=true:=fun J U=>by rw[<-bA,en];exact⟨v,rfl,J,U⟩
 clear bA;have iT:v.length<=1000000:=by have:=h3.1;omega
 have ky:=jQ.fit pC h3;obtain⟨n,tf,q0,ti,sm⟩:=s;simp only at g2 cB gQ;subst g2;have lN:=ag.b;have fm:=lN.len;have cI:=ag.bb;have iG:=ag.d;have rE:=ag.k;have qJ:=ag.kb;have oG:=ag.mb;have wR:=ag.m;have gl:=oK rE;simp only at lN fm cI iG rE qJ oG wR gl;clear ag;simp only[bK.e];refine bj fa K6 NP fun aR=>?_;unfold F8;have yp:q0.length<=68719476736:=by simp[gI,fZ,gz,lim]at aR;omega
 have l6:sm.length<=68719476736:=by simp[gI,fZ,gz,lim]at aR;omega
 clear aR;simp;(with_reducible repeat' first|refine aj ?_|refine aA ft ?_|refine aB ft ?_|simp);refine dT [1,2,27,28] (fun i (_:Unit)=>[(29,.int .i64 i)]) v.length (DW v) () bT (fun k b ae=>Ω) (fun _ af _=>?_) (fun i _ hi af _=>?_);rotate_left
 ·obtain⟨b,ab,cD⟩:=ej hi;have aP:=aav b.t;by_cases g:b.v=(i:Int)/\b.t.gnd=true
  ·have au:=af.step ab g;obtain⟨g1,g2⟩:=g;rw[g2]at aP;clear af ab cB gQ;exact gX
  ·rw[cB fun h=>g ⟨h.1.at' _ _ ab,h.1.gnd _ (dP ab)⟩];clear af ab cB gQ;by_cases g1:b.v=(i:Int)
   ·have g2:b.t.gnd=false:=by
     cases e:b.t.gnd with
     |false=>rfl
     |true=>exact absurd ⟨g1,e⟩ g
    rw[g2]at aP;exact cp
   ·simp[hi,cD];((with_reducible repeat' first|refine aj ?_|simp[cD,hi,g1]|((first|apply bL|apply bN|apply bM)<;>intro h<;>try simp at h))<;>(try exact cm));all_goals simp[bk,Iz,aU,aW,aT]
 have ay:hY v.length v:=⟨pC,qj,h3,rfl,fun i b ab=>(af i b (eS.1 ab).1 ab).1,fun b ab=>by obtain⟨i,hi⟩:=List.mem_iff_getElem?.1 ab;exact(af i b (eS.1 hi).1 hi).2⟩
 have gQ:=gQ ay;have cB:¬kJ ⟨v.length,tf,q0,ti,sm⟩ v->R=false:=fun h=>cB fun cd=>h cd.2;clear af ft;simp;(with_reducible repeat' first|refine aj ?_|simp);refine dT [1,2,46,47] (fun i (_:Unit)=>[(48,.int .i64 i)]) tf.length (kD (oN v) tf) () bT (fun k b ae=>Ω) (fun _ af _=>?_) (fun i _ hi af _=>?_);rotate_left
 ·obtain⟨b,ab,cD⟩:=ej hi;have gK:=dP ab;have aP:=zD v b.t iT qj ky;obtain⟨c,ar,_,mc⟩:=ay.get (lN.ok b gK).1.1 (cI b gK).1;have bd:=rY (b.t.ap (aY v)) (aY v b.v);have w0:=(lN.ok b gK).1.1;have fx:=(cI b gK).1;have PW:∀h,(v[b.v.toNat]'h)=c:=fun h=>by rw[bY h]at ar;exact eH ar
  have cA:oN v b=(decide ((b.t.ap (aY v)).size<=5000)&&decide (b.t.ap (aY v)=aY v b.v)):=rfl;have e8:oN v b=false->R=false:=fun h=>cB fun cd=>by have:=fy.1 cd.b b gK;rw[h]at this;cases this
  have dR:=fun h:oN v b=true=>af.step ab h;clear af ab gK cB gQ ay pC qj h3 ky;generalize oN v b=H at cA e8 dR;by_cases ba:(b.t.ap (aY v)).size<=5000
  ·rw[if_pos ba,gx ba]at aP;rw[gx ba,Bool.true_and]at cA;rw[mc]at bd cA;generalize b.t.ap (aY v)=y at aP bd cA;generalize decide (y=c.t)=q at bd cA;cases q
   ·rw[e8 cA];exact cp
   ·have au:=dR cA;exact gX
  ·rw[if_neg ba,h6 ba]at aP;rw[h6 ba,Bool.false_and]at cA;rw[e8 cA];exact cp
 have iR:tf.all (oN v)=true:=fy.2 af.fin;clear af;simp;(with_reducible repeat' first|refine aj ?_|simp);refine dT [1,2,74,75] (fun i (_:Unit)=>[(76,.int .i64 i)]) q0.length (kD (kN v) q0) () bT (fun k b ae=>Ω) (fun _ af _=>?_) (fun i _ hi af _=>?_);rotate_left
 ·obtain⟨b,ab,cD⟩:=ej hi;have gK:=dP ab;have aP:bQ ax 172 [cH b,.slice 5 .no (v.map ai.e)] (.bool (kN v b)):=apJ pC h3 qj (iG b gK);have e8:kN v b=false->R=false:=fun h=>cB fun cd=>by have:=fy.1 cd.d b gK;rw[h]at this;cases this
  have dR:=fun h:kN v b=true=>af.step ab h;clear af ab gK cB gQ ay pC qj h3 ky;generalize kN v b=q at aP e8 dR;cases q
  ·rw[e8 rfl];exact cp
  ·have au:=dR rfl;exact gX
 have qG:q0.all (kN v)=true:=fy.2 af.fin;clear af;simp;(with_reducible repeat' first|refine aj ?_|simp);refine dT [1,2,86,87] (fun i (_:Unit)=>[(88,.int .i64 i)]) ti.length (kD (fun k=>decide ((aY v k.v).kind=k.k)) ti) () bT (fun k b ae=>Ω) (fun _ af _=>?_) (fun i _ hi af _=>?_);rotate_left
 ·obtain⟨b,ab,cD⟩:=ej hi;have gK:=dP ab;have w0:=(rE.at' b gK).1.1;have fx:=qJ b gK;obtain⟨c,ar,_,mc⟩:=ay.get w0 fx;have PW:∀h,(v[b.v.toNat]'h)=c:=fun h=>by rw[bY h]at ar;exact eH ar
  by_cases g:c.t.kind=b.k
  ·have au:=af.step ab (by rw[mc];exact gx g);clear af ab gK cB gQ ay pC qj h3 ky;exact gX
  ·rw[cB fun cd=>by have:=fy.1 cd.k b gK;rw[mc]at this;exact g (of_decide_eq_true this)]
   clear af ab gK cB gQ ay pC qj h3 ky;simp[hi,cD];((with_reducible repeat' first|refine aj ?_|simp[cD,hi,w0,fx,PW,g]|((first|apply bL|apply bN|apply bM)<;>intro h<;>try simp at h))<;>(try exact cm));all_goals simp[bk,Iz,aU,aW,aT]
 have c4:ti.all (fun k=>decide ((aY v k.v).kind=k.k))=true:=fy.2 af.fin;clear af;simp;(with_reducible repeat' first|refine aj ?_|simp);refine dT [1,104,105] (fun i (_:Unit)=>[(106,.int .i64 i)]) sm.length (kD (fun m=> !(aY v m.v).has m.s) sm) () bT (fun k b ae=>Ω) (fun _ af _=>?_) (fun i _ hi af _=>?_);rotate_left
 ·obtain⟨b,ab,cD⟩:=ej hi;have gK:=dP ab;have w0:=(wR.at' b gK).1.1;have fx:=oG b gK;obtain⟨c,ar,_,mc⟩:=ay.get w0 fx;have PW:∀h,(v[b.v.toNat]'h)=c:=fun h=>by rw[bY h]at ar;exact eH ar
  have aP:=aau b.s c.t;cases g:c.t.has b.s
  ·rw[g]at aP;have au:=af.step ab (by rw[mc,g];rfl);clear af ab gK cB gQ ay pC qj h3 ky;exact gX
  ·rw[g]at aP;rw[cB fun cd=>by have:=fy.1 cd.m b gK;rw[mc,g]at this;cases this]
   clear af ab gK cB gQ ay pC qj h3 ky;exact cp
 rw[gQ ⟨iR,qG,c4,fy.2 af.fin⟩];clear af;exact cp
theorem al6{t:T}(aH:t.ok=true){v:Int}(ay:t.occ v=true):0<=v:=by
 induction t with
 |var n=>simp only[T.ok,T.occ,en,dQ]at aH ay;omega
 |pair a b dJ dK=>simp only[T.ok,T.occ,cr,k6]at aH ay;exact ay.elim (dJ aH.1) (dK aH.2)
 |_=>simp[T.occ]at ay
theorem H6{s:List ai}(ag:eT s)(aQ:fP s)(E mW:List (T×T)):mgu s (E++mW)=(mgu s E).bind fun s1=>mgu s1 mW:=by
 have J:=xg ag aQ E;cases h:mgu s E with
 |none=>rw[h]at J;exact qn (FL mW J)
 |some s1=>rw[h]at J;exact qn (JR J (xg J.1.1 J.1.2 mW))
def eF:T->Nat
 | .pair a b=>eF a+eF b
 |_=>1
theorem WZ:∀t:T,1<=eF t
 | .pair a b=>by have:=WZ a;simp only[eF];omega
 | .var _=>eu _
 | .nil=>eu _
 | .sym _=>eu _
 | .num _=>eu _
theorem Bj:∀t:T,t.size+1=2*eF t
 | .pair a b=>by have:=Bj a;have:=Bj b;simp only[eF,T.size];omega
 | .var _=>rfl
 | .nil=>rfl
 | .sym _=>rfl
 | .num _=>rfl
theorem Bi{θ:Int->T}{m:Nat}(hm:1<=m):∀{t:T},(∀u,t.occ u=true->eF (θ u)<=m)->eF (t.ap θ)<=eF t*m
 | .var n,h=>by simpa[T.ap,eF]using h n (by simp[T.occ])
 | .pair a b,h=>by have J:=Bi hm (t:=a) fun u hu=>h u (by simp[T.occ,hu]);have U:=Bi hm (t:=b) fun u hu=>h u (by simp[T.occ,hu]);simp only[T.ap,eF,o3];omega
 | .nil,_=>by simpa[T.ap,eF]using hm
 | .sym _,_=>by simpa[T.ap,eF]using hm
 | .num _,_=>by simpa[T.ap,eF]using hm
theorem alc{θ:Int->T}{t:T}{u:Int}(h:t.occ u=true):eF (θ u)<=eF (t.ap θ)/\(t.kind≠1->eF (θ u)<eF (t.ap θ)):=by have:=y3 θ h;have J:=Bj (θ u);have U:=Bj (t.ap θ);exact⟨Ω,fun ao=>by have:=this.2 ao;omega⟩
def lR:T->List T
 | .pair a b=>.pair a b::(lR a++lR b)
 |t=>[t]
theorem Ip(t:T):t∈lR t:=by cases t<;>simp[lR]
theorem Im{x:T}:∀{t:T},x∈lR t->eF x<=eF t
 | .pair a b,h=>by
  simp only[lR,e7,iz]at h;rcases h with rfl|h|h
  ·exact eu _
  ·have:=Im h;simp only[eF];omega
  ·have:=Im h;simp only[eF];omega
 | .var _,h=>by simp only[lR,jT]at h;rw[h];exact eu _
 | .nil,h=>by simp only[lR,jT]at h;rw[h];exact eu _
 | .sym _,h=>by simp only[lR,jT]at h;rw[h];exact eu _
 | .num _,h=>by simp only[lR,jT]at h;rw[h];exact eu _
theorem Io{x:T}{v:Int}(ad:x.occ v=true):∀{t:T},x∈lR t->t.occ v=true
 | .pair a b,h=>by
  simp only[lR,e7,iz]at h;rcases h with rfl|h|h
  ·exact ad
  ·simp[T.occ,Io ad h]
  ·simp[T.occ,Io ad h]
 | .var _,h=>by simp only[lR,jT]at h;rw[<-h];exact ad
 | .nil,h=>by simp only[lR,jT]at h;rw[<-h];exact ad
 | .sym _,h=>by simp only[lR,jT]at h;rw[<-h];exact ad
 | .num _,h=>by simp only[lR,jT]at h;rw[<-h];exact ad
def rQ(x:T)(z:Int):T->T
 | .pair a b=>if T.pair a b=x then .var z else .pair (rQ x z a) (rQ x z b)
 |t=>if t=x then .var z else t
theorem aoz(x:T)(z:Int):rQ x z x= .var z:=by cases x<;>simp[rQ]
theorem Jb{θ:Int->T}{x:T}{z:Int}:∀{t:T},(∀y∈lR t,y.kind≠1->y.ap θ≠x)->rQ x z (t.ap θ)=t.ap fun u=>rQ x z (θ u)
 | .var n,_=>rfl
 | .pair a b,h=>by have bE:=h (.pair a b) (Ip _) (by simp[T.kind]);simp only[T.ap]at bE⊢;simp only[rQ,if_neg bE];rw[Jb (t:=a) fun y aC=>h y (by simp[lR,aC]),Jb (t:=b) fun y aC=>h y (by simp[lR,aC])]
 | .nil,h=>by have bE:=h .nil (Ip _) (by simp[T.kind]);simp only[T.ap]at bE⊢;simp[rQ,bE]
 | .sym s,h=>by have bE:=h (.sym s) (Ip _) (by simp[T.kind]);simp only[T.ap]at bE⊢;simp[rQ,bE]
 | .num s,h=>by have bE:=h (.num s) (Ip _) (by simp[T.kind]);simp only[T.ap]at bE⊢;simp[rQ,bE]
theorem J1{θ:Int->T}{t:T}(h:t.kind≠1):(t.ap θ).kind=t.kind:=by cases t<;>simp_all[T.ap,T.kind]
theorem akM{b:List ai}{E:List (T×T)}(ab:eT b)(h:∀θ,dY b θ↔il E θ){v:Int}(ay:(aY b v).kind≠1):∃e∈E,∃y,(y∈lR e.1\/y∈lR e.2)/\y.kind≠1/\y.ap (aY b)=aY b v:=by
 refine Classical.byContradiction fun cB=>?_;have J:il E fun u=>rQ (aY b v) 0 (aY b u):=fun e he=>by have pb:=(h (aY b)).1 (wa ab) e he;have a1:=Jb (θ:=aY b) (x:=aY b v) (z:=0) (t:=e.1) fun y aC ae gP=>cB ⟨e,he,y,.inl aC,ae,gP⟩;have bp:=Jb (θ:=aY b) (x:=aY b v) (z:=0) (t:=e.2) fun y aC ae gP=>cB ⟨e,he,y,.inr aC,ae,gP⟩;rw[<-a1,<-bp,pb]
 have U:=(Pc ab.asc).1 ((h _).2 J) v;simp only[aoz]at U;have ao:=J1 (θ:=fun u=>rQ (aY b v) 0 (aY b u)) ay;rw[<-U]at ao;exact ay (by rw[<-ao];rfl)
theorem Li{V:List Int}(gN:V.Nodup){p q:Int->Bool}(jN:∀w,p w=true->q w=true){u:Int}(hu:u∈V)(bt:q u=true)(bD:p u=false):(V.filter p).length+1<=(V.filter q).length:=by
 have J:(u::V.filter p).Nodup:=List.nodup_cons.2 ⟨fun h=>(by rw[(iL.1 h).2]at bD;cases bD),gN.filter p⟩;refine Fx J fun w hw=>?_;rcases e7.1 hw with rfl|hw
 ·exact iL.2 ⟨hu,bt⟩
 ·exact iL.2 ⟨(iL.1 hw).1,jN w (iL.1 hw).2⟩
def CC(b:List ai)(V:List Int):List Int:=V.filter fun w=>(aY b w).kind !=1
theorem akK{b:List ai}{E:List (T×T)}{V:List Int}{L:Nat}(ab:eT b)(h:∀θ,dY b θ↔il E θ)(gN:V.Nodup)(c8:∀e∈E,∀v,(e.1.occ v=true\/e.2.occ v=true)->v∈V)(gU:∀e∈E,eF e.1<=L/\eF e.2<=L)(J:1<=L){v:Int}(ay:v∈V):eF (aY b v)<=L ^ (CC b V).length:=by
 have sM:∀v,(aY b v).kind=1->eF (aY b v)=1:=fun v ae=>by cases e:aY b v<;>simp_all[T.kind,eF]
 have key:∀n v,eF (aY b v)=n->(aY b v).kind≠1->eF (aY b v)<=L ^ ((V.filter fun w=>(aY b w).kind !=1&&decide (eF (aY b w)<eF (aY b v))).length+1):=fun n=>by
  induction n using qA with
  |ind n bR=>
   intro v au ae;obtain⟨e,he,y,aC,ajj,VN⟩:=akM ab h ae;have sO:eF y<=L:=aC.elim (fun h=>gS (Im h) (gU e he).1) fun h=>gS (Im h) (gU e he).2;have hm:1<=L ^ (V.filter fun w=>(aY b w).kind !=1&&decide (eF (aY b w)<eF (aY b v))).length:=Nat.pow_pos J;have U:=Bi (θ:=aY b) hm (t:=y) fun u hu=>by
    have ao:=(alc (θ:=aY b) hu).2 ajj;rw[VN]at ao;by_cases Dr:(aY b u).kind=1
    ·rw[sM u Dr];exact hm
    have a6:=bR _ Ω u rfl Dr;refine gS a6 (Nat.pow_le_pow_right J ?_);refine Li gN (fun w hw=>?_) (u:=u) (c8 e he u (aC.imp (Io hu) (Io hu))) (by simp[Dr,ao]) Ψ;simp only[cr,en]at hw⊢;exact⟨hw.1,Ω⟩
   rw[VN]at U;rw[Nat.pow_succ,Nat.mul_comm];exact gS U (pV _ sO)
 by_cases ae:(aY b v).kind=1
 ·rw[sM v ae];exact Nat.pow_pos J
 refine gS (key _ v rfl ae) (Nat.pow_le_pow_right J ?_);refine Li gN (fun w hw=>?_) ay (by simp[ae]) Ψ;simp only[cr]at hw;exact hw.1
def lG(θ:Int->T)(l:List ca):Prop:= ∀k∈l,(θ k.v).kind=k.k
def lY(θ:Int->T)(l:List bs):Prop:= ∀m∈l,(θ m.v).has m.s=false
def ot(θ:Int->T)(l:List (List ai)):Prop:= ∀d∈l,¬dY d θ
structure js (s:bK) (θ:Int->T):Prop where
 b:dY s.b θ
 k:lG θ s.k
 m:lY θ s.m
 d:ot θ s.d
theorem Qi{θ:Int->T}{acc a:List ca}{t:T}{k:Int}(he:hN acc t k=some a):lG θ a↔lG θ acc/\(t.ap θ).kind=k:=by
 unfold hN at he;split at he
 ·rename_i n;split at he
  ·rename_i bH ae;split at he
   ·rename_i e;cases he;subst e;exact⟨fun h=>⟨h,h _ (D4 ae)⟩,fun h=>h.1⟩
   ·cases he
  ·cases he;constructor
   ·exact fun h=>⟨fun x ad=>h x (yY.2 (.inr ad)),h ⟨n,k⟩ (yY.2 (.inl rfl))⟩
   ·rintro⟨J,U⟩ x ad;rcases yY.1 ad with rfl|ad
    ·exact U
    ·exact J x ad
 ·rename_i aH;split at he
  ·rename_i e;cases he;refine⟨fun h=>⟨h,?_⟩,fun h=>h.1⟩;rw[J1 fun J=>?_,e];cases t<;>simp_all[T.kind]
  ·cases he
theorem Qh{θ:Int->T}{acc:List ca}{t:T}{k:Int}(he:hN acc t k=none):¬(lG θ acc/\(t.ap θ).kind=k):=by
 rintro⟨J,U⟩;unfold hN at he;split at he
 ·split at he
  ·rename_i bH ae;split at he
   ·cases he
   ·rename_i e;exact e ((J _ (D4 ae)).symm.trans U)
  ·cases he
 ·rename_i aH;split at he
  ·cases he
  ·rename_i e;rw[J1 fun J=>by cases t<;>simp_all[T.kind]]at U;exact e U
theorem E1{b:List ai}{θ:Int->T}(bm:hf b)(h:dY b θ)(v:Int):(aY b v).ap θ=θ v:=((Pc bm).1 h v).symm
theorem IP{b:List ai}{θ:Int->T}(bm:hf b)(h:dY b θ):∀{l acc:List ca},match fJ b l acc with|some a=>lG θ a↔lG θ acc/\lG θ l|none=> ¬(lG θ acc/\lG θ l)
 |[],acc=>by simp[fJ,lG]
 |x::l,acc=>by
  simp only[fJ];have ad:lG θ (x::l)↔(θ x.v).kind=x.k/\lG θ l:=by simp[lG]
  rw[<-E1 bm h x.v]at ad;cases e:hN acc (aY b x.v) x.k with
  |none=>simp only;rw[ad];exact fun h=>Qh e ⟨h.1,h.2.1⟩
  |some a=>
   have J:=Qi (θ:=θ) e;have U:=IP bm h (l:=l) (acc:=a);simp only;rw[ad];split
   ·rename_i q eq;rw[eq]at U;simp only at U;rw[U,J,and_assoc]
   ·rename_i eq;rw[eq]at U;simp only at U;rw[J,and_assoc]at U;exact U
theorem GW{θ:Int->T}{s:List c0}:∀{t:T},(t.ap θ).has s=false↔t.has s=false/\∀u,t.occ u=true->(θ u).has s=false
 | .var n=>by simp[T.ap,T.has,T.occ]
 | .pair a b=>by simp only[T.ap,T.has,T.occ,Bool.or_eq_false_iff,k6,GW (t:=a),GW (t:=b)];exact⟨fun h=>⟨⟨h.1.1,h.2.1⟩,fun u hu=>hu.elim (h.1.2 u) (h.2.2 u)⟩,fun h=>⟨⟨h.1.1,fun u hu=>h.2 u (.inl hu)⟩,⟨h.1.2,fun u hu=>h.2 u (.inr hu)⟩⟩⟩
 | .nil=>by simp[T.ap,T.has,T.occ]
 | .sym _=>by simp[T.ap,T.occ]
 | .num _=>by simp[T.ap,T.has,T.occ]
theorem Qk{θ:Int->T}{acc a:List bs}{t:T}{s:List c0}(he:im acc t s=some a):lY θ a↔lY θ acc/\(t.ap θ).has s=false:=by
 have hm:=yX he;have aH:t.has s=false:=by
  unfold im at he;split at he
  ·cases he
  ·rename_i h;simpa using h
 rw[GW];constructor
 ·intro h;exact⟨fun x ad=>h x ((hm x).2 (.inl ad)),aH,fun u hu=>h ⟨u,s⟩ ((hm _).2 (.inr ⟨rfl,hu⟩))⟩
 ·rintro⟨J,_,U⟩ x ad;rcases(hm x).1 ad with ao|⟨ao,a6⟩
  ·exact J x ao
  ·rw[ao];exact U _ a6
theorem Qj{θ:Int->T}{acc:List bs}{t:T}{s:List c0}(he:im acc t s=none):¬(t.ap θ).has s=false:=by
 rw[GW];unfold im at he;split at he
 ·rename_i h;rw[h];simp
 ·cases he
theorem IS{b:List ai}{θ:Int->T}(bm:hf b)(h:dY b θ):∀{l acc:List bs},match fL b l acc with|some a=>lY θ a↔lY θ acc/\lY θ l|none=> ¬(lY θ acc/\lY θ l)
 |[],acc=>by simp[fL,lY]
 |x::l,acc=>by
  simp only[fL];have ad:lY θ (x::l)↔(θ x.v).has x.s=false/\lY θ l:=by simp[lY]
  rw[<-E1 bm h x.v]at ad;cases e:im acc (aY b x.v) x.s with
  |none=>simp only;rw[ad];exact fun h=>Qj e h.2.1
  |some a=>
   have J:=Qk (θ:=θ) e;have U:=IS bm h (l:=l) (acc:=a);simp only;rw[ad];split
   ·rename_i q eq;rw[eq]at U;simp only at U;rw[U,J,and_assoc]
   ·rename_i eq;rw[eq]at U;simp only at U;rw[J,and_assoc]at U;exact U
theorem M4{b:List ai}{θ:Int->T}(ab:ek b)(h:dY b θ){k:List ca}{m:List bs}(ae:lG θ k)(hm:lY θ m):∀{l:List (List ai)},(∀d∈l,ek d)->(∀d∈l,mgu b (ga d)=none->¬dY d θ)->match fu b k m l with|some L=>ot θ L↔ot θ l|none=> ¬ot θ l
 |[],_,_=>by simp[fu,ot]
 |d::l,ag,jY=>by
  have bR:=M4 ab h ae hm (l:=l) (fun e he=>ag e (by simp[he])) fun e he=>jY e (by simp[he]);have ad:ot θ (d::l)↔ ¬dY d θ/\ot θ l:=by simp[ot]
  have ahO:∀e∈ga d,e.1.ok=true/\e.2.ok=true:=fun e he=>by obtain⟨c,ar,rfl⟩:=hG.1 he;have:=(ag d Ψ).ok c ar;exact⟨by simpa[T.ok]using this.1,this.2⟩
  have skip:¬dY d θ->(match fu b k m l with|some L=>ot θ L↔ot θ (d::l)|none=> ¬ot θ (d::l)):=fun aF=>by
   rw[ad];split
   ·rename_i L e;rw[e]at bR;simp only at bR;rw[bR];exact⟨fun h=>⟨aF,h⟩,fun h=>h.2⟩
   ·rename_i e;rw[e]at bR;simp only at bR;exact fun h=>bR h.2
  simp only[fu];cases hu:mgu b (ga d)with
  |none=>exact skip (jY d Ψ hu)
  |some x=>
   have hc:=ab.mgu ahO hu;have iw:dY d θ->dY x θ:=fun aF=>(rN ab.sol ab.fits hu θ).2 ⟨h,B1.2 aF⟩;simp only;by_cases iS:fJ x k []=none\/fL x m []=none
   ·rw[if_pos iS];refine skip fun aF=>?_;rcases iS with e|e
    ·have:=IP hc.sol.asc (iw aF) (l:=k) (acc:=[]);rw[e]at this;exact this ⟨by simp[lG],ae⟩
    ·have:=IS hc.sol.asc (iw aF) (l:=m) (acc:=[]);rw[e]at this;exact this ⟨by simp[lY],hm⟩
   rw[if_neg iS];by_cases au:dN b x=[]
   ·rw[if_pos au];simp only;rw[ad];rintro⟨J,_⟩;have:b=x:=(Nx ab hu).1 au;subst this;exact J (B1.1 ((rN ab.sol ab.fits hu θ).1 h).2)
   ·rw[if_neg au];have heq:dY (dN b x) θ↔dY d θ:=by have a1:=rN ab.sol ab.fits hu θ;have bp:=rN ab.sol ab.fits (Eh ab.sol ab.fits hu) θ;rw[B1]at a1 bp;exact⟨fun cd=>(a1.1 (bp.2 ⟨h,cd⟩)).2,fun cd=>(bp.1 (a1.2 ⟨h,cd⟩)).2⟩
    cases e:fu b k m l with
    |none=>rw[e]at bR;simp only[Option.map_none]at bR⊢;rw[ad];exact fun h=>bR h.2
    |some L=>
     rw[e]at bR;simp only[oq]at bR⊢;have lO:ot θ (dN b x::L)↔ ¬dY (dN b x) θ/\ot θ L:=by simp[ot]
     rw[ad,lO,heq,bR]
theorem y1{d e:List ai}(he:eT e):km d e=true↔∀θ,dY e θ->dY d θ:=by
 constructor
 ·intro h θ gb c ar;have J:=of_decide_eq_true (fy.1 h c ar);rw[<-E1 he.asc gb c.v,J,x3];exact p1 fun u _=>E1 he.asc gb u
 ·intro h;rw[km,fy];intro c ar;rw[rM,en];exact h (aY e) (wa he) c ar
theorem agj{α:Type}{V:List α}(gN:V.Nodup){p q:α->Bool}(jN:∀w,p w=true->q w=true){u:α}(hu:u∈V)(bt:q u=true)(bD:p u=false):(V.filter p).length+1<=(V.filter q).length:=by
 have J:(u::V.filter p).Nodup:=List.nodup_cons.2 ⟨fun h=>(by rw[(iL.1 h).2]at bD;cases bD),gN.filter p⟩;refine Fx J fun w hw=>?_;rcases e7.1 hw with rfl|hw
 ·exact iL.2 ⟨hu,bt⟩
 ·exact iL.2 ⟨(iL.1 hw).1,jN w (iL.1 hw).2⟩
theorem akP{L:List (List ai)}(ag:∀d∈L,eT d):∀(n:Nat) (e:List ai),e∈L->((asc ez L).filter fun d=>km d e&& !decide (d=e)).length=n->∃d∈j4 L,km d e=true:=fun n=>by
 induction n using qA with
 |ind n bR=>
  intro e he au;by_cases ae:iI L e=true
  ·exact⟨e,sZ.2 ⟨he,ae⟩,(y1 (ag e he)).2 fun _ h=>h⟩
  obtain⟨d,aF,J⟩:∃d∈L,(decide (d=e)|| !km d e)=false:=by simpa[iI]using ae
  rw[Bool.or_eq_false_iff]at J;have cK:d≠e:=of_decide_eq_false J.1;have aX:km d e=true:=by simpa using J.2
  have LK:=(y1 (ag e he)).1 aX;have bz:=agj (V:=asc ez L) ((FQ ly L).nodup ly) (p:=fun z=>km z d&& !decide (z=d)) (q:=fun z=>km z e&& !decide (z=e)) (u:=d) (fun z ba=>by simp only[cr,pQ,gn]at ba⊢;have Hx:=(y1 (ag d aF)).1 ba.1;refine⟨(y1 (ag e he)).2 fun θ h=>Hx θ (LK θ h),fun ajk=>cK ?_⟩;subst ajk;exact ZL (ag d aF) (ag z he) fun θ=>⟨Hx θ,LK θ⟩) ((Nj _ _).2 aF) (by simp[aX,cK]) Ψ
  obtain⟨z,ba,Hx⟩:=bR _ Ω d aF rfl;have asW:=(sZ.1 ba).1;exact⟨z,ba,(y1 (ag e he)).2 fun θ h=>(y1 (ag d aF)).1 Hx θ (LK θ h)⟩
theorem Xk{L:List (List ai)}(ag:∀d∈L,eT d)(θ:Int->T):ot θ (j4 L)↔ot θ L:=by
 constructor
 ·intro h e he kB;obtain⟨d,aF,aX⟩:=akP ag _ e he rfl;exact h d aF ((y1 (ag e he)).1 aX θ kB)
 ·exact fun h d aF=>h d (sZ.1 aF).1
theorem Nd{θ:Int->T}{k:List ca}{m:List bs}(ae:lG θ k):lY θ (m.filter (jO k))↔lY θ m:=by
 constructor
 ·intro h x ad;by_cases aQ:jO k x=true
  ·exact h x (iL.2 ⟨ad,aQ⟩)
  ·have ao:lx k x.v=some 3:=by simpa[jO]using aQ
   have a6:=ae _ (D4 ao);simp only at a6;cases e:θ x.v<;>simp_all[T.kind,T.has]
 ·exact fun h x ad=>h x (iL.1 ad).1
theorem EZ{s t:bK}{θ:Int->T}(h:gu s)(jY:∀d∈s.d,dY s.b θ->mgu s.b (ga d)=none->¬dY d θ)(he:e6 s=some t):js t θ↔js s θ:=by
 unfold e6 at he;split at he
 ·cases he
 rename_i k ae;split at he
 ·cases he
 rename_i m hm;split at he
 ·cases he
 rename_i L gU;split at he;rotate_left
 ·cases he
 cases he;have sw:∀d∈L,eT d:=fun d aF=>(D7 h.b h.d gU d aF).sol;have a1:=fun ab=>IP (θ:=θ) h.b.sol.asc ab (l:=s.k) (acc:=[]);have bp:=fun ab=>IS (θ:=θ) h.b.sol.asc ab (l:=s.m) (acc:=[]);simp only[ae,hm]at a1 bp;have bV:=fun ab ae hm=>M4 (θ:=θ) h.b ab (k:=k) (m:=m.filter (jO k)) ae hm h.d fun d aF=>jY d aF ab;simp only[gU]at bV;constructor
 ·rintro⟨J,U,ao,a6⟩;simp only at J U ao a6;exact⟨J,((a1 J).1 U).2,((bp J).1 ((Nd U).1 ao)).2,(bV J U ao).1 ((Xk sw θ).1 a6)⟩
 ·rintro⟨J,U,ao,a6⟩;have aP:lG θ k:=(a1 J).2 ⟨by simp[lG],U⟩;have m1:lY θ m:=(bp J).2 ⟨by simp[lY],ao⟩;have m2:=(Nd aP).2 m1;exact⟨J,aP,m2,(Xk sw θ).2 ((bV J aP m2).2 a6)⟩
theorem EW{s:bK}{θ:Int->T}(h:gu s)(aF:s.d.length<=30)(jY:∀d∈s.d,dY s.b θ->mgu s.b (ga d)=none->¬dY d θ)(he:e6 s=none):¬js s θ:=by
 rintro⟨J,U,ao,a6⟩;have a1:=IP (θ:=θ) h.b.sol.asc J (l:=s.k) (acc:=[]);have bp:=IS (θ:=θ) h.b.sol.asc J (l:=s.m) (acc:=[]);unfold e6 at he;split at he
 ·rename_i e;rw[e]at a1;exact a1 ⟨by simp[lG],U⟩
 rename_i k ae;rw[ae]at a1;have aP:lG θ k:=a1.2 ⟨by simp[lG],U⟩;split at he
 ·rename_i e;rw[e]at bp;exact bp ⟨by simp[lY],ao⟩
 rename_i m hm;rw[hm]at bp;have m2:=(Nd aP).2 (bp.2 ⟨by simp[lY],ao⟩);have bV:=M4 (θ:=θ) h.b J aP m2 h.d fun d aF=>jY d aF J;split at he
 ·rename_i e;rw[e]at bV;exact bV a6
 rename_i L gU;split at he
 ·cases he
 ·rename_i lK;have:=D6 gU;have:=Xj L;omega
theorem GM:∀{t:T},t.gnd=true->∀w,t.occ w=false
 | .var _,h=>by simp[T.gnd]at h
 | .pair a b,h=>by simp only[T.gnd,cr]at h;intro w;simp[T.occ,GM h.1 w,GM h.2 w]
 | .nil,_=>fun _=>rfl
 | .sym _,_=>fun _=>rfl
 | .num _,_=>fun _=>rfl
theorem ahf{t:T}(h:t.gnd=true)(θ:Int->T):t.ap θ=t:=J0 fun v ay=>by rw[GM h v]at ay;cases ay
def sS(n:Int)(t:T):Prop:= ∀u,t.occ u=true->0<=u/\u<n
theorem hY.solved{n:Int}{v:List ai}(ay:hY n v):eT v:=⟨ay.asc,fun b ab w hw=>(by rw[GM (ay.gnd b ab) w]at hw;cases hw),fun b ab w hw=>(by have:=ay.gnd b ab;rw[hw]at this;cases this)⟩
theorem hY.sol{n:Int}{v:List ai}(ay:hY n v){θ:Int->T}(h:dY v θ){u:Int}(bE:0<=u)(J:u<n):θ u=aY v u:=by obtain⟨c,ar,aq,aG⟩:=ay.get bE J;have hm:=dP ar;have ao:=h c hm;have a6:=ay.at' _ _ ar;rw[Int.toNat_of_nonneg bE]at a6;rw[<-a6,ao,ahf (ay.gnd c hm),a6,aG]
theorem PQ{n:Int}{v:List ai}(ay:hY n v){b:List ai}{E:List (T×T)}(ab:eT b)(aQ:fP b)(mB:∀c∈b,(0<=c.v/\c.v<n)/\sS n c.t)(c8:∀e∈E,sS n e.1/\sS n e.2)(h:mgu b E=none)(ag:dY b (aY v)):¬il E (aY v):=fun kB=>by
 have J:=xg ab aQ E;rw[h]at J;refine J v ay.solved (fun θ gb=>⟨fun c ar=>?_,fun e he=>?_⟩) ay.fits
 ·obtain⟨⟨bC,a2⟩,a3⟩:=mB c ar;rw[ay.sol gb bC a2,ag c ar];exact p1 fun u hu=>(ay.sol gb (a3 u hu).1 (a3 u hu).2).symm
 ·rw[p1 (t:=e.1) fun u hu=>ay.sol gb ((c8 e he).1 u hu).1 ((c8 e he).1 u hu).2,p1 (t:=e.2) fun u hu=>ay.sol gb ((c8 e he).2 u hu).1 ((c8 e he).2 u hu).2];exact kB e he
theorem DQ{n:Int}{t:T}(h:t.ok=true)(ab:wj t n):sS n t:=fun u hu=>⟨al6 h hu,ab u hu⟩
theorem DP{n:Int}{l:List ai}(h:jQ l)(ab:ox l n):∀c∈l,(0<=c.v/\c.v<n)/\sS n c.t:=fun c ar=>⟨⟨(h c ar).1.1,(ab c ar).1⟩,DQ (h c ar).2 (ab c ar).2⟩
theorem ajr{n:Int}{l:List ai}(h:jQ l)(ab:ox l n):∀e∈ga l,sS n e.1/\sS n e.2:=fun e he=>by obtain⟨c,ar,rfl⟩:=hG.1 he;obtain⟨bC,a2⟩:=DP h ab c ar;exact⟨fun u hu=>by simp[T.occ]at hu;omega,a2⟩
theorem gu.none{s:bK}(h:gu s){v:List ai}(ay:hY s.n v):∀d∈s.d,dY s.b (aY v)->mgu s.b (ga d)=none->¬dY d (aY v):=fun d aF ag hm iG=>PQ ay h.b.sol h.b.fits (DP h.b.ok h.bb) (ajr (h.d d aF).ok (h.db d aF)) hm ag (B1.2 iG)
def O9(s:bK)(v:List ai):Prop:= ∀d∈s.d,∀c∈d,(c.t.ap (aY v)).size<=5000
theorem Tb{v d:List ai}(h:∀c∈d,(c.t.ap (aY v)).size<=5000):kN v d=true↔ ¬dY d (aY v):=by
 rw[kN,List.any_eq_true];constructor
 ·rintro⟨c,ar,J⟩ ag;simp only[qK,cr,pQ,gn]at J;exact J.2 (ag c ar)
 ·intro ag;refine Classical.byContradiction fun cB=>ag fun c ar=>Classical.byContradiction fun cK=>cB ⟨c,ar,?_⟩;simp only[qK,cr,pQ,gn,en];exact⟨h c ar,cK⟩
theorem ZM{s:bK}{v:List ai}(aQ:fP v)(ag:O9 s v):kJ s v↔js s (aY v):=by
 constructor
 ·rintro⟨J,U,ao,a6⟩;rw[fy]at J U ao a6;refine⟨fun c ar=>?_,fun k ae=>of_decide_eq_true (ao k ae),fun m hm=>by simpa using a6 m hm,fun d aF=>(Tb (ag d aF)).1 (U d aF)⟩;have:=J c ar;simp only[oN,cr,en]at this;exact this.2.symm
 ·rintro⟨J,U,ao,a6⟩;refine⟨fy.2 fun c ar=>?_,fy.2 fun d aF=>(Tb (ag d aF)).2 (a6 d aF),fy.2 fun k ae=>gx (U k ae),fy.2 fun m hm=>by simpa using ao m hm⟩;simp only[oN,cr,en];rw[<-J c ar];exact⟨O4 aQ c.v,rfl⟩
theorem adi{s:bK}(h:gu s){v:List ai}(ay:hY s.n v){x y:T}(ad:x.fit=true)(aC:y.fit=true)(bx:ec s.n x=true)(hO:ec s.n y=true):
  match mz s x y with|some t=>js t (aY v)↔js s (aY v)/\x.ap (aY v)=y.ap (aY v)|none=>s.d.length<=30->¬(js s (aY v)/\x.ap (aY v)=y.ap (aY v)):=by
 have c8:∀e∈[(x,y)],sS s.n e.1/\sS s.n e.2:=fun e he=>by rw[jT.1 he];exact⟨DQ (T.fit_ok ad) (sc.1 bx),DQ (T.fit_ok aC) (sc.1 hO)⟩
 unfold mz;cases hu:mgu s.b [(x,y)]with
 |none=>simp only[Option.bind_none];rintro _ ⟨J,U⟩;refine PQ ay h.b.sol h.b.fits (DP h.b.ok h.bb) c8 hu J.b ?_;intro e he;rw[jT.1 he];exact U
 |some b=>
  have ab:=h.bind ad aC bx hO hu;have iw:=rN h.b.sol h.b.fits hu (aY v);have U:js {s with b:=b} (aY v)↔js s (aY v)/\x.ap (aY v)=y.ap (aY v):=by
   constructor
   ·rintro⟨a1,bp,bV,cQ⟩;have:=iw.1 a1;exact⟨⟨this.1,bp,bV,cQ⟩,this.2 (x,y) Ψ⟩
   ·rintro⟨⟨a1,bp,bV,cQ⟩,cZ⟩;exact⟨iw.2 ⟨a1,fun e he=>by rw[jT.1 he];exact cZ⟩,bp,bV,cQ⟩
  simp only[ij];cases e:e6 {s with b:=b}with
  |none=>exact fun aF=>by rw[<-U];exact EW ab aF (ab.none ay) e
  |some t=>exact(EZ ab (ab.none ay) e).trans U
theorem ac1{s:bK}(h:gu s){v:List ai}(ay:hY s.n v){x y:T}(ad:x.fit=true)(aC:y.fit=true)(bx:ec s.n x=true)(hO:ec s.n y=true):
  match nf s x y with|some t=>js t (aY v)↔js s (aY v)/\x.ap (aY v)≠y.ap (aY v)|none=>s.d.length<=29->¬(js s (aY v)/\x.ap (aY v)≠y.ap (aY v)):=by
 have c8:∀e∈[(x,y)],sS s.n e.1/\sS s.n e.2:=fun e he=>by rw[jT.1 he];exact⟨DQ (T.fit_ok ad) (sc.1 bx),DQ (T.fit_ok aC) (sc.1 hO)⟩
 unfold nf;cases hu:mgu s.b [(x,y)]with
 |none=>
  have cK:js s (aY v)->x.ap (aY v)≠y.ap (aY v):=fun J U=>PQ ay h.b.sol h.b.fits (DP h.b.ok h.bb) c8 hu J.b fun e he=>by rw[jT.1 he];exact U
  simp only;cases e:e6 s with
  |none=>exact fun aF J=>EW h Ω (h.none ay) e J.1
  |some t=>exact(EZ h (h.none ay) e).trans ⟨fun J=>⟨J,cK J⟩,fun J=>J.1⟩
 |some b=>
  have iw:=rN h.b.sol h.b.fits hu (aY v);have gP:il [(x,y)] (aY v)↔x.ap (aY v)=y.ap (aY v):=by simp[il]
  simp only;by_cases au:dN s.b b=[]
  ·rw[if_pos au];rintro _ ⟨J,U⟩;have:s.b=b:=(Nx h.b hu).1 au;rw[<-this]at iw;exact U (gP.1 (iw.1 J.b).2)
  ·rw[if_neg au];have ab:=h.dif ad aC bx hO hu;have bp:=rN h.b.sol h.b.fits (Eh h.b.sol h.b.fits hu) (aY v);rw[B1]at bp;have hw:dY s.b (aY v)->(dY (dN s.b b) (aY v)↔x.ap (aY v)=y.ap (aY v)):=fun J=>⟨fun cd=>gP.1 (iw.1 (bp.2 ⟨J,cd⟩)).2,fun cd=>(bp.1 (iw.2 ⟨J,gP.2 cd⟩)).2⟩
   have U:js {s with d:=s.d++[dN s.b b]} (aY v)↔js s (aY v)/\x.ap (aY v)≠y.ap (aY v):=by
    constructor
    ·rintro⟨a1,bp,bV,cQ⟩;exact⟨⟨a1,bp,bV,fun d aF=>cQ d (List.mem_append_left _ aF)⟩,fun cd=>cQ (dN s.b b) Ψ ((hw a1).2 cd)⟩
    ·rintro⟨⟨a1,bp,bV,cQ⟩,cZ⟩;refine⟨a1,bp,bV,fun d aF=>?_⟩;rcases iz.1 aF with aF|aF
     ·exact cQ d aF
     ·rw[jT.1 aF];exact fun cd=>cZ ((hw a1).1 cd)
   cases e:e6 {s with d:=s.d++[dN s.b b]}with
   |none=>exact fun aF=>by rw[<-U];exact EW ab (by simp only[o0,List.length_singleton];omega) (ab.none ay) e
   |some t=>exact(EZ ab (ab.none ay) e).trans U
theorem zS{b:List ai}{θ:Int->T}(bm:hf b)(h:dY b θ)(x:T):(x.ap (aY b)).ap θ=x.ap θ:=by rw[x3];exact p1 fun u _=>E1 bm h u
theorem akg{s:bK}(h:gu s){v:List ai}(ay:hY s.n v){x:T}(ad:x.fit=true)(bx:ec s.n x=true){k:Int}(ae:k=2\/k=3)(ba:(x.ap (aY s.b)).size<=5000):
  match nu s x k with|some t=>js t (aY v)↔js s (aY v)/\(x.ap (aY v)).kind=k|none=>s.d.length<=30->¬(js s (aY v)/\(x.ap (aY v)).kind=k):=by
 unfold nu;rw[if_pos ⟨ae,ba⟩];cases hu:hN s.k (x.ap (aY s.b)) k with
 |none=>simp only[Option.bind_none];rintro _ ⟨J,U⟩;rw[<-zS h.b.sol.asc J.b]at U;exact Qh hu ⟨J.k,U⟩
 |some l=>
  have ab:=h.knd ad bx ae hu;have ao:=Qi (θ:=aY v) hu;have U:js {s with k:=l} (aY v)↔js s (aY v)/\(x.ap (aY v)).kind=k:=by
   constructor
   ·rintro⟨a1,bp,bV,cQ⟩;have:=ao.1 bp;rw[zS h.b.sol.asc a1]at this;exact⟨⟨a1,this.1,bV,cQ⟩,this.2⟩
   ·rintro⟨⟨a1,bp,bV,cQ⟩,cZ⟩;rw[<-zS h.b.sol.asc a1]at cZ;exact⟨a1,ao.2 ⟨bp,cZ⟩,bV,cQ⟩
  simp only[ij];cases e:e6 {s with k:=l}with
  |none=>exact fun aF=>by rw[<-U];exact EW ab aF (ab.none ay) e
  |some t=>exact(EZ ab (ab.none ay) e).trans U
theorem akZ{s:bK}(h:gu s){v:List ai}(ay:hY s.n v){x:T}(ad:x.fit=true)(bx:ec s.n x=true){g:List c0}(aX:ix g=true)(ba:(x.ap (aY s.b)).size<=5000):
  match nz s x g with|some t=>js t (aY v)↔js s (aY v)/\(x.ap (aY v)).has g=false|none=>s.d.length<=30->¬(js s (aY v)/\(x.ap (aY v)).has g=false):=by
 unfold nz;rw[if_pos ba];cases hu:im s.m (x.ap (aY s.b)) g with
 |none=>simp only[Option.bind_none];rintro _ ⟨J,U⟩;rw[<-zS h.b.sol.asc J.b]at U;exact Qj hu U
 |some l=>
  have ab:=h.mrk ad bx aX hu;have ao:=Qk (θ:=aY v) hu;have U:js {s with m:=l} (aY v)↔js s (aY v)/\(x.ap (aY v)).has g=false:=by
   constructor
   ·rintro⟨a1,bp,bV,cQ⟩;have:=ao.1 bV;rw[zS h.b.sol.asc a1]at this;exact⟨⟨a1,bp,this.1,cQ⟩,this.2⟩
   ·rintro⟨⟨a1,bp,bV,cQ⟩,cZ⟩;rw[<-zS h.b.sol.asc a1]at cZ;exact⟨a1,bp,ao.2 ⟨bV,cZ⟩,cQ⟩
  simp only[ij];cases e:e6 {s with m:=l}with
  |none=>exact fun aF=>by rw[<-U];exact EW ab aF (ab.none ay) e
  |some t=>exact(EZ ab (ab.none ay) e).trans U
end
end Go.Proofs.YtohaalphocaebaaGreat
