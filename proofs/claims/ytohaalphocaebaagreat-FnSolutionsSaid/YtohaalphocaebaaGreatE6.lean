/- From a contract of a law of bytes to its row. -/
import Derived.ProofKit
import Derived.Carry
import Derived.WalkKit
import Derived.Test.YtohaalphocaebaaGreatE5
set_option linter.all false
set_option maxHeartbeats 4000000
set_option maxRecDepth 4000
namespace Go
theorem d9{p:Prop}(h:p:=by unfold b8;exact aL):p:=h
theorem f8{p:Prop}(h:p:=by simp[inObs,b8,Pv.look]):p:=h
theorem f9{p:Prop}(h:p:=by simp[-bX,-bJ,inObs,b8,Pv.look]):p:=h
end Go
open Bool renaming and_eq_true->cr,false_eq_true->gZ,not_eq_true'->pQ,or_eq_true->k6
open Go renaming Program->cJ
open Go.IntKind renaming bits->oh,signed->r3
open Go.Proofs.Tryz renaming prog->ax
open Go.Result renaming andThen_ok->fT
open Go.Sem renaming run_bind->fO,run_pure->gF
open Go.Value renaming cells->pS
open Int renaming natCast_nonneg->r4
open Int.ofNat renaming inj->avl
open List renaming all_eq_true->fy,cons_append->bZ,drop_eq_getElem_cons->k8,getElem?_eq_getElem->bY,getElem?_eq_some_iff->eS,getElem?_map->q5,length_append->o0,length_cons->oj,length_map->r5,map_append->r6,map_cons->ht,map_nil->oo,mem_append->iz,mem_cons->e7,mem_cons_of_mem->o1,mem_filter->iL,mem_map->hG,mem_of_getElem?->dP,mem_singleton->jT,nil_append->b4,pairwise_cons->mU,pairwise_iff_getElem->o2,take_length->k9,take_of_length_le->gw,take_succ->q6
open List.Pairwise renaming nil->aq2
open Nat renaming add_mul->o3,le_refl->eu,le_trans->gS,mul_le_mul_right->pV,strongRecOn->qA
open Option renaming bind_eq_some_iff->iX,bind_some->ij,getD_none->kc,getD_some->jo,isSome_iff_exists->fE,isSome_none->jG,isSome_some->mV,map_eq_some_iff->gm
open Option.some renaming inj->eH,injEq->dE
open _root_ renaming False->eB,UInt8->c0,beq_iff_eq->dQ,congrArg->eP,decide_eq_false->h6,decide_eq_false_iff_not->gn,decide_eq_true->gx,decide_eq_true_eq->en
namespace Go.Proofs.YtohaalphocaebaaGreat
section
open Go Go.Pv
theorem tn:eT []:=⟨Ψ,Ψ,Ψ⟩
theorem sn:fP []:=by simp[fP]
def xk:T->Bool
 | .sym s=>s.head? !=some 119
 | .pair a b=>xk a&&xk b
 |_=>true
structure eqP (V:List Int) (L:Nat) (e:T×T):Prop where
 l:eF e.1<=L/\eF e.2<=L
 v:∀v,(e.1.occ v=true\/e.2.occ v=true)->v∈V
 w:xk e.1=true/\xk e.2=true
structure nB (V:List Int) (L:Nat) (E:List (T×T)) (s:bK):Prop where
 e:∀e∈E,eqP V L e
 b:mgu [] E=some s.b
 d:∀d∈s.d,∃e x,eqP V L e/\mgu [] (E++[e])=some x/\d=dN s.b x
theorem WN{b:List ai}{k:List ca}{m:List bs}:∀{l L:List (List ai)},fu b k m l=some L->∀w∈L,∃d∈l,∃z,mgu b (ga d)=some z/\w=dN b z
 |[],L,h=>by simp only[fu,dE]at h;rw[<-h];simp
 |d::l,L,h=>by
  have go:∀{L},fu b k m l=some L->∀w∈L,∃e∈d::l,∃z,mgu b (ga e)=some z/\w=dN b z:=fun h w hw=>by obtain⟨e,J,U⟩:=WN h w hw;exact⟨e,o1 _ J,U⟩
  simp only[fu]at h;split at h
  ·exact go h
  ·rename_i x ad;split at h
   ·exact go h
   ·split at h
    ·cases h
    ·rw[gm]at h;obtain⟨Fy,J,rfl⟩:=h;intro w hw;rcases e7.1 hw with rfl|hw
     ·exact⟨d,Ψ,x,ad,rfl⟩
     ·exact go J w hw
theorem aoM{s t:bK}(he:e6 s=some t):t.b=s.b/\∀w∈t.d,∃d∈s.d,∃z,mgu s.b (ga d)=some z/\w=dN s.b z:=by
 unfold e6 at he;split at he
 ·cases he
 split at he
 ·cases he
 split at he
 ·cases he
 rename_i L gU;split at he
 ·cases he;exact⟨rfl,fun w hw=>WN gU w (sZ.1 hw).1⟩
 ·cases he
theorem ED{V:List Int}{L:Nat}{E mW:List (T×T)}{s t:bK}{Cz:List ai}(ahq:∀e∈mW,eqP V L e)(sA:mgu [] E=some Cz)(ab:mgu [] mW=some s.b)(mH:∀θ,dY s.b θ->dY Cz θ)(aF:∀d∈s.d,∃e x,eqP V L e/\mgu [] (E++[e])=some x/\d=dN Cz x)(he:e6 s=some t):nB V L mW t:=by obtain⟨aq,aG⟩:=aoM he;obtain⟨s0,f0⟩:=sY tn sn sA;obtain⟨s1,f1⟩:=sY tn sn ab;refine⟨ahq,by rw[aq];exact ab,fun w hw=>?_⟩;obtain⟨d,fs,z,ba,rfl⟩:=aG w hw;obtain⟨e,x,wJ,ad,rfl⟩:=aF d fs;refine⟨e,z,wJ,?_,by rw[aq]⟩;rw[H6 tn sn,sA,ij]at ad;rw[H6 tn sn,ab,ij,<-ba];refine qn (zQ (fun θ=>and_congr_right fun J=>?_) (xg s1 f1 (ga (dN Cz x))));have a1:=rN s0 f0 ad θ;have bp:=rN s0 f0 (Eh s0 f0 ad) θ;have bE:=mH θ J;exact⟨fun h=>(a1.1 (bp.2 ⟨bE,h⟩)).2,fun h=>(bp.1 (a1.2 ⟨bE,h⟩)).2⟩
theorem ans(V:List Int)(L:Nat)(n:Int):nB V L [] ⟨n,[],[],[],[]⟩:=⟨Ψ,Ei tn sn,Ψ⟩
theorem ant{V:List Int}{L:Nat}{E:List (T×T)}{s t:bK}(h:nB V L E s){x y:T}(ad:eqP V L (x,y))(he:mz s x y=some t):nB V L (E++[(x,y)]) t:=by
 unfold mz at he;obtain⟨b,J,U⟩:=iX.1 he;obtain⟨s0,f0⟩:=sY tn sn h.b;refine ED (s:={s with b:=b}) (fun e he=>?_) h.b ?_ (fun θ gb=>((rN s0 f0 J θ).1 gb).1) h.d U
 ·rcases iz.1 he with he|he
  ·exact h.e e he
  ·rw[jT.1 he];exact ad
 ·rw[H6 tn sn,h.b,ij];exact J
theorem anr{V:List Int}{L:Nat}{E:List (T×T)}{s t:bK}(h:nB V L E s){x y:T}(ad:eqP V L (x,y))(he:nf s x y=some t):nB V L E t:=by
 unfold nf at he;cases hu:mgu s.b [(x,y)]with
 |none=>rw[hu]at he;exact ED h.e h.b h.b (fun _ h=>h) h.d he
 |some b=>
  rw[hu]at he;simp only at he;split at he
  ·cases he
  ·refine ED (s:={s with d:=s.d++[dN s.b b]}) h.e h.b h.b (fun _ h=>h) (fun d aF=>?_) he;rcases iz.1 aF with aF|aF
   ·exact h.d d aF
   ·exact⟨(x,y),b,ad,by rw[H6 tn sn,h.b,ij];exact hu,jT.1 aF⟩
theorem anu{V:List Int}{L:Nat}{E:List (T×T)}{s t:bK}(h:nB V L E s){x:T}{k:Int}(he:nu s x k=some t):nB V L E t:=by
 unfold nu at he;split at he
 ·obtain⟨l,J,U⟩:=iX.1 he;exact ED (s:={s with k:=l}) h.e h.b h.b (fun _ h=>h) h.d U
 ·cases he
theorem anv{V:List Int}{L:Nat}{E:List (T×T)}{s t:bK}(h:nB V L E s){x:T}{g:List c0}(he:nz s x g=some t):nB V L E t:=by
 unfold nz at he;split at he
 ·obtain⟨l,J,U⟩:=iX.1 he;exact ED (s:={s with m:=l}) h.e h.b h.b (fun _ h=>h) h.d U
 ·cases he
theorem ao7(θ:Int->T):dY [] θ:=fun _ h=>by simp at h
theorem Xf{V:List Int}{L:Nat}{E:List (T×T)}{b:List ai}(gN:V.Nodup)(J:1<=L)(c8:∀e∈E,eqP V L e)(ab:mgu [] E=some b){v:Int}(ay:v∈V):eF (aY b v)<=L ^ (CC b V).length:=by refine akK (sY tn sn ab).1 (fun θ=>?_) gN (fun e he=>(c8 e he).v) (fun e he=>(c8 e he).l) J ay;rw[rN tn sn ab θ];exact⟨fun h=>h.2,fun h=>⟨ao7 θ,h⟩⟩
theorem QH(b:List ai)(V:List Int):(CC b V).length<=V.length:=List.length_filter_le _ _
theorem nB.b_lv{V:List Int}{L:Nat}{E:List (T×T)}{s:bK}(h:nB V L E s)(gN:V.Nodup)(J:1<=L){v:Int}(ay:v∈V):eF (aY s.b v)<=L ^ V.length:=gS (Xf gN J h.e h.b ay) (Nat.pow_le_pow_right J (QH _ _))
theorem nB.d_lv{V:List Int}{L:Nat}{E:List (T×T)}{s:bK}(h:nB V L E s)(gN:V.Nodup)(J:1<=L){d:List ai}(aF:d∈s.d){c:ai}(ar:c∈d)(ahN:c.v∈V)(ahG:∀u,c.t.occ u=true->u∈V):eF c.t<=L ^ V.length/\(∀u,c.t.occ u=true->eF c.t*L<=L ^ V.length):=by
 obtain⟨e,x,he,ad,rfl⟩:=h.d d aF;have c8:∀a∈E++[e],eqP V L a:=fun a bm=>by
  rcases iz.1 bm with bm|bm
  ·exact h.e a bm
  ·rw[jT.1 bm];exact he
 have kR:=(iL.1 ar).1;have hc:=(sY tn sn ad).1;have aq:aY x c.v=c.t:=by unfold aY;rw[sb hc.asc kR];rfl
 have U:=Xf gN J c8 ad ahN;rw[aq]at U;refine⟨gS U (Nat.pow_le_pow_right J (QH _ _)),fun u hu=>?_⟩;have yI:=hc.free c kR u hu;have Dr:(aY x u).kind=1:=by unfold aY;rw[yI];rfl
 have ao:(CC x V).length+1<=V.length:=by have:=Li gN (p:=fun w=>(aY x w).kind !=1) (q:=fun _=>true) (fun _ _=>rfl) (ahG u hu) rfl (by simp[Dr]);rwa[List.filter_eq_self.2 fun _ _=>rfl]at this
 have a6:L ^ ((CC x V).length+1)<=L ^ V.length:=Nat.pow_le_pow_right J ao;rw[Nat.pow_succ]at a6;exact gS (pV _ U) a6
structure Ad (n:Int) (s:bK):Prop where
 ok:mN s
 n:s.n=n
 t:lU [[97],[98]] s.m
theorem Ad.tg{n:Int}{s:bK}(h:Ad n s):zx s.m:=⟨_,Ψ,h.t⟩
theorem E0{G:List (List c0)}{s t:bK}(hm:lU G s.m)(he:e6 s=some t):lU G t.m:=by
 unfold e6 at he;split at he
 ·cases he
 ·split at he
  ·cases he
  ·rename_i m e;split at he
   ·cases he
   ·split at he
    ·have U:=IT hm (fun x ad=>by simp at ad) e;have ao:=eH he;rw[<-ao];exact Pp U
    ·cases he
theorem EY{s t:bK}(h:gu s)(he:e6 s=some t):t.n=s.n:=(zq h he).2.1
noncomputable def pZ(s:bK)(kd:Int)(x y:T)(k:Int)(g:List c0):Option bK:=if kd=0 then mz s x y else if kd=1 then nf s x y else if kd=2 then nu s x k else nz s x g
theorem abF{n:Int}{s t:bK}(h:Ad n s){kd:Int}{x y:T}{k:Int}{g:List c0}(ad:x.fit=true)(aC:y.fit=true)(bx:ec n x=true)(hO:ec n y=true)(aX:g∈([[97],[98]]:List (List c0)))(he:pZ s kd x y k g=some t):Ad n t:=by
 obtain⟨J,U,ao⟩:=h;subst U;have U3:ix g=true:=by simp only[e7,List.mem_nil_iff,or_false]at aX;rcases aX with rfl|rfl<;>decide
 unfold pZ at he;split at he
 ·refine⟨adh J.1 ad aC bx hO he,?_,?_⟩
  ·unfold mz at he;obtain⟨b,aq,aG⟩:=iX.1 he;exact EY (s:={s with b:=b}) (J.1.bind ad aC bx hO aq) aG
  ·unfold mz at he;obtain⟨b,aq,aG⟩:=iX.1 he;exact E0 (s:={s with b:=b}) ao aG
 split at he
 ·refine⟨ac0 J.1 ad aC bx hO he,?_,?_⟩;all_goals unfold nf at he
  all_goals
   cases hm:mgu s.b [(x,y)]with
   |none=>
    rw[hm]at he
    first|exact EY J.1 he|exact E0 ao he
   |some b=>
    rw[hm]at he
    simp only at he
    split at he
    ·cases he
    ·first|exact EY (s:={s with d:=s.d++[dN s.b b]}) (J.1.dif ad aC bx hO hm) he|exact E0 (s:={s with d:=s.d++[dN s.b b]}) ao he
 split at he
 ·refine⟨akf J.1 ad bx he,?_,?_⟩;all_goals unfold nu at he
  all_goals split at he
  any_goals (cases he;done)
  all_goals rename_i g0
  all_goals obtain⟨l,aq,aG⟩:=iX.1 he
  ·exact EY (s:={s with k:=l}) (J.1.knd ad bx g0.1 aq) aG
  ·exact E0 (s:={s with k:=l}) ao aG
 ·refine⟨akY J.1 ad bx U3 he,?_,?_⟩;all_goals unfold nz at he
  all_goals split at he
  any_goals (cases he;done)
  all_goals obtain⟨l,aq,aG⟩:=iX.1 he
  ·exact EY (s:={s with m:=l}) (J.1.mrk ad bx U3 aq) aG
  ·exact E0 (s:={s with m:=l}) (Cx ao aX aq) aG
theorem ade{n:Int}(bE:0<=n)(J:n<=100000):mN ⟨n,[],[],[],[]⟩:=by
 refine⟨⟨⟨bE,J⟩,⟨by simp[jQ],⟨Ψ,Ψ,Ψ⟩,by simp[fP]⟩,Ψ,⟨Ψ,Ψ⟩,⟨Ψ,by simp[gT]⟩,by simp[ox],Ψ,Ψ,Ψ⟩,?_⟩;have:j4 []=[]:=List.eq_nil_iff_forall_not_mem.2 fun x ad=>by simp[sZ]at ad
 simp[e6,fJ,fL,fu,this]
def ext1(u:List T)(v:Int)(r:List ai):List (List ai):=u.map fun t=>r++[⟨v,t⟩]
def ld(u:List T):List Int->List (List ai)->List (List ai)
 |[],rows=>rows
 |v::a7,rows=>ld u a7 (rows.flatMap (ext1 u v))
theorem TB(u:List T)(v:Int)(r:List ai):(ext1 u v r).length=u.length:=by simp[ext1]
theorem C0(u:List T)(v:Int):∀rows:List (List ai),(rows.flatMap (ext1 u v)).length=rows.length*u.length
 |[]=>by simp
 |r::rows=>by simp[C0 u v rows,TB,Nat.succ_mul,Nat.add_comm]
theorem V7(b:Bool):(if b=true then 1 else 0)=b.toNat:=by cases b<;>rfl
theorem acV{α:Type}(p:α->Bool)(l:List α){i:Nat}{x:α}(h:l[i]? =some x):(l.take (i+1)).countP p=(l.take i).countP p+(p x).toNat:=by rw[mP h,List.countP_append,List.countP_cons,List.countP_nil,Nat.zero_add,V7]
theorem J2(u:List T):∀(a7:List Int) (rows:List (List ai)),∀r∈ld u a7 rows,∃q∈rows,∃w:List ai,r=q++w/\w.map (·.v)=a7/\∀b∈w,b.t∈u
 |[],rows,r,h=>⟨r,h,[],Ψ⟩
 |v::a7,rows,r,h=>by
  obtain⟨q,bt,w,rfl,U,ao⟩:=J2 u a7 _ r h;obtain⟨fX,aiO,a6⟩:=List.mem_flatMap.1 bt;obtain⟨t,aH,rfl⟩:=hG.1 a6;refine⟨fX,aiO,⟨v,t⟩::w,Ψ,by simp[U],fun b ab=>?_⟩;rcases e7.1 ab with rfl|ab
  ·exact aH
  ·exact ao b ab
theorem QA(u:List T):∀(vars:List Int) (rows:List (List ai)),(ld u vars rows).length=rows.length*u.length ^ vars.length
 |[],rows=>by simp[ld]
 |v::a7,rows=>by simp only[ld,QA u a7,C0,oj,Nat.pow_succ];rw[Nat.mul_assoc,Nat.mul_comm u.length]
theorem Qz{u:List T}(hu:0<u.length):∀(a7:List Int) (rows:List (List ai)),∀r∈rows,∃w,r++w∈ld u a7 rows
 |[],rows,r,h=>⟨[],by simpa[ld]using h⟩
 |v::a7,rows,r,h=>by obtain⟨w,hw⟩:=Qz hu a7 (rows.flatMap (ext1 u v)) (r++[⟨v,u[0]⟩]) (List.mem_flatMap.2 ⟨r,h,hG.2 ⟨u[0],List.getElem_mem hu,rfl⟩⟩);exact⟨⟨v,u[0]⟩::w,by simpa[ld]using hw⟩
theorem abZ{u:List T}(hu:0<u.length){vars:List Int}{i:Nat}{rows:List (List ai)}(h:ld u (vars.drop i) rows=ld u vars [[]]){r:List ai}(aK:r∈rows):r.length<=vars.length:=by obtain⟨w,hw⟩:=Qz hu (vars.drop i) rows r aK;rw[h]at hw;obtain⟨q,bt,w',e,U,_⟩:=J2 u vars [[]] _ hw;rw[jT.1 bt,b4]at e;have ao:=eP List.length U;have a6:=eP List.length e;simp at ao a6;omega
def j2(n:Nat):List Int:=(List.range n).map Int.ofNat
theorem rI(n:Nat):(j2 n).length=n:=by simp[j2]
theorem hY.of{n:Nat}(au:n<=400){u:List T}(hu:∀t∈u,t.fit=true/\t.gnd=true){r:List ai}(J:r.map (·.v)=j2 n)(U:∀b∈r,b.t∈u):hY n r:=by
 have av:r.length=n:=by rw[<-rI n,<-J,r5]
 have mA:∀(i:Nat) b,r[i]? =some b->b.v=(i:Int):=fun i b ab=>by
  have hi:i<n:=by rw[<-av];exact(eS.1 ab).1
  have ao:(r.map (·.v))[i]? =some b.v:=by rw[q5,ab];rfl
  rw[J]at ao;simp[j2,hi]at ao;exact ao.symm
 have Dl:=fun(b:ai) ab=>(hu b.t (U b ab)).1;simp only[T.fit,cr,en]at Dl;refine⟨fun b ab=>?_,?_,⟨Ω,fun b ab=>(Dl b ab).2⟩,Ω,mA,fun b ab=>(hu b.t (U b ab)).2⟩
 ·obtain⟨i,hi⟩:=List.mem_iff_getElem?.1 ab;have:=mA i b hi;have:=(eS.1 hi).1;exact⟨Ω,(Dl b ab).1⟩
 ·refine o2.2 fun i j hi af lp=>?_;rw[mA i _ (bY hi),mA j _ (bY af)];omega
def og(b:Nat):Nat->Nat->Nat
 |0,out=>out
 |k+1,out=>if out<=512 then og b k (out*b)else out
theorem aa0{b:Nat}(ab:0<b):∀(n out:Nat),og b n out<=512->og b n out=out*b ^ n
 |0,out,_=>by simp[og]
 |n+1,out,h=>by
  unfold og at h⊢;split
  ·rename_i g;rw[if_pos g]at h;rw[aa0 ab n _ h,Nat.pow_succ,Nat.mul_assoc,Nat.mul_comm b]
  ·rename_i g;rw[if_neg g]at h;omega
def xF(i:Int):List c0:=if i=0 then [97]else [98]
theorem apq(i:Int):xF i∈([[97],[98]]:List (List c0)):=by unfold xF;split<;>simp
noncomputable def zt(n:Int)(s:bK)(c:dA):bK×dA:=
 ((pZ s ((dZ 3 n c).2.below 4) (dZ 3 n c).1 (dZ 5 n ((dZ 3 n c).2.belowC 4)).1 (2+(dZ 5 n ((dZ 3 n c).2.belowC 4)).2.below 2) (xF (((dZ 5 n ((dZ 3 n c).2.belowC 4)).2.belowC 2).below 2))).getD s,
  ((dZ 5 n ((dZ 3 n c).2.belowC 4)).2.belowC 2).belowC 2)
noncomputable def p8(n:Int):Nat->bK->dA->bK×dA
 |0,s,c=>(s,c)
 |k+1,s,c=>p8 n k (zt n s c).1 (zt n s c).2
theorem QB(k:Int):eF (sa k)=1:=by
 unfold sa;split
 ·rfl
 ·split<;>rfl
theorem ac2(vars:Int){n:Nat}(au:n<=2)(c:dA):eF (dZ n vars c).1=1:=by
 rw[dZ,if_neg Ω];split
 ·rfl
 ·exact QB _
theorem ac3(vars:Int){n:Nat}(au:n<=5)(c:dA):eF (dZ n vars c).1<=2:=by
 rw[dZ];split
 ·simp only[eF,ac2 vars (show n/2<=2 by omega)];omega
 ·split
  ·simp[eF]
  ·rw[QB];omega
structure ng (n:Int) (t:T):Prop where
 f:t.fit=true
 b:ec n t=true
 l:eF t<=2
 o:∀v,t.occ v=true->0<=v/\v<n
 w:xk t=true
theorem ab1(k:Int):xk (sa k)=true:=by
 unfold sa;split
 ·rfl
 ·split
  ·generalize (k-2).toNat=j;rcases j with _|_|_|j<;>rfl
  ·rfl
theorem ac4(vars:Int)(n:Nat):∀c:dA,xk (dZ n vars c).1=true:=by
 induction n using qA with
 |ind n bR=>
  intro c;rw[dZ];split
  ·simp only[xk,cr];exact⟨bR _ Ω _,bR _ Ω _⟩
  ·split
   ·rfl
   ·exact ab1 _
theorem Ae{n:Int}(au:n<=100001){z:Nat}(ba:z<=5)(c:dA):ng n (dZ z n c).1:=by obtain⟨J,U,ao⟩:=Tk n au z c;refine⟨by simp only[T.fit,cr,en];exact⟨J,by split at ao<;>omega⟩,sc.2 fun v ay=>(U v ay).2,ac3 n ba c,U,ac4 n z c⟩
theorem H5{n:Nat}{v:Int}:v∈j2 n↔0<=v/\v<n:=by
 simp only[j2,hG,List.mem_range];constructor
 ·rintro⟨a,h,rfl⟩;exact⟨r4 a,by simpa using h⟩
 ·intro h;exact⟨v.toNat,Ω,by simp;omega⟩
theorem V4(n:Nat):(j2 n).Nodup:=by unfold j2;rw[List.nodup_iff_pairwise_ne,List.pairwise_map];exact List.pairwise_lt_range.imp fun h e=>by have:=avl e;omega
structure lh (n:Nat) (K:Nat) (S:bK):Prop where
 s:Ad n S
 k:S.d.length<=K
 p:∃E,nB (j2 n) 2 E S
theorem EX{s t:bK}(he:e6 s=some t):t.d.length<=s.d.length:=by
 unfold e6 at he;split at he
 ·cases he
 split at he
 ·cases he
 split at he
 ·cases he
 rename_i L gU;split at he
 ·have:=D6 gU;have:=Xj L;rw[<-eH he];simp only at*;omega
 ·cases he
theorem abE{s t:bK}{kd:Int}{x y:T}{k:Int}{g:List c0}(he:pZ s kd x y k g=some t):t.d.length<=s.d.length+1:=by
 unfold pZ at he;split at he
 ·unfold mz at he;obtain⟨b,aq,aG⟩:=iX.1 he;have:=EX aG;simp only at this;omega
 split at he
 ·unfold nf at he;split at he
  ·have:=EX he;omega
  ·split at he
   ·cases he
   ·have:=EX he;simp only[o0,List.length_singleton]at this;omega
 split at he
 ·unfold nu at he;split at he
  ·obtain⟨b,aq,aG⟩:=iX.1 he;have:=EX aG;simp only at this;omega
  ·cases he
 ·unfold nz at he;split at he
  ·obtain⟨b,aq,aG⟩:=iX.1 he;have:=EX aG;simp only at this;omega
  ·cases he
theorem abG{V:List Int}{L:Nat}{E:List (T×T)}{s t:bK}(h:nB V L E s){kd:Int}{x y:T}{k:Int}{g:List c0}(ad:eqP V L (x,y))(he:pZ s kd x y k g=some t):∃mW,nB V L mW t:=by
 unfold pZ at he;split at he
 ·exact⟨_,ant h ad he⟩
 split at he
 ·exact⟨_,anr h ad he⟩
 split at he
 ·exact⟨_,anu h he⟩
 ·exact⟨_,anv h he⟩
theorem ng.eqP{n:Nat}{x y:T}(ad:ng n x)(aC:ng n y):eqP (j2 n) 2 (x,y):=⟨⟨ad.l,aC.l⟩,fun v ay=>H5.2 (ay.elim (ad.o v) (aC.o v)),ad.w,aC.w⟩
theorem lh.add{n k:Nat}{s t:bK}(h:lh n k s){kd:Int}{x y:T}{kE:Int}{g:List c0}(ad:ng n x)(aC:ng n y)(aX:g∈([[97],[98]]:List (List c0)))(he:pZ s kd x y kE g=some t):lh n (k+1) t:=by obtain⟨E,c8⟩:=h.p;exact⟨abF h.s ad.f aC.f ad.b aC.b aX he,by have:=abE he;have:=h.k;omega,abG c8 (ad.eqP aC) he⟩
theorem lh.more{n k:Nat}{s:bK}(h:lh n k s):lh n (k+1) s:=⟨h.s,by have:=h.k;omega,h.p⟩
theorem ape{n:Nat}(au:n<=100000){k:Nat}{s:bK}(h:lh n k s)(c:dA):lh n (k+1) (zt n s c).1:=by
 unfold zt;simp only;generalize he:pZ _ _ _ _ _ _=o;cases o with
 |none=>exact h.more
 |some t=>exact h.add (Ae Ω Ω _) (Ae Ω Ω _) (apq _) he
theorem apf(n:Int){s:bK}{c:dA}(h:c.ok):(zt n s c).2.ok:=(((Af 5 n _ ((Af 3 n c h).below 4)).below 2).below 2)
theorem KI{n:Nat}(au:n<=100000):∀(j:Nat) {k:Nat} {s:bK} (_:lh n k s) (c:dA),lh n (k+j) (p8 n j s c).1
 |0,k,s,h,c=>h
 |j+1,k,s,h,c=>by rw[show k+(j+1)=(k+1)+j by omega];exact KI au j (ape au h c) _
theorem Th(n:Nat)(au:n<=100000):lh n 0 ⟨n,[],[],[],[]⟩:=⟨⟨ade Ω Ω,rfl,by simp[lU]⟩,Ψ,[],ans _ _ _⟩
theorem lh.le{n k bH:Nat}{s:bK}(h:lh n k s)(ae:k<=bH):lh n bH s:=⟨h.s,by have:=h.k;omega,h.p⟩
noncomputable def Ec(d:List Int)(p:Nat)(n:Nat):bK:=(p8 n ((gA d p).below 6).toNat ⟨n,[],[],[],[]⟩ ((gA d p).belowC 6)).1
theorem akv(d:List Int)(p:Nat){n:Nat}(au:n<=100000):lh n 5 (Ec d p n):=by have:=(gA d p).below_le 6 Ω;have h:=KI au ((gA d p).below 6).toNat (Th n au) ((gA d p).belowC 6);exact h.le Ω
theorem I5(s:bK):∃t:bK,∃q:Bool,qv s= .tuple [t.e,.bool q]/\(q=true->e6 s=some t)/\(q=false->e6 s=none):=by
 refine⟨_,_,rfl,(fun h=>?_),fun h=>?_⟩
 ·obtain⟨t,aH⟩:=fE.1 h;rw[O2 aH];exact aH
 ·cases e:e6 s with
  |none=>rfl
  |some t=>rw[e]at h;cases h
open Classical in
noncomputable def I3(s:bK)(x y:T):ak:=match mgu s.b [(x,y)]with
 |none=>qv s
 |some b=>if dN s.b b=[]then .tuple [hs.e,.bool false]else qv {s with d:=s.d++[dN s.b b]}
theorem aoq(s:bK)(x y:T):∃t:bK,∃q:Bool,I3 s x y= .tuple [t.e,.bool q]/\(q=true->nf s x y=some t)/\(q=false->nf s x y=none):=by
 unfold I3 nf;cases mgu s.b [(x,y)]with
 |none=>exact I5 s
 |some b=>
  by_cases h:dN s.b b=[]
  ·simp only[if_pos h];exact⟨hs,false,rfl,(fun h=>by cases h),fun _=>trivial⟩
  ·simp only[if_neg h];exact I5 _
theorem aqm{s:bK}(h:gu s)(aF:s.d.length<=30)(hm:mQ s.m){x y:T}(ad:x.fit=true)(aC:y.fit=true)(bx:ec s.n x=true)(hO:ec s.n y=true)(kE:Int)(tag:List c0):bQ ax 93 [s.e,.int .i64 1,x.e,y.e,.int .i64 kE,.str tag] (I3 s x y):=by
 have aP:=PH s.b x y h.b.sol h.b.fits;obtain⟨G,hR,aX⟩:=hm;unfold I3;cases hu:mgu s.b [(x,y)]with
 |none=>rw[hu]at aP;have bd:=Cg h hR aX;simp only[qv]at bd⊢;generalize th s=t at bd;generalize (e6 s).isSome=q at bd;clear h hu;obtain⟨n,b,d,k,m⟩:=s;obtain⟨xJ,xG,xH,xI,tm⟩:=t;simp only[bK.e,fh]at aP bd⊢;refine bj fa sk s7 fun aR=>?_;unfold rj;simp;((with_reducible repeat' first|refine aj ?_|refine aA aP ?_|refine aB aP ?_|refine aA bd ?_|refine aB bd ?_|simp|((first|apply bL|apply bN|apply bM)<;>intro h<;>try simp at h))<;>(try exact cm));all_goals simp[bk,IK,aU,aW,aT]
 |some b1=>
  rw[hu]at aP;have bS:=PG h.b (h.bind ad aC bx hO hu).b;simp only at bS;by_cases au:dN s.b b1=[]
  ·simp only[if_pos au];rw[au]at bS;clear h hu;obtain⟨n,b,d,k,m⟩:=s;simp only[bK.e,fh,hs,cH,oo]at aP bS⊢;refine bj fa sk s7 fun aR=>?_;unfold rj;simp only at aF;simp;((with_reducible repeat' first|refine aj ?_|refine aA aP ?_|refine aB aP ?_|refine aA bS ?_|refine aB bS ?_|simp|((first|apply bL|apply bN|apply bM)<;>intro h<;>try simp at h))<;>(try exact cm));all_goals simp[bk,IK,aU,aW,aT]
   all_goals(unfold lim;omega)
  ·simp only[if_neg au];have bd:=Cg (h.dif ad aC bx hO hu) hR aX;have av:0<(dN s.b b1).length:=List.length_pos_iff.2 au;generalize dN s.b b1=w at bd bS av au⊢;simp only[qv]at bd⊢;generalize th {s with d:=s.d++[w]}=t at bd;generalize (e6 {s with d:=s.d++[w]}).isSome=q at bd;clear h hu;obtain⟨n,b,d,k,m⟩:=s;obtain⟨xJ,xG,xH,xI,tm⟩:=t;simp only[bK.e,fh]at aP bd bS⊢;generalize qG:d++[w]=D at bd;simp only[cH]at bS;have hw:cH w= .slice 5 .no (w.map ai.e):=rfl;refine bj fa sk s7 fun aR=>?_;unfold rj;simp only at aF;simp;((with_reducible repeat' first|refine aj ?_|refine aA aP ?_|refine aB aP ?_|refine aA bS ?_|refine aB bS ?_|simp[av]|((first|apply bL|apply bN|apply bM)<;>intro h<;>try simp at h))<;>(try exact cm));all_goals first|(refine⟨by unfold lim;omega,?_⟩)|skip
   rw[<-hw];rw[p6,Gp,qG];((with_reducible repeat' first|refine aj ?_|refine aA bd ?_|refine aB bd ?_|simp|((first|apply bL|apply bN|apply bM)<;>intro h<;>try simp at h))<;>(try exact cm));all_goals simp[bk,IK,aU,aW,aT]
noncomputable def I7(s:bK)(x:T)(k:Int):ak:=if(x.ap (aY s.b)).size<=5000 then(match hN s.k (x.ap (aY s.b)) k with
 |none=>.tuple [hs.e,.bool false]
 |some l=>qv {s with k:=l})else .tuple [hs.e,.bool false]
theorem aos(s:bK)(x:T){k:Int}(ae:k=2\/k=3):∃t:bK,∃q:Bool,I7 s x k= .tuple [t.e,.bool q]/\(q=true->nu s x k=some t)/\(q=false->nu s x k=none):=by
 unfold I7 nu;by_cases g:(x.ap (aY s.b)).size<=5000
 ·rw[if_pos g,if_pos ⟨ae,g⟩];cases hN s.k (x.ap (aY s.b)) k with
  |none=>exact⟨hs,false,rfl,(fun h=>by cases h),fun _=>rfl⟩
  |some l=>exact I5 _
 ·rw[if_neg g,if_neg fun h=>g h.2];exact⟨hs,false,rfl,(fun h=>by cases h),fun _=>rfl⟩
noncomputable def I8(s:bK)(x:T)(g:List c0):ak:=if(x.ap (aY s.b)).size<=5000 then(match im s.m (x.ap (aY s.b)) g with
 |none=>.tuple [hs.e,.bool false]
 |some l=>qv {s with m:=l})else .tuple [hs.e,.bool false]
theorem aot(s:bK)(x:T)(g:List c0):∃t:bK,∃q:Bool,I8 s x g= .tuple [t.e,.bool q]/\(q=true->nz s x g=some t)/\(q=false->nz s x g=none):=by
 unfold I8 nz;by_cases g1:(x.ap (aY s.b)).size<=5000
 ·rw[if_pos g1,if_pos g1];cases im s.m (x.ap (aY s.b)) g with
  |none=>exact⟨hs,false,rfl,(fun h=>by cases h),fun _=>rfl⟩
  |some l=>exact I5 _
 ·rw[if_neg g1,if_neg g1];exact⟨hs,false,rfl,(fun h=>by cases h),fun _=>rfl⟩
theorem aqn{s:bK}(h:gu s)(hm:mQ s.m){x:T}(ad:x.fit=true)(bx:ec s.n x=true){k:Int}(ae:k=2\/k=3)(y:T)(tag:List c0):bQ ax 93 [s.e,.int .i64 2,x.e,y.e,.int .i64 k,.str tag] (I7 s x k):=by
 have aP:=zB s.b h.b.len x;have bd:=PJ s.k (by have:=oK h.k;omega) h.k.asc (x.ap (aY s.b)) k;unfold I7;by_cases g:(x.ap (aY s.b)).size<=5000
 ·rw[gx g]at aP;rw[if_pos g];cases hu:hN s.k (x.ap (aY s.b)) k with
  |none=>rw[hu]at bd;generalize x.ap (aY s.b)=y at aP bd;clear h hu g;obtain⟨n,b,d,bH,m⟩:=s;simp only[bK.e,n7,hs,kc,jG]at aP bd⊢;refine bj fa sk s7 fun aR=>?_;unfold rj;exact cp
  |some l=>rw[hu]at bd;obtain⟨G,hR,aX⟩:=hm;have bS:=Cg (h.knd ad bx ae hu) hR aX;generalize x.ap (aY s.b)=y at aP bd;simp only[qv]at bS⊢;generalize th {s with k:=l}=t at bS;generalize (e6 {s with k:=l}).isSome=q at bS;clear h hu g;obtain⟨n,b,d,bH,m⟩:=s;obtain⟨xJ,xG,xH,xI,tm⟩:=t;simp only[bK.e,n7,jo,mV]at aP bd bS⊢;refine bj fa sk s7 fun aR=>?_;unfold rj;exact cp
 ·rw[h6 g]at aP;rw[if_neg g];generalize x.ap (aY s.b)=y at aP bd;clear bd;clear h g;obtain⟨n,b,d,bH,m⟩:=s;simp only[bK.e,hs]at aP⊢;refine bj fa sk s7 fun aR=>?_;unfold rj;exact cp
theorem aqo{s:bK}(h:gu s)(hm:zx s.m){x:T}(ad:x.fit=true)(bx:ec s.n x=true){g:List c0}(aX:ix g=true)(y:T)(kE:Int):bQ ax 93 [s.e,.int .i64 3,x.e,y.e,.int .i64 kE,.str g] (I8 s x g):=by
 have aP:=zB s.b h.b.len x;have bd:=fun ba=>aaH s.m (hm.w.len h.m) (x.ap (aY s.b)) ba g h.m.asc;unfold I8;by_cases g1:(x.ap (aY s.b)).size<=5000
 ·have bd:=bd g1;rw[gx g1]at aP;rw[if_pos g1];cases hu:im s.m (x.ap (aY s.b)) g with
  |none=>rw[hu]at bd;generalize x.ap (aY s.b)=y at aP bd;clear h hu g1;obtain⟨n,b,d,bH,m⟩:=s;simp only[bK.e,ig,hs,kc,jG]at aP bd⊢;refine bj fa sk s7 fun aR=>?_;unfold rj;exact cp
  |some l=>rw[hu]at bd;obtain⟨G,hR,pq⟩:=hm.mrk hu;have bS:=Cg (h.mrk ad bx aX hu) hR pq;generalize x.ap (aY s.b)=y at aP bd;simp only[qv]at bS⊢;generalize th {s with m:=l}=t at bS;generalize (e6 {s with m:=l}).isSome=q at bS;clear h hu g1;obtain⟨n,b,d,bH,m⟩:=s;obtain⟨xJ,xG,xH,xI,tm⟩:=t;simp only[bK.e,ig,jo,mV]at aP bd bS⊢;refine bj fa sk s7 fun aR=>?_;unfold rj;exact cp
 ·rw[h6 g1]at aP;rw[if_neg g1];generalize x.ap (aY s.b)=y at aP bd;clear bd;clear h g1;obtain⟨n,b,d,bH,m⟩:=s;simp only[bK.e,hs]at aP⊢;refine bj fa sk s7 fun aR=>?_;unfold rj;exact cp
theorem agK(c:dA)(ar:c.ok):bI ax 111 [.ptr (.obj 401) 0,.slice 1 .no [.str [97],.str [98]]] (b8 c) fun r ah=>r= .str (xF (c.below 2))/\ah=b8 (c.belowC 2):=by
 have ag:=fR c;have ab:=c.below_le 2 Ω;refine bI.mk mixed qy afC amG Ψ ag.obj fun aR cI=>?_;unfold Sl;unfold b8;simp;(refine cO.ob (vh c ar 2) (fR _) d9 d9 f8 ?_;rintro r ah ⟨rfl,rfl⟩;refine⟨hM _ _,?_⟩;unfold b8;simp[cb]);generalize ae:c.below 2=k at ab⊢;rcases(by omega:k=0\/k=1)with rfl|rfl;all_goals(with_reducible repeat' first|refine aj ?_|simp)
 all_goals(refine cP.at (b8 (c.belowC 2)) (.inl rfl) (fR _) (hM _ _) d9 d9 ?_;simp[cW,YW,aU,aW,aT,b8])
 all_goals simp[xF]
theorem aqp{n:Int}{s:bK}(h:Ad n s)(aF:s.d.length<=30){kd:Int}(ae:kd=0\/kd=1\/kd=2\/kd=3){x y:T}(ad:ng n x)(aC:ng n y){k:Int}(jZ:k=2\/k=3){g:List c0}(aX:ix g=true):
  ∃t:bK,∃q:Bool,bQ ax 93 [s.e,.int .i64 kd,x.e,y.e,.int .i64 k,.str g] (.tuple [t.e,.bool q])/\(q=true->pZ s kd x y k g=some t)/\(q=false->pZ s kd x y k g=none):=by
 have bx:=ad.b;have hO:=aC.b;rw[<-h.n]at bx hO;rcases ae with rfl|rfl|rfl|rfl
 ·obtain⟨t,q,aq,aG,bG⟩:=aor s x y;refine⟨t,q,?_,aG,bG⟩;rw[<-aq];exact aql h.ok.1 h.tg.w ad.f aC.f bx hO k g
 ·obtain⟨t,q,aq,aG,bG⟩:=aoq s x y;refine⟨t,q,?_,aG,bG⟩;rw[<-aq];exact aqm h.ok.1 aF h.tg.w ad.f aC.f bx hO k g
 ·obtain⟨t,q,aq,aG,bG⟩:=aos s x jZ;refine⟨t,q,?_,aG,bG⟩;rw[<-aq];exact aqn h.ok.1 h.tg.w ad.f bx jZ y g
 ·obtain⟨t,q,aq,aG,bG⟩:=aot s x g;refine⟨t,q,?_,aG,bG⟩;rw[<-aq];exact aqo h.ok.1 h.tg ad.f bx aX y k
theorem apr(i:Int):ix (xF i)=true:=by unfold xF;split<;>decide
theorem Tj(n:Int):∀(i:Nat) (s:bK) (c:dA),p8 n (i+1) s c=zt n (p8 n i s c).1 (p8 n i s c).2
 |0,_,_=>rfl
 |i+1,s,c=>by rw[p8,Tj n i];rfl
theorem Ti(n:Int):∀(i:Nat) {s:bK} {c:dA},c.ok->(p8 n i s c).2.ok
 |0,_,_,h=>h
 |i+1,_,_,h=>Ti n i (apf n h)
def zY(s:bK):List ak:=[.int .i64 s.n,.slice 5 .no (s.b.map ai.e),.slice 1 .no (s.d.map cH),.slice 2 .no (s.k.map ca.e),.slice 2 .no (s.m.map bs.e)]
def tJ(n:Int)(q:Bool)(s:bK):List ak:=if q then [.int .i64 n,.slice 5 .nil [],.slice 1 .nil [],.slice 2 .nil [],.slice 2 .nil []]else zY s
theorem agN(n:Nat)(au:n<=100000)(c:dA)(ar:c.ok):bI ax 44 [.ptr (.obj 401) 0,.int .i64 n,.int .i64 5] (b8 c) fun r ah=>r=(p8 n (c.below 6).toNat ⟨n,[],[],[],[]⟩ (c.belowC 6)).1.e/\ah=b8 (p8 n (c.below 6).toNat ⟨n,[],[],[],[]⟩ (c.belowC 6)).2:=by
 have ag:=fR c;have ab:=c.below_le 6 Ω;obtain⟨K,c4⟩:∃K:Nat,K=(c.below 6).toNat:=⟨_,rfl⟩;have ahw:c.below 6=(K:Int):=Ω
 have wG:=ar.below 6;rw[<-c4];clear c4;refine bI.mk mixed qy af5 am9 Ψ ag.obj fun aR cI=>?_;unfold SP;unfold b8;simp;(with_reducible repeat' first|refine aj ?_|simp);(refine cO.ob (vh c ar 6) (fR _) d9 d9 f8 ?_;rintro r ah ⟨rfl,rfl⟩;refine⟨hM _ _,?_⟩;unfold b8;simp[cb]);rw[ahw];generalize c.belowC 6=b0 at wG⊢;have qe:=fun i=>KI au i (Th n au) b0;have eh:=fun i=>Ti n i (s:=⟨n,[],[],[],[]⟩) wG;have nU:=fun i=>Tj n i ⟨n,[],[],[],[]⟩ b0;generalize gB:(fun i=>p8 n i ⟨n,[],[],[],[]⟩ b0)=F;have Uw:∀i,p8 n i ⟨n,[],[],[],[]⟩ b0=F i:=fun i=>by rw[<-gB]
 have rz:F 0=(⟨n,[],[],[],[]⟩,b0):=by rw[<-gB];rfl
 simp only[Uw]at qe eh nU⊢;clear gB Uw;refine h0 (fun i (q:Bool)=>⟨[(0,.ptr (.obj 401) 0),(1,.int .i64 n),(6,.ptr (.loc 0) 0),(7,.ptr (.loc 1) 0),(8,.int .i64 (K-i))],[(.obj 401,(F i).2.e),(.loc 0,[.int .i64 0,.slice 5 .nil [],.slice 1 .nil [],.slice 2 .nil [],.slice 2 .nil []]),(.loc 1,tJ n q (F i).1)],[],2,[.obj 401]⟩) K (fun i q=>q=true->(F i).1=⟨n,[],[],[],[]⟩) true ⟨by simp[fresh,aN,aJ,cz,inObs,Pv.look,nt,rz,tJ],eD (by simp[fresh,aN,aJ,cz,inObs,Pv.look,nt,rz,tJ]),eE (by simp[fresh,aN,aJ,eg,inObs,Pv.look,nt,rz,tJ]),Ψ⟩ (fun _=>by rw[rz]) (fun q af _=>?_) (fun i q hi af _=>?_)
 ·have G1:=qe K;have UP:=eh K;generalize F K=fK at af G1 UP⊢;obtain⟨s,kM⟩:=fK;simp only at af G1 UP⊢;have aH:=G1.s;have iU:=aqq s aH.ok.1.b.len (fun z ba=>(aH.ok.1.d z ba).len) (by have:=oK aH.ok.1.k;omega) (aH.tg.w.len aH.ok.1.m);clear qe eh nU G1;obtain⟨tl,b,d,k,m⟩:=s;have aiY:tl=n:=aH.n;subst aiY;simp only[bK.e]at iU⊢;clear aH;cases q
  ·simp only[tJ,gZ,if_false,zY];clear af;simp;(with_reducible repeat' first|refine aj ?_|refine aA iU ?_|refine aB iU ?_|simp);(refine cP.at (b8 (kM)) (.inl rfl) (fR _) (hM _ _) d9 d9 ?_;simp[cW,OD,aU,aW,aT,b8])
  ·have af:=af rfl;simp only[bK.mk.injEq,true_and]at af;obtain⟨rfl,rfl,rfl,rfl⟩:=af;simp only[tJ,if_true,oo]at iU⊢;simp;(with_reducible repeat' first|refine aj ?_|refine aA iU ?_|refine aB iU ?_|simp);(refine cP.at (b8 (kM)) (.inl rfl) (fR _) (hM _ _) d9 d9 ?_;simp[cW,OD,aU,aW,aT,b8])
 ·have hdi:=qe i;have iv:=eh i;have kA:=nU i;have hle:i<=4:=Ω
  generalize F i=Ap at af hdi iv kA⊢;obtain⟨s,kM⟩:=Ap;simp only at af hdi iv kA⊢;have pn:=Af 3 n _ iv;have ad:=Ae (n:=n) Ω (z:=3) Ω kM;have rA:=pn.below 4;have asC:=(dZ 3 n kM).2.below_le 4 Ω;have aC:=Ae (n:=n) Ω (z:=5) Ω ((dZ 3 n kM).2.belowC 4);have UM:=Af 5 n _ rA;have UN:=UM.below 2;have pg:=(dZ 5 n ((dZ 3 n kM).2.belowC 4)).2.below_le 2 Ω;have asE:=UN.below 2;have e9:=aqp hdi.s (by have:=hdi.k;omega) (kd:=(dZ 3 n kM).2.below 4) Ω ad aC (k:=2+(dZ 5 n ((dZ 3 n kM).2.belowC 4)).2.below 2) Ω (apr (((dZ 5 n ((dZ 3 n kM).2.belowC 4)).2.belowC 2).below 2));obtain⟨t,fX,e9,aG,bG⟩:=e9;have mh:=GH n Ω 3 Ω kM iv;have j3:=vh (dZ 3 n kM).2 pn 4;have mi:=GH n Ω 5 Ω _ rA;have dk:=vh _ UM 2;have jz:=agK _ UN;unfold zt at kA;clear qe eh nU hdi ad aC;generalize dZ 3 n kM=e1 at*;obtain⟨x,cu⟩:=e1;simp only at*;generalize cu.below 4=kd at*;generalize cu.belowC 4=dg at*;generalize dZ 5 n dg=fY at*;obtain⟨y,ku⟩:=fY;simp only at*;generalize ku.below 2=bd at*;generalize ku.belowC 2=lg at*;generalize xF (lg.below 2)=g at*;generalize lg.belowC 2=oA at*;have ll:(K:Int)-i-1=K-(i+1):=Ω
  have jw:pE (2+bd):=by unfold pE;omega
  have vs:(0:Int)<(K:Int)-i:=Ω
  have ue:F (i+1)=(if fX then t else s,oA):=by
   cases fX
   ·rw[kA,bG rfl];rfl
   ·rw[kA,aG rfl];rfl
  have au:(q&& !fX)=true->(F (i+1)).1=⟨n,[],[],[],[]⟩:=fun h=>by rw[cr,pQ]at h;rw[ue,h.2];exact af h.1
  clear kA aG bG;cases q;rotate_left;obtain rfl:=af rfl;rotate_left;all_goals cases fX
  all_goals(try obtain⟨tl,b,d,k,m⟩:=s)
  all_goals obtain⟨xJ,xG,xH,xI,tm⟩:=t
  all_goals simp only[bK.e,oo]at e9⊢
  all_goals simp only[tJ,gZ,if_false,if_true,zY]
  all_goals simp[hi]
  all_goals(with_reducible repeat' first|refine aj ?_|simp[hi])
  all_goals(refine cO.ob (mh) (fR _) d9 d9 f8 ?_;rintro r ah ⟨rfl,rfl⟩;refine⟨hM _ _,?_⟩;unfold b8;simp[cb])
  all_goals(with_reducible repeat' first|refine aj ?_|simp)
  all_goals(refine hH.ob (j3) (fR _) (fR _) (hM _ _) d9 d9 f8 ?_;unfold b8;simp[cb])
  all_goals(with_reducible repeat' first|refine aj ?_|simp)
  all_goals(refine hH.ob (mi) (fR _) (fR _) (hM _ _) d9 d9 f8 ?_;unfold b8;simp[cb])
  all_goals(with_reducible repeat' first|refine aj ?_|simp)
  all_goals(refine hH.ob (dk) (fR _) (fR _) (hM _ _) d9 d9 f8 ?_;unfold b8;simp[cb])
  all_goals(with_reducible repeat' first|refine aj ?_|simp)
  all_goals(refine hH.ob (jz) (fR _) (fR _) (hM _ _) d9 d9 f8 ?_;unfold b8;simp[cb])
  all_goals(with_reducible repeat' first|refine aj ?_|refine aA e9 ?_|refine aB e9 ?_|simp[ll])
  all_goals refine bP.rng (n:=K) _ hi au ⟨by simp[fresh,aN,aJ,cz,inObs,Pv.look,nt,ue,ll,tJ,zY],eD (by simp[fresh,aN,aJ,cz,inObs,Pv.look,nt,ue,ll,tJ,zY]),eE (by simp[fresh,aN,aJ,eg,inObs,Pv.look,nt,ue,ll,tJ,zY]),Ψ⟩
theorem apV(d:List Int)(aF:rh d)(av:d.length<=10000000)(p:Nat)(bD:p<=1000000)(n:Nat)(au:n<=100000):bQ ax 10 [.slice 1 .no (hP d),.int .i64 p,.int .i64 n] (Ec d p n).e:=by have kX:=agN n au (gA d p) (CK aF av p);have gC:(p8 n ((gA d p).below 6).toNat ⟨n,[],[],[],[]⟩ ((gA d p).belowC 6)).1=Ec d p n:=rfl;rw[gC]at kX;generalize Ec d p n=s at kX⊢;generalize (p8 n ((gA d p).below 6).toNat ⟨n,[],[],[],[]⟩ ((gA d p).belowC 6)).2=cq at kX;clear gC;obtain⟨tl,b,e,k,m⟩:=s;simp only[bK.e]at kX⊢;refine bj qy afr amv fun aR=>?_;unfold Sa;simp;refine cO.new (GI d aF av p bD) ((dM.of ⟨by intro m;simp[Pv.look],by intro m;simp[Pv.look]⟩ (by simp[aN,aJ,inObs,Pv.look]) (by simp[aN,aJ,inObs,Pv.look]))) aL aL Ψ ?_;rintro r ah ⟨rfl,rfl⟩;refine⟨fun m _=>.inr Ψ,?_⟩;unfold b8;simp[cb];(refine cO.ob (kX) (fR _) d9 d9 f8 ?_;rintro r ah ⟨rfl,rfl⟩;refine⟨hM _ _,?_⟩;unfold b8;simp[cb]);exact cp
end
end Go.Proofs.YtohaalphocaebaaGreat
namespace Go.Pv
section
open Go Go.RowKit
mutual
def k3(k:aM)(m:Nat):ak->ak
 | .slice sz tag xs=>.slice sz (if tag= .own k then .own (.obj m)else .no) (c7 xs)
 | .agg cs=>.agg (uD k m cs)
 | .tuple cs=>.tuple (uD k m cs)
 |p=>eb p
def uD(k:aM)(m:Nat):List ak->List ak
 |[]=>[]
 |c::cs=>k3 k m c::uD k m cs
end
section
variable {w:World} {Z μ:be} {k:aM} {m:Nat} (aw:o5 (fun _=>eB) w Z w μ) (ae:∀n v,Z.ow k=some (n,v)->μ.ow (.obj m)=some (n,v))
include aw ae
mutual
theorem OK:∀(p:ak) (v:Value),aJ (fun _=>eB) (eb p)->bc w Z p v->bc w μ (k3 k m p) v
 | .slice sz tag xs,v,au,h=>by
  have U:=kI aw _ _ au (lz _ _ h);simp only[k3];split
  ·rename_i e;simp only[bc,eb]at h U⊢;refine⟨U.1,(fun e=>by cases e),fun g KM=>?_,(fun _ _ e=>by cases e),fun _ e=>by cases e⟩;cases KM;obtain⟨n',u,aq,aG,bG⟩:=h.2.2.1 k e;exact⟨n',u,ae _ _ aq,by rw[tp];exact aG,by rw[tp];exact bG⟩
  ·exact U
 | .agg cs,v,au,h=>by simp only[bc,aJ,k3,eb]at h au⊢;obtain⟨us,J,U⟩:=h;exact⟨us,J,Zj cs us.toList au U⟩
 | .tuple cs,v,au,h=>by simp only[bc,aJ,k3,eb]at h au⊢;obtain⟨us,J,U⟩:=h;exact⟨us,J,Zk cs us.toList au U⟩
 | .junk,_,_,_=>by simp[k3,eb,bc]
 | .int k n,v,au,h=>by have:=kI aw _ _ au (lz _ _ h);simpa only[k3]using this
 | .bool b,v,au,h=>by have:=kI aw _ _ au (lz _ _ h);simpa only[k3]using this
 | .str s,v,au,h=>by have:=kI aw _ _ au (lz _ _ h);simpa only[k3]using this
 | .ptr a b,v,au,h=>by have:=kI aw _ _ au (lz _ _ h);simpa only[k3]using this
 | .eptr x,v,au,h=>by have:=kI aw _ _ au (lz _ _ h);simpa only[k3]using this
 | .iface t x,v,au,h=>by have:=kI aw _ _ au (lz _ _ h);simpa only[k3]using this
 | .nilp,v,au,h=>by have:=kI aw _ _ au (lz _ _ h);simpa only[k3]using this
 | .func f c,v,au,h=>by have:=kI aw _ _ au (lz _ _ h);simpa only[k3]using this
 | .gmap x,v,au,h=>by have:=kI aw _ _ au (lz _ _ h);simpa only[k3]using this
 | .row a b c,v,au,h=>by have:=kI aw _ _ au (lz _ _ h);simpa only[k3]using this
 | .rptr a b c d e,v,au,h=>by have:=kI aw _ _ au (lz _ _ h);simpa only[k3]using this
 | .hdm a b,v,au,h=>by have:=kI aw _ _ au (lz _ _ h);simpa only[k3]using this
 | .hdi a b c,v,au,h=>by have:=kI aw _ _ au (lz _ _ h);simpa only[k3]using this
 | .cst a,v,au,h=>by have:=kI aw _ _ au (lz _ _ h);simpa only[k3]using this
theorem Zj:∀(cs:List ak) (us:List Value),aN (fun _=>eB) (c7 cs)->dr w Z cs us->dr w μ (uD k m cs) us
 |[],us,_,h=>by simpa only[uD,dr]using h
 |c::cs,us,au,h=>by simp only[dr,c7,aN,uD]at h au⊢;obtain⟨u,ck,J,⟨U,ao⟩,a6⟩:=h;exact⟨u,ck,J,⟨OK c u au.1 U,ao⟩,Zj cs ck au.2 a6⟩
theorem Zk:∀(cs:List ak) (us:List Value),aN (fun _=>eB) (c7 cs)->cT w Z cs us->cT w μ (uD k m cs) us
 |[],us,_,h=>by simpa only[uD,cT]using h
 |c::cs,us,au,h=>by simp only[cT,c7,aN,uD]at h au⊢;obtain⟨u,ck,J,U,a6⟩:=h;exact⟨u,ck,J,OK c u au.1 U,Zk cs ck au.2 a6⟩
end
end
def Qc(eM:List bW)(k:aM)(m:Nat)(Q:ak->fQ->Prop)(e:Exit)(st:br):Prop:=
 (e= .ret\/e= .normal)/\match aU st eM with
  |some (c,cE)=>c/\∃o,look k st.e=some o/\o.xs=none/\aJ (fun _=>eB) (eb (aT cE))/\Q (k3 k m (aT cE)) o
  |none=>eB
theorem bI.ofN{P:cJ}(hm:P.follows .mixedOrders=true){bF:List (Nat×dB)}(aH:fM P bF=true){f:FuncId}{fn:Func}(aQ:P.funcs[f]? =some fn){c:C}{eM:List bW}{n:Nat}(eh:b3 bF c eM n fn=true)
  {args:List ak} (av:args.length<=n) (k:aM) (m:Nat) {Q:ak->fQ->Prop} (he:gI args->c5 P [] c (Qc eM k m Q) ⟨j8 0 args,[],[],0,[]⟩):bI P f args ⟨[],[]⟩ fun r ah=> ∃o,Q r o/\ah=⟨[],[(.obj m,o)]⟩:=by
 unfold b3 at eh;split at eh;rotate_left
 ·cases eh
 rename_i code ab;simp only[cr,pQ,en]at eh;obtain⟨⟨⟨ar,AW⟩,AP⟩,a6⟩:=eh;replace av:=gS av a6;intro w Z a7 aX ad aK;refine .inl ⟨⟨fn,aQ,by simp[ab],by assumption⟩,?_⟩;have iT:=zk aK;have kW:a7.size=args.length:=by simpa using iT
 let X:fj:=⟨w,Z,fq Z ⟨[],[]⟩,fn.ntmps,[]⟩
 have Hu:∀k,Z.bx k=none:=fun k=>(ad k).1 rfl;have lO:∀k,Z.ow k=none:=fun k=>(ad k).2.1 rfl;have Hv:∀k j b,¬Z.tr k j b:=fun k=>(ad k).2.2;have pw:cY X ⟨j8 0 args,[],[],0,[]⟩ {tmps:=a7++Array.replicate (fn.ntmps-a7.size) undef,defers:=[]} w Z:=by
  refine⟨⟨aX.alt,fun k cs ae=>(by simp[look]at ae),aX.inj,fun g o dR=>(by simp[look]at dR),aX.oinj,aX.obx,aX.one,aX.otr⟩,⟨rfl,rfl,rfl,eu _,fun _ _ _=>rfl,fun b o h=>⟨h,rfl⟩,fun b o h=>.inl h,fun n b h=>h,fun n b h=>(by rw[Hu]at h;cases h),fun m n u h=>⟨n,u,h,.inl ⟨rfl,rfl⟩⟩,fun m n u h=>(by rw[lO]at h;cases h),fun k j _ _ b h=>absurd h (Hv k j b),fun k j b h=>absurd h (Hv k j b),fun k j b h=>absurd h (Hv k j b),fun _ _ _=>rfl⟩,rfl,?_,fun i=>?_,fun k _=>⟨Hu k,lO k,Hv k⟩⟩
  ·show(a7++Array.replicate (fn.ntmps-a7.size) undef).size=fn.ntmps;simp;omega
  ·rw[GL];by_cases hi:i<args.length
   ·rw[if_pos Ω];have rD:args[i]? =some args[i]:=bY hi;obtain⟨v,aq,aG⟩:=EP i aK rD;have ay:(a7++Array.replicate (fn.ntmps-a7.size) undef).getD i undef=v:=by
     have CL:a7[i]? =some v:=by simpa using aq
     rw[Array.getD_eq_getD_getElem?,Array.getElem?_append_left Ω,CL];rfl
    show bc w Z _ ((a7++Array.replicate (fn.ntmps-a7.size) undef).getD i undef);rw[ay];simpa[List.getD,rD]using aG
   ·rw[if_neg Ω];simp[bc]
 have Mw:=rr hm aH (X:=X) c code (Qc eM k m Q) _ ar (he (OO aK)) _ w Z pw;refine calls_of_wp aQ ab (wp_mono Mw fun e bn w' cA=>?_);obtain⟨st',bo,⟨sD,bt⟩,dp⟩:=cA;cases sJ:aU st' eM with
 |none=>simp[sJ]at bt
 |some x=>
  obtain⟨cq,cE⟩:=x;simp only[sJ]at bt;obtain⟨hy,o,aie,hc,cQ,cZ⟩:=bt;obtain⟨n9,g1,g2⟩:=I6 aH dp eM fn.results.toList cq cE (by assumption) sJ hy;have Hm:=zk g2;obtain⟨v,us,gW,gR,pI,aub⟩:=dp.good.own k o aie;let μ:be:={A:=bo.A,bx:=fun _=>none,ow:=fun j=>if j= .obj m then bo.ow k else none,tr:=fun _ _ _=>eB}
  have ajm:μ.ow (.obj m)=some (o.n,v):=by simp[μ,gW]
  have dz:bn.defers=[]/\∃v,(results fn bn.tmps).run P w'= .ok v w'/\(fun(e:Ending) w'=> ∃v r ah bo,e= .returned v/\(∃o,Q r o/\ah=⟨[],[(.obj m,o)]⟩)/\bc w' bo r v/\Good (fun bl=>fq Z ⟨[],[]⟩ bl\/w.heap.size<=bl) w' bo ah.b ah.e/\pe bo ah/\iV ah/\qB ⟨w,Z,fq Z ⟨[],[]⟩,0,c3 ⟨[],[]⟩⟩ w' bo) (.returned v) w':=by
   refine⟨dp.defers,?_⟩;have iF:(results fn bn.tmps).run P w'= .ok (if h:n9.toArray.size=1 then n9.toArray[0]else .tuple n9.toArray) w':=by rw[Zx];simp only[fO,Array.mapM_eq_mapM_toList,Sem.run_map,g1,fT,gF]
   refine⟨_,iF,_,k3 k m (aT cE),⟨[],[(.obj m,o)]⟩,μ,rfl,⟨o,cZ,rfl⟩,?_,?_,?_,?_,?_⟩
   ·have ma:bc w' bo (aT cE) (if h:n9.toArray.size=1 then n9.toArray[0]else .tuple n9.toArray):=by
     match cE,n9,g2,Hm with
     |[p],[v],g2,_=>simp only[cT]at g2;obtain⟨u,ck,aq,aG,_⟩:=g2;cases aq;simpa[aT]using aG
     |[],[],g2,_=>simp[aT,bc,cT]
     |p::dv::cE,v::v2::n9,g2,_=>rw[dif_neg Ψ];simp only[aT,bc];exact⟨_,rfl,by simpa using g2⟩
     |[_],[],_,h=>simp at h
     |[],_::_,_,h=>simp at h
     |[_],_::_::_,_,h=>simp at h
     |_::_::_,[],_,h=>simp at h
     |_::_::_,[_],_,h=>simp at h
    refine OK (Z:=bo) (μ:=μ) (k:=k) (m:=m) ⟨fun b o h=>⟨h,rfl⟩,fun _ _ h=>h.elim,fun _ _ _ h=>h.elim,fun _ _ _=>rfl,fun _ _ _ h=>h.elim⟩ (fun n v h=>?_) _ _ cQ ma;simp[μ,h]
   ·have hW:∀g x,look g [(aM.obj m,o)]=some x->g= .obj m/\x=o:=fun g x h=>by
     simp only[look]at h;split at h
     ·rename_i e;exact⟨e.symm,(eH h).symm⟩
     ·cases h
    have Vd:∀g,(look g [(aM.obj m,o)]).isSome->g= .obj m:=fun g h=>by obtain⟨x,ad⟩:=fE.1 h;exact(hW g x ad).1
    refine⟨dp.good.alt,fun k cs ae=>(by simp[look]at ae),fun k bH bl J=>(by simp[look]at J),fun g x ah2=>?_,fun g fc n n' v v' bl J U _ _ _ _=>(by rw[Vd g J,Vd fc U]),fun g k n v bl J U=>(by simp[look]at U),fun _=>.inl rfl,fun _ _ _ _ h=>h⟩;obtain⟨rfl,rfl⟩:=hW g x ah2;exact⟨v,us,ajm,gR,pI,fun xs h=>by rw[hc]at h;cases h⟩
   ·intro j;refine⟨fun _=>rfl,fun h=>?_,fun _ _ h=>h⟩;have:j≠ .obj m:=fun e=>by subst e;simp[look]at h
    simp[μ,this]
   ·exact⟨fun _=>rfl,fun _=>by simp[look]⟩
   ·exact⟨dp.fr.os,dp.fr.tape,dp.fr.output,dp.fr.size,dp.fr.block,dp.fr.keep,dp.fr.fresh,fun n b h=>(by rw[Hu]at h;cases h),fun n b h=>(by rw[Hu]at h;cases h),fun m n u h=>(by rw[lO]at h;cases h),fun m n u h=>(by rw[lO]at h;cases h),fun _ _ _ _ _ h=>h.elim,fun _ _ _ h=>h.elim,fun _ _ _ h=>h.elim,dp.fr.sh⟩
  rcases sD with rfl|rfl<;>exact dz
end
end Go.Pv
namespace Go.Proofs.YtohaalphocaebaaGreat
section
open Go Go.Pv
open Classical in
theorem aqx{s b:List ai}(ag:ek s)(ab:ek b){E:List (T×T)}(hm:mgu s E=some b):bQ ax 125 [.slice 5 .no (s.map ai.e),.slice 5 .no (b.map ai.e),.bool true] (.tuple [.slice 5 .no ((dN s b).map ai.e),.int .i64 (wz s (some b))]):=by
 have aP:=PE s b ag.len;have bd:=aaj ag ab;have au:=Nx ag hm;simp only[wz];by_cases g:s=b
 ·rw[gx g]at aP;rw[if_pos (au.2 g),au.2 g];clear bd ag ab hm au g;refine bj fa K8 NR fun aR=>?_;unfold Ga;exact cp
 ·rw[h6 g]at aP;rw[if_neg fun h=>g (au.1 h)];generalize dN s b=w at bd;clear ag ab hm au g;refine bj fa K8 NR fun aR=>?_;unfold Ga;exact cp
theorem aqy(s:List ai):bQ ax 125 [.slice 5 .no (s.map ai.e),.slice 5 .no [],.bool false] (.tuple [.slice 5 .no [],.int .i64 1]):=by refine bj fa K8 NR fun aR=>?_;unfold Ga;exact cp
open Classical in
theorem apK{s:List ai}(ag:ek s){x y:T}(ad:x.fit=true)(aC:y.fit=true):bQ ax 51 [.slice 5 .no (s.map ai.e),x.e,y.e] (.tuple [.slice 5 .no ((Br s (mgu s [(x,y)])).map ai.e),.int .i64 (wz s (mgu s [(x,y)]))]):=by
 have c9:=oW ag;have aP:=xN ad;have bd:=xN aC;have bS:=aan ag ad aC;cases hm:mgu s [(x,y)]with
 |none=>rw[hm]at bS;have ea:=aqy s;clear ag ad aC hm;simp only[fh,kc,jG,oo,Br,wz]at bS⊢;refine bj fa TC XC fun aR=>?_;unfold Kb;exact cp
 |some b=>rw[hm]at bS;have ea:=aqx ag (ag.mgu (by simp[T.fit_ok ad,T.fit_ok aC]) hm) hm;simp only[Br];generalize wz s (some b)=c at ea;generalize dN s b=w at ea;clear ag ad aC hm;simp only[fh,jo,mV]at bS⊢;refine bj fa TC XC fun aR=>?_;unfold Kb;exact cp
def BB(s:bK):ak:= .agg [.int .i64 s.n,.slice 5 .no (s.b.map ai.e),.slice 1 (.own (.obj 841)) (s.d.map cH),.slice 2 .no (s.k.map ca.e),.slice 2 .no (s.m.map bs.e)]
theorem agE(s:bK)(ab:s.b.length<=1000000)(aF:∀x∈s.d,x.length<=1000000)(ae:s.k.length<=1000000)(hm:s.m.length<=68719470000):bI ax 49 [s.e] ⟨[],[]⟩ fun r ah=> ∃o,(r=BB s/\o=⟨s.d.length,23,1,none⟩)/\ah=⟨[],[(.obj 841,o)]⟩:=by
 obtain⟨n,b,d,k,m⟩:=s;simp only[bK.e,BB]at ab aF ae hm⊢;have j3:=Fh b ab;refine bI.ofN mixed fa TJ XJ Ψ (.loc 13) 841 fun aR=>?_;unfold Ki;have h1:d.length<=68719476736:=by simp[gI,fZ,gz,lim]at aR;omega
 clear aR;simp;(with_reducible repeat' first|refine aj ?_|refine aA j3 ?_|refine aB j3 ?_|simp);refine h0 (fun i (L:List (List ai))=>⟨[(1,.ptr (.loc 0) 0),(2,.ptr (.loc 1) 0),(3,.ptr (.loc 5) 0),(14,.slice 1 .no (d.map cH)),(15,.int .i64 d.length),(16,.int .i64 i)],[(.loc 0,[.int .i64 n,.slice 5 .no (b.map ai.e),.slice 1 .no (d.map cH),.slice 2 .no (k.map ca.e),.slice 2 .no (m.map bs.e)]),(.loc 1,[.int .i64 0,.slice 5 .nil [],.slice 1 .nil [],.slice 2 .nil [],.slice 2 .nil []]),(.loc 5,[.int .i64 n,.slice 5 .no (b.map ai.e),.slice 1 (.own (.loc 13)) (L.map cH),.slice 2 .nil [],.slice 2 .nil []])],[(.loc 13,⟨L.length,23,1,none⟩)],41,[]⟩) d.length (fun i L=>L=d.take i) [] bT Ψ (fun L af _=>?_) (fun i L hi af _=>?_)
 ·rw[k9]at af;subst af;simp;(with_reducible repeat' first|refine aj ?_|simp);all_goals first|(refine⟨by unfold lim;omega,?_⟩)|skip
  (with_reducible repeat' first|refine aj ?_|simp);all_goals refine⟨.inl rfl,?_⟩
  all_goals simp[Yu,aU,aW,aT,k3,uD,Pv.look,aJ,aN]
 ·obtain⟨x,ad,c6⟩:=ej hi;have mh:=aaq (aF x (dP ad));have av:L.length<=i:=by rw[af];simp;omega
  simp[hi,c6];(with_reducible repeat' first|refine aj ?_|refine aA mh ?_|refine aB mh ?_|simp[c6,hi]);all_goals first|(refine⟨by unfold lim;omega,?_⟩)|skip
  (with_reducible repeat' first|refine aj ?_|simp);refine bP.rng (L++[x]) hi (by rw[mP ad,af]) ?_;simp;exact⟨by simp[fresh,aN,aJ,cz,inObs,Pv.look,vB],eD (by simp[fresh,aN,aJ,cz,inObs,Pv.look,vB]),eE (by simp[fresh,aN,aJ,eg,inObs,Pv.look,vB]),Ψ⟩
open Classical in
theorem apI{s:bK}(h:mN s)(hm:mQ s.m){x y:T}(ad:x.fit=true)(aC:y.fit=true)(bx:ec s.n x=true)(hO:ec s.n y=true):bQ ax 13 [s.e,x.e,y.e] (jk (nf s x y)):=by
 have aP:=aas h hm ad aC bx hO;have bd:=apK h.1.b ad aC;have bS:=agE s h.1.b.len (fun z ba=>(h.1.d z ba).len) (by have:=oK h.1.k;omega) (hm.len h.1.m);obtain⟨G,hR,aX⟩:=hm;have aF:=aoN h.2;unfold nf;cases hu:mgu s.b [(x,y)]with
 |none=>rw[hu]at bd;have ea:=Ch h.1 hR aX;simp only;generalize e6 s=O at ea;clear h hu;obtain⟨n,b,d,k,m⟩:=s;simp only[bK.e,BB,Br,wz,jk,oo]at aP bd bS ea⊢;refine bj fa KY NH fun aR=>?_;unfold F0;clear aR;simp;(with_reducible repeat' first|refine aj ?_|refine aA aP ?_|refine aB aP ?_|refine aA bd ?_|refine aB bd ?_|simp);refine cO.new bS (dM.of vM Ψ Ψ) aL aL Ψ ?_;rintro r ah ⟨o,⟨rfl,rfl⟩,rfl⟩;refine⟨fun m hm=>.inr Ψ,?_⟩;simp[BB,cb];exact cp
 |some b1=>
  rw[hu]at bd;by_cases au:dN s.b b1=[]
  ·simp only[if_pos au];simp only[Br,wz,if_pos au,au,oo]at bd;clear h hu bS au;obtain⟨n,b,d,k,m⟩:=s;simp only[bK.e,jk,kc,jG,hs]at aP bd⊢;refine bj fa KY NH fun aR=>?_;unfold F0;exact cp
  ·simp only[if_neg au];simp only[Br,wz,if_neg au]at bd;have ea:=Ch (h.1.dif ad aC bx hO hu) hR aX;generalize dN s.b b1=w at bd ea;generalize e6 {s with d:=s.d++[w]}=O at ea;clear h hu;obtain⟨n,b,d,k,m⟩:=s;simp only[bK.e,BB,jk]at aP bd bS ea⊢;generalize qG:d++[w]=D at ea;have hw:cH w= .slice 5 .no (w.map ai.e):=rfl;refine bj fa KY NH fun aR=>?_;unfold F0;clear aR;simp only at aF;simp;(with_reducible repeat' first|refine aj ?_|refine aA aP ?_|refine aB aP ?_|refine aA bd ?_|refine aB bd ?_|simp);refine cO.new bS (dM.of vM Ψ Ψ) aL aL Ψ ?_;rintro r ah ⟨o,⟨rfl,rfl⟩,rfl⟩;refine⟨fun m hm=>.inr Ψ,?_⟩;simp[BB,cb];(with_reducible repeat' first|refine aj ?_|simp);all_goals first|(refine⟨by unfold lim;omega,?_⟩)|skip
   rw[<-hw,p6,Gp,qG];((with_reducible repeat' first|refine aj ?_|refine aA ea ?_|refine aB ea ?_|simp|((first|apply bL|apply bN|apply bM)<;>intro h<;>try simp at h))<;>(try exact cm));all_goals simp[bk,Yf,aU,aW,aT]
open Classical in
theorem aat{s:bK}(h:mN s)(hm:mQ s.m){x:T}(ad:x.fit=true)(bx:ec s.n x=true):bQ ax 47 [s.e,.slice 4 .no [x.e]] (.bool true):=by have:=aar s.r (fun _=>hm) [x.tm];rw[gx ⟨⟨s,rfl,h⟩,⟨[x],rfl,by simp[ad],fun t aH=>by rw[jT.1 aH];exact bx⟩⟩,Fa]at this;simpa[lj]using this
open Classical in
theorem apM{s:bK}(h:mN s)(hm:mQ s.m){x:T}(ad:x.fit=true)(bx:ec s.n x=true)(k:Int):bQ ax 14 [s.e,x.e,.int .i64 k] (jk (nu s x k)):=by
 have aP:=aat h hm ad bx;have bd:=aab h.1.b h.1.k x ad k;have bS:=PD s h.1.b.len (fun z ba=>(h.1.d z ba).len) (by have:=oK h.1.k;omega) (hm.len h.1.m);unfold nu;by_cases g:(k=2\/k=3)/\(x.ap (aY s.b)).size<=5000
 ·rw[if_pos g]at bd;rw[if_pos g];cases hu:hN s.k (x.ap (aY s.b)) k with
  |none=>rw[hu]at bd;clear h bS hu g;obtain⟨n,b,d,bH,m⟩:=s;simp only[bK.e,fS,jk,Option.bind_none,kc,jG,hs]at aP bd⊢;refine bj fa KZ NI fun aR=>?_;unfold F1;exact cp
  |some l=>rw[hu]at bd;obtain⟨G,hR,aX⟩:=hm;have ea:=Ch (h.1.knd ad bx g.1 hu) hR aX;rw[ij];generalize e6 {s with k:=l}=O at ea;clear h hu g;obtain⟨n,b,d,bH,m⟩:=s;simp only[bK.e,fS,jk,jo,mV]at aP bd bS ea⊢;refine bj fa KZ NI fun aR=>?_;unfold F1;exact cp
 ·rw[if_neg g];rw[if_neg g]at bd;clear h bS g;obtain⟨n,b,d,bH,m⟩:=s;simp only[bK.e,fS,jk,Option.bind_none,kc,jG,hs]at aP bd⊢;refine bj fa KZ NI fun aR=>?_;unfold F1;exact cp
open Classical in
theorem apR{s:bK}(h:mN s)(hm:zx s.m){x:T}(ad:x.fit=true)(bx:ec s.n x=true){g:List c0}(aX:ix g=true):bQ ax 16 [s.e,x.e,.str g] (jk (nz s x g)):=by
 have aP:=aat h hm.w ad bx;have av:=hm.w.len h.1.m;have bd:=aaa h.1.b h.1.m av x ad aX;have bS:=PD s h.1.b.len (fun z ba=>(h.1.d z ba).len) (by have:=oK h.1.k;omega) av;unfold nz;by_cases g1:(x.ap (aY s.b)).size<=5000
 ·rw[if_pos g1]at bd;rw[if_pos g1];cases hu:im s.m (x.ap (aY s.b)) g with
  |none=>rw[hu]at bd;clear h bS hu g1 av hm;obtain⟨n,b,d,bH,m⟩:=s;simp only[bK.e,ig,jk,Option.bind_none,kc,jG,hs]at aP bd⊢;refine bj fa K0 NJ fun aR=>?_;unfold F2;exact cp
  |some l=>rw[hu]at bd;obtain⟨G,hR,pq⟩:=hm.mrk hu;have ea:=Ch (h.1.mrk ad bx aX hu) hR pq;rw[ij];generalize e6 {s with m:=l}=O at ea;clear h hu g1 av hm;obtain⟨n,b,d,bH,m⟩:=s;simp only[bK.e,ig,jk,jo,mV]at aP bd bS ea⊢;refine bj fa K0 NJ fun aR=>?_;unfold F2;exact cp
 ·rw[if_neg g1];rw[if_neg g1]at bd;clear h bS g1 av hm;obtain⟨n,b,d,bH,m⟩:=s;simp only[bK.e,ig,jk,Option.bind_none,kc,jG,hs]at aP bd⊢;refine bj fa K0 NJ fun aR=>?_;unfold F2;exact cp
theorem O6{t:T}{m:Nat}(h:eF t<=m):t.size<=2*m-1:=by have:=Bj t;have:=WZ t;omega
theorem acZ{n:Nat}{s:bK}(h:gu s)(au:s.n=n){d:List ai}(aF:d∈s.d){c:ai}(ar:c∈d):c.v∈j2 n/\∀u,c.t.occ u=true->u∈j2 n:=by obtain⟨bC,a2⟩:=DP (h.d d aF).ok (h.db d aF) c ar;exact⟨H5.2 (by rw[<-au];exact bC),fun u hu=>H5.2 (by rw[<-au];exact a2 u hu)⟩
theorem ao5{n L m K:Nat}{s:bK}{E:List (T×T)}(bD:nB (j2 n) L E s)(ag:gu s)(au:s.n=n)(gU:1<=L){v:List ai}(hm:1<=m)(ay:∀u,eF (aY v u)<=m)(c4:L ^ n<=K)(ae:K*m<=2500):O9 s v:=fun d aF c ar=>by obtain⟨a1,bp⟩:=acZ ag au aF ar;have J:=(bD.d_lv (V4 n) gU aF ar a1 bp).1;rw[rI]at J;have U:=Bi (θ:=aY v) (t:=c.t) hm fun u _=>ay u;have ao:eF c.t*m<=2500:=gS (pV m (gS J c4)) ae;have:=O6 (gS U ao);omega
noncomputable def qp(s:bK)(k:Int)(a b:T):Option bK:=if k=0 then mz s a b else if k=1 then nf s a b else if k=2 then nu s a 3 else nz s b [98]
def sr(k:Int)(p q:T):Bool:=k==0&&decide (p=q)||k==1&& !decide (p=q)||k==2&&decide (p.kind=3)||k==3&& !(q.has [98])
theorem ak9{s:bK}{k:Int}{a b:T}:∃x y,(x=a\/x=b)/\(y=a\/y=b)/\qp s k a b=pZ s k x y 3 [98]:=by
 by_cases h:k=0\/k=1\/k=2
 ·exact⟨a,b,.inl rfl,.inr rfl,by unfold qp pZ;rcases h with rfl|rfl|rfl<;>rfl⟩
 ·exact⟨b,b,.inr rfl,.inr rfl,by have bE:¬k=0:=fun e=>h (.inl e);have J:¬k=1:=fun e=>h (.inr (.inl e));have U:¬k=2:=fun e=>h (.inr (.inr e));unfold qp pZ;simp only[if_neg bE,if_neg J,if_neg U]⟩
theorem Xx{n k:Nat}{s t:bK}(h:lh n k s){kd:Int}{a b:T}(bm:ng n a)(ab:ng n b)(he:qp s kd a b=some t):lh n (k+1) t:=by obtain⟨x,y,J,U,ao⟩:=ak9 (s:=s) (k:=kd) (a:=a) (b:=b);rw[ao]at he;exact h.add (by rcases J with rfl|rfl<;>assumption) (by rcases U with rfl|rfl<;>assumption) Ψ he
theorem WJ{n k:Nat}{s:bK}(h:lh n k s){x:T}(ad:ng n x)(au:2 ^ n<=1000):(x.ap (aY s.b)).size<=5000:=by
 obtain⟨E,c8⟩:=h.p;have U:=Bi (θ:=aY s.b) (t:=x) (m:=2 ^ n) (Nat.one_le_two_pow) fun u hu=>by have:=c8.b_lv (V4 n) Ω (H5.2 (ad.o u hu));rwa[rI]at this
 have ao:eF x*2 ^ n<=2*1000:=Nat.mul_le_mul ad.l au;have:=O6 (gS U ao);omega
theorem ala{n k:Nat}{s:bK}(h:lh n k s)(ae:k<=29)(au:2 ^ n<=1000){kd:Int}(mE:kd=0\/kd=1\/kd=2\/kd=3){a b:T}(bm:ng n a)(ab:ng n b){v:List ai}(ay:hY n v):
  match qp s kd a b with|some t=>js t (aY v)↔js s (aY v)/\sr kd (a.ap (aY v)) (b.ap (aY v))=true|none=> ¬(js s (aY v)/\sr kd (a.ap (aY v)) (b.ap (aY v))=true):=by
 have nU:=h.s.n;rw[<-nU]at ay;have eK:=h.k;have FT:=bm.b;have bb:=ab.b;rw[<-nU]at FT bb;rcases mE with rfl|rfl|rfl|rfl
 ·have:=adi h.s.ok.1 ay bm.f ab.f FT bb;show match mz s a b with|some t=>_|none=>_
  simp only[sr];cases e:mz s a b with
  |none=>rw[e]at this;simpa using this Ω
  |some t=>rw[e]at this;simpa using this
 ·have:=ac1 h.s.ok.1 ay bm.f ab.f FT bb;show match nf s a b with|some t=>_|none=>_
  simp only[sr];cases e:nf s a b with
  |none=>rw[e]at this;simpa using this Ω
  |some t=>rw[e]at this;simpa using this
 ·have:=akg h.s.ok.1 ay bm.f FT (k:=3) (.inr rfl) (WJ h bm au);show match nu s a 3 with|some t=>_|none=>_
  simp only[sr];cases e:nu s a 3 with
  |none=>rw[e]at this;simpa using this Ω
  |some t=>rw[e]at this;simpa using this
 ·have:=akZ h.s.ok.1 ay ab.f bb (g:=[98]) (by decide) (WJ h ab au);show match nz s b [98]with|some t=>_|none=>_
  simp only[sr];cases e:nz s b [98]with
  |none=>rw[e]at this;simpa using this Ω
  |some t=>rw[e]at this;simpa using this
def jP(x y z:T):List ai:=[⟨0,x⟩,⟨1,y⟩,⟨2,z⟩]
def u0(u:List T):List (List ai):=u.flatMap fun x=>u.flatMap fun y=>u.map fun z=>jP x y z
theorem abY(u:List T):ld u (j2 3) [[]]=u0 u:=by
 have:j2 3=[0,1,2]:=by rfl
 rw[this];simp only[ld,ext1,u0,jP,List.flatMap_cons,List.flatMap_nil,List.append_nil,List.flatMap_map,b4,List.flatMap_assoc,List.map_flatMap];simp[List.flatMap_map,List.flatMap_assoc,List.map_flatMap,Function.comp_def]
theorem acU{s:bK}(h:lh 3 5 s){kd:Int}(mE:kd=0\/kd=1\/kd=2\/kd=3){a b:T}(bm:ng 3 a)(ab:ng 3 b){u:List T}(hu:∀t∈u,t.fit=true/\t.gnd=true/\eF t<=3):
  ∀v∈u0 u,hY 3 v/\(match qp s kd a b with|some t=>(kJ t v↔kJ s v/\sr kd (a.ap (aY v)) (b.ap (aY v))=true)|none=> ¬(kJ s v/\sr kd (a.ap (aY v)) (b.ap (aY v))=true)):=fun v ay=>by
 simp only[u0,List.mem_flatMap,hG]at ay;obtain⟨x,ad,y,aC,z,ba,rfl⟩:=ay;have Hs:hY 3 (jP x y z):=hY.of (n:=3) Ω (u:=u) (fun t aH=>⟨(hu t aH).1,(hu t aH).2.1⟩) rfl fun b ab=>by simp only[jP,e7,List.mem_nil_iff,or_false]at ab;rcases ab with rfl|rfl|rfl<;>assumption
 have aiq:∀w,eF (aY (jP x y z) w)<=3:=fun w=>by
  unfold aY;cases e:df (jP x y z) w with
  |none=>simp[eF]
  |some t=>
   have:=jI e;simp only[jP,e7,List.mem_nil_iff,or_false,ai.mk.injEq]at this;rcases this with⟨_,rfl⟩|⟨_,rfl⟩|⟨_,rfl⟩
   ·exact(hu _ ad).2.2
   ·exact(hu _ aC).2.2
   ·exact(hu _ ba).2.2
 refine⟨Hs,?_⟩;have sm:∀{k t},lh 3 k t->O9 t (jP x y z):=fun{k t} aH=>by obtain⟨E,c8⟩:=aH.p;exact ao5 (m:=3) (K:=8) c8 aH.s.ok.1 aH.s.n Ω Ω aiq Ω Ω
 have J:=ala h Ω Ω mE bm ab Hs;have U:=ZM Hs.fits (sm h);cases e:qp s kd a b with
 |none=>rw[e]at J;rw[U];exact J
 |some t=>rw[e]at J;rw[U];exact(ZM Hs.fits (sm (Xx h bm ab e))).trans J
def gd(c:dA):Nat->List T×dA
 |0=>([],c)
 |i+1=>(nX (gd c i).1 (dZ (1+2*((gd c i).2.below 2).toNat) 0 (gd c i).2.next).1,(dZ (1+2*((gd c i).2.below 2).toNat) 0 (gd c i).2.next).2)
theorem Z5{c:dA}(h:c.ok):∀i,(gd c i).2.ok
 |0=>h
 |i+1=>Af _ _ _ (Z5 h i).next
theorem aju(l:List T)(t:T):(nX l t).length<=l.length+1:=by
 unfold nX;split
 ·omega
 ·simp[-bX,-bJ];omega
theorem Pw(c:dA):∀i,(gd c i).1.length<=i
 |0=>by simp[-bX,-bJ,gd]
 |i+1=>by simp only[gd];have:=aju (gd c i).1 (dZ (1+2*((gd c i).2.below 2).toNat) 0 (gd c i).2.next).1;have:=Pw c i;omega
def ajY(c:dA)(i:Nat)(_:Unit):Prop:=True
theorem agM(k1:Nat)(hm:0<k1/\k1<=256)(c:dA)(ar:c.ok):bI ax 73 [.ptr (.obj 401) 0,.int .i64 k1] (b8 c) fun r ah=>r= .slice 4 .no ((gd c.next (1+(c.below k1).toNat)).1.map T.e)/\ah=b8 (gd c.next (1+(c.below k1).toNat)).2:=by
 have ag:=fR c;have ab:=c.below_le k1 Ω;have kA:c.belowC k1=c.next:=by simp[-bX,-bJ,dA.belowC];omega
 obtain⟨n,au⟩:∃n:Nat,n=1+(c.below k1).toNat:=⟨_,rfl⟩;have qg:1+c.below k1=(n:Int):=Ω
 rw[<-au];refine bI.mk mixed B8 afX am1 (by simp[-bX,-bJ]) ag.obj fun aR cI=>?_;unfold SH;unfold b8;simp[-bX,-bJ];(refine cO.ob (vh c ar k1) (fR _) d9 d9 f9 ?_;rintro r ah ⟨rfl,rfl⟩;refine⟨hM _ _,?_⟩;unfold b8;simp[-bX,-bJ,cb]);rw[kA];(with_reducible repeat' first|refine aj ?_|simp[-bX,-bJ,qg]);refine h0 (fun i (_:Unit)=>⟨[(0,.ptr (.obj 401) 0),(5,.slice 4 .no ((gd c.next i).1.map T.e)),(6,.int .i64 (n-i))],[(.obj 401,(gd c.next i).2.e)],[],1,[.obj 401]⟩) n (ajY c.next) () ⟨by simp[-bX,-bJ,fresh,aN,aJ,cz,inObs,Pv.look,nt,gd],eD (by simp[-bX,-bJ,fresh,aN,aJ,cz,inObs,Pv.look,nt,gd]),eE (by simp[-bX,-bJ,fresh,aN,aJ,eg,inObs,Pv.look,nt,gd]),by simp[-bX,-bJ]⟩ trivial (fun _ _ _=>?_) (fun i _ hi _ _=>?_)
 ·simp[-bX,-bJ];(with_reducible repeat' first|refine aj ?_|simp[-bX,-bJ]);(refine cP.at (b8 ((gd c.next n).2)) (.inl rfl) (fR _) (hM _ _) d9 d9 ?_;simp[-bX,-bJ,cW,Y7,aU,aW,aT,b8])
 ·have iv:=Z5 ar.next i;have ae:=(gd c.next i).2.below_le 2 Ω;have ue:(gd c.next i).2.belowC 2=(gd c.next i).2.next:=by simp[-bX,-bJ,dA.belowC]
  have pA:=Pw c.next i;obtain⟨k,jZ⟩:∃k:Nat,k=((gd c.next i).2.below 2).toNat:=⟨_,rfl⟩;have LZ:(gd c.next i).2.below 2=(k:Int):=Ω
  have aid:(1+2*(k:Int))=((1+2*k:Nat):Int):=Ω
  have eW:(i:Int)<n:=Ω
  have vi:gd c.next (i+1)=(nX (gd c.next i).1 (dZ (1+2*k) 0 (gd c.next i).2.next).1,(dZ (1+2*k) 0 (gd c.next i).2.next).2):=by rw[jZ];rfl
  simp[-bX,-bJ,eW];(refine cO.ob (vh (gd c.next i).2 iv 2) (fR _) d9 d9 f9 ?_;rintro r ah ⟨rfl,rfl⟩;refine⟨hM _ _,?_⟩;unfold b8;simp[-bX,-bJ,cb]);rw[ue,LZ];(with_reducible repeat' first|refine aj ?_|simp[-bX,-bJ]);simp only[aid];(refine cO.ob (GH 0 Ω (1+2*k) Ω (gd c.next i).2.next iv.next) (fR _) d9 d9 f9 ?_;rintro r ah ⟨rfl,rfl⟩;refine⟨hM _ _,?_⟩;unfold b8;simp[-bX,-bJ,cb]);(with_reducible repeat' first|refine aj ?_|refine aA (aaF _ Ω _) ?_|refine aB (aaF _ Ω _) ?_|simp[-bX,-bJ]);have hx:(n:Int)-i-1=n-(i+1):=Ω
  refine bP.rng () hi trivial ⟨by simp[-bX,-bJ,fresh,aN,aJ,cz,inObs,Pv.look,nt,vi,hx],eD (by simp[-bX,-bJ,fresh,aN,aJ,cz,inObs,Pv.look,nt,vi,hx]),eE (by simp[-bX,-bJ,fresh,aN,aJ,eg,inObs,Pv.look,nt,vi,hx]),by simp[-bX,-bJ]⟩
theorem apW(d:List Int)(aF:rh d)(av:d.length<=10000000)(n:Nat)(au:n<=1000000)(k1:Nat)(hm:0<k1/\k1<=256):bQ ax 26 [.slice 1 .no (hP d),.int .i64 n,.int .i64 k1] (.slice 4 .no ((gd (gA d n).next (1+((gA d n).below k1).toNat)).1.map T.e)):=by refine bj B8 aft amx fun aR=>?_;unfold Sc;simp[-bX,-bJ];refine cO.new (GI d aF av n au) ((dM.of ⟨by intro m;simp[-bX,-bJ,Pv.look],by intro m;simp[-bX,-bJ,Pv.look]⟩ (by simp[-bX,-bJ,aN,aJ,inObs,Pv.look]) (by simp[-bX,-bJ,aN,aJ,inObs,Pv.look]))) aL aL (by simp[-bX,-bJ]) ?_;rintro r ah ⟨rfl,rfl⟩;refine⟨fun m _=>.inr (by simp[-bX,-bJ]),?_⟩;unfold b8;simp[-bX,-bJ,cb];(refine cO.ob (agM k1 hm _ (CK aF av n)) (fR _) d9 d9 f9 ?_;rintro r ah ⟨rfl,rfl⟩;refine⟨hM _ _,?_⟩;unfold b8;simp[-bX,-bJ,cb]);simp[-bX,-bJ,bk,YS,aU,aW,aT]
theorem yS(S:aM->Prop):∀a b:List ak,aN S (a++b)↔aN S a/\aN S b
 |[],b=>by simp[aN]
 |x::r,b=>by simp only[bZ,aN,yS S r b,and_assoc]
theorem zu:∀a b:List ak,c7 (a++b)=c7 a++c7 b
 |[],b=>by simp[c7]
 |x::r,b=>by simp[c7,zu r b]
def ta(b:Nat):Nat->Nat->Nat
 |0,out=>out
 |k+1,out=>if out<=512/\b≠1 then ta b k (out*b)else out
def BG(b n:Nat):Nat:=min (ta b n 1) 513
def ajX(b n:Nat)(i out:Nat):Prop:=out<=512*b/\ta b (n-i) out=ta b n 1
theorem aqv(b n:Nat)(ab:0<b/\b<=1000)(au:n<=1000000):bQ ax 82 [.int .i64 b,.int .i64 n] (.int .i64 (BG b n)):=by
 refine bj pO aeS alV fun aR=>?_;unfold Rz;simp;refine dT [0,1] (fun i (out:Nat)=>[(5,.int .i64 out),(6,.int .i64 i)]) n (ajX b n) 1 bT ⟨Ω,Ψ⟩ (fun out af _=>?_) (fun i out hi af _=>?_)
 ·obtain⟨J,U⟩:=af;simp[ta]at U;(with_reducible repeat' first|refine aj ?_|simp);simp[bk,IC,aU,aW,aT];simp[BG,<-U];omega
 ·obtain⟨J,U⟩:=af;have h2:ta b (n-i) out=if out<=512/\b≠1 then ta b (n-(i+1)) (out*b)else out:=by obtain⟨k,ae⟩:∃k,n-i=k+1:=⟨n-i-1,Ω⟩;rw[ae,show n-(i+1)=k by omega];rfl
  by_cases ar:out<=512/\b≠1
  ·rw[if_pos ar]at h2;have hmul:out*b<=512*b:=pV b ar.1;have L2:512*b<=512000:=Ω
   have L4:0<=((out:Int)*b)/\(out:Int)*b<=512000:=by
    have J:((out*b:Nat):Int)<=512000:=Ω
    have U:(0:Int)<=((out*b:Nat):Int):=Ω
    rw[Int.natCast_mul]at J U;exact⟨U,J⟩
   have wG:(out:Int)<=512:=Ω
   have pn:=ar.2;((with_reducible repeat' first|refine aj ?_|simp[hi,wG,pn]|((first|apply bL|apply bN|apply bM)<;>intro h<;>try simp at h))<;>(try exact cm));refine bP.rng (out*b) hi ⟨hmul,by rw[<-U,h2]⟩ bT
  ·rw[if_neg ar]at h2;have dz:BG b n=min out 513:=by unfold BG;rw[<-U,h2]
   by_cases wG:out<=512
   ·have pn:b=1:=Ω
    subst pn;((with_reducible repeat' first|refine aj ?_|simp[hi]|((first|apply bL|apply bN|apply bM)<;>intro h<;>try simp at h))<;>(try exact cm));simp[bk,IC,aU,aW,aT];rw[dz];omega
   ·((with_reducible repeat' first|refine aj ?_|simp[hi]|((first|apply bL|apply bN|apply bM)<;>intro h<;>try simp at h))<;>(try exact cm));all_goals simp[bk,IC,aU,aW,aT]
    all_goals rw[dz];omega
def ko(r:List ai):ak:= .slice 5 .no (r.map ai.e)
@[simp]theorem aur(S:aM->Prop)(r:List ai):aJ S (ko r)=True:=by simp[ko]
@[simp]theorem aut(r:List ai):eb (ko r)=ko r:=by simp[ko]
@[simp]theorem auv(S:aM->Prop)(l:List (List ai)):aN S (l.map ko)=True:=by
 apply eq_true;induction l with
 |nil=>simp
 |cons x r bR=>simp[aN,bR]
@[simp]theorem auw(l:List (List ai)):c7 (l.map ko)=l.map ko:=by
 induction l with
 |nil=>simp
 |cons x r bR=>simp[c7,bR]
@[simp]theorem aus(r:List ai):eR (ko r)=true:=rfl
@[simp]theorem auq(r:List ai):cells (ko r)=[ko r]:=rfl
def ajP(u:List T)(vars:List Int)(i:Nat)(rows:List (List ai)):Prop:=ld u (vars.drop i) rows=ld u vars [[]]/\rows.length=u.length ^ i
def V8(u:List T)(v:Int)(rows:List (List ai))(j:Nat)(acc:List (List ai)):Prop:=acc=(rows.take j).flatMap (ext1 u v)
def MJ(u:List T)(v:Int)(rows:List (List ai))(j:Nat)(r:List ai)(k:Nat)(acc:List (List ai)):Prop:=acc=(rows.take j).flatMap (ext1 u v)++ext1 (u.take k) v r
set_option maxRecDepth 8000 in
theorem ap3(vars:List Int)(u:List T)(hu:0<u.length/\u.length<=1000)(au:vars.length<=1000000)(ab:u.length ^ vars.length<=1000000)(DE:∀i rows,ld u (vars.drop i) rows=ld u vars [[]]->∀r∈rows,r.length<=1000000):bQ ax 83 [.slice 1 .no (dV vars),.slice 4 .no (u.map T.e)] (.slice 1 .no ((ld u vars [[]]).map ko)):=by
 have Vt:∀i,i<=vars.length->u.length ^ i<=1000000:=fun i hi=>gS (Nat.pow_le_pow_right hu.1 hi) ab;refine bj pO aeu alx fun aR=>?_;unfold Ra;simp;refine h0 (fun i (rows:List (List ai))=>⟨[(1,.slice 4 .no (u.map T.e)),(15,.slice 1 .no (dV vars)),(16,.int .i64 vars.length),(5,.slice 1 .no (rows.map ko)),(17,.int .i64 i)],[],[],2,[]⟩) vars.length (ajP u vars) [[]] ⟨by simp[fresh,aN,aJ,cz,inObs,Pv.look,ko],eD (by simp[fresh,aN,aJ,cz,inObs,Pv.look,ko]),eE (by simp[fresh,aN,aJ,eg,inObs,Pv.look,ko]),Ψ⟩ ⟨Ψ,Ψ⟩ (fun rows af _=>?_) (fun i rows hi af _=>?_)
 ·(with_reducible repeat' first|refine aj ?_|simp);simp[bk,Ym,aU,aW,aT];have J:=af.1;rw[List.drop_length]at J;simp[ld]at J;rw[J]
 ·obtain⟨v,ay⟩:∃v,vars[i]? =some v:=⟨_,bY hi⟩;have DJ:∀h,(dV vars)[i]'h= .int .i64 v:=fun h=>by simp only[dV,List.getElem_map];rw[bY hi]at ay;simp at ay;rw[ay]
  have aF:vars.drop i=v::vars.drop (i+1):=by rw[k8 hi];rw[bY hi]at ay;simp at ay;rw[ay]
  have Dz:=Vt (i+1) Ω;rw[Nat.pow_succ,<-af.2]at Dz;have Hm:rows.length<=1000000:=by rw[af.2];exact Vt i Ω
  (with_reducible repeat' first|refine aj ?_|simp[hi,DJ]);refine h0 (fun j (acc:List (List ai))=>⟨[(1,.slice 4 .no (u.map T.e)),(7,.int .i64 v),(15,.slice 1 .no (dV vars)),(16,.int .i64 vars.length),(17,.int .i64 i),(22,.slice 1 .no (rows.map ko)),(23,.int .i64 rows.length),(8,.slice 1 (.own (.loc 2)) (acc.map ko)),(24,.int .i64 j)],[],[(.loc 2,⟨acc.length,23,1,none⟩)],3,[]⟩) rows.length (V8 u v rows) [] bT rfl (fun acc dF _=>?_) (fun j acc LY dF _=>?_)
  ·have UE:acc=rows.flatMap (ext1 u v):=by rw[dF,k9]
   (with_reducible repeat' first|refine aj ?_|simp);refine bP.rng acc hi ⟨?_,?_⟩ bT
   ·rw[UE,<-af.1,aF];rfl
   ·rw[UE,C0,af.2,Nat.pow_succ]
  ·obtain⟨r,aK⟩:∃r,rows[j]? =some r:=⟨_,bY LY⟩;have l9:∀h,rows[j]'h=r:=fun h=>by rw[bY h]at aK;simpa using aK
   have asS:r.length<=1000000:=DE i rows af.1 r (dP aK);have ah9:(j+1)*u.length<=rows.length*u.length:=pV _ Ω;have qd:acc.length=j*u.length:=by rw[dF,C0,List.length_take,Nat.min_eq_left Ω]
   rw[o3,Nat.one_mul]at ah9;(with_reducible repeat' first|refine aj ?_|simp[LY,aK,l9]);refine h0 (fun k (acc:List (List ai))=>⟨[(1,.slice 4 .no (u.map T.e)),(7,.int .i64 v),(10,ko r),(15,.slice 1 .no (dV vars)),(16,.int .i64 vars.length),(17,.int .i64 i),(22,.slice 1 .no (rows.map ko)),(23,.int .i64 rows.length),(24,.int .i64 j),(28,.slice 4 .no (u.map T.e)),(29,.int .i64 u.length),(8,.slice 1 (.own (.loc 2)) (acc.map ko)),(30,.int .i64 k)],[],[(.loc 2,⟨acc.length,23,1,none⟩)],3,[]⟩) u.length (MJ u v rows j r) acc bT (by have J:acc=_:=dF;unfold MJ;rw[J];simp[ext1]) (fun FM lq _=>?_) (fun k FM sG lq _=>?_)
   ·(with_reducible repeat' first|refine aj ?_|simp);refine bP.rng FM LY ?_ bT;unfold V8;rw[lq,k9,q6,aK];simp
   ·obtain⟨t,aH⟩:∃t,u[k]? =some t:=⟨_,bY sG⟩;have ai4:∀h,u[k]'h=t:=fun h=>by rw[bY h]at aH;simpa using aH
    have asA:FM.length=j*u.length+k:=by
     have J:(rows.take j).length=j:=by simp;omega
     have U:(u.take k).length=k:=by simp;omega
     rw[lq,o0,C0,TB,J,U]
    have Hk:ko r= .slice 5 .no (r.map ai.e):=rfl;have Mg:ko (r++[⟨v,t⟩])= .slice 5 .no (r.map ai.e++[(ai.mk v t).e]):=by simp[ko]
    (with_reducible repeat' first|refine aj ?_|simp[sG,aH,ai4,Hk]);refine bP.rng (FM++[r++[⟨v,t⟩]]) sG ?_ ⟨by simp[fresh,aN,aJ,cz,inObs,Pv.look,Hk,Mg,zu,yS],eD (by simp[fresh,aN,aJ,cz,inObs,Pv.look,Hk,Mg,zu,yS]),eE (by simp[fresh,aN,aJ,eg,inObs,Pv.look,Hk,Mg,zu,yS]),Ψ⟩;unfold MJ;rw[lq,q6,aH];simp[ext1]
theorem Ya(b:Nat):∀n out,b≠1->ta b n out=og b n out
 |0,_,_=>rfl
 |n+1,out,h=>by
  unfold ta og;by_cases g:out<=512
  ·rw[if_pos ⟨g,h⟩,if_pos g,Ya b n _ h]
  ·rw[if_neg fun x=>g x.1,if_neg g]
theorem aaZ:∀n,og 1 n 1=1
 |0=>rfl
 |n+1=>by unfold og;simp[aaZ n]
theorem anp(b n:Nat):BG b n=min (og b n 1) 513:=by
 unfold BG;by_cases h:b=1
 ·subst h;rw[aaZ];have:∀n,ta 1 n 1=1:=fun n=>by cases n<;>simp[ta]
  rw[this]
 ·rw[Ya b n 1 h]
open Classical in
theorem aaO(l:List dL):bQ ax 78 [.slice 5 .no (l.map dL.e)] (.bool (decide (uX l))):=by have k:=aaD l;refine bj fa afy amC fun aR=>?_;unfold Sh;exact cp
open Classical in
theorem aqG{v:List ai}(ay:jQ v)(h3:fP v)(bm:hf v):bQ ax 78 [.slice 5 .no (v.map ai.e)] (.bool true):=by have ft:=aaO (v.map ai.b);rw[gx (uN.2 ⟨v,rfl,ay,bm,h3⟩),qU]at ft;exact ft
open Classical in
theorem aaN{v:List ai}(ay:jQ v)(h3:fP v)(bm:hf v){t:T}(aH:t.fit=true):bQ ax 231 [t.e,.slice 5 .no (v.map ai.e)] (.tuple [(if(t.ap (aY v)).size<=5000 then t.ap (aY v)else .nil).e,.bool (decide ((t.ap (aY v)).size<=5000))]):=by
 have dq:=Fk t.tm;rw[lj,bU.fits_T,aH]at dq;have ft:=aqG ay h3 bm;have aP:=zB v (by have:=h3.1;omega) t;have bd:=Fi (t.ap (aY v));generalize t.ap (aY v)=y at aP bd⊢;by_cases g:y.size<=5000
 ·rw[if_pos g];rw[gx g]at aP⊢;clear g h3 ay bm;refine bj fa TP XP fun aR=>?_;unfold Kt;exact cp
 ·rw[if_neg g];rw[h6 g]at aP⊢;clear g h3 ay bm;refine bj fa TP XP fun aR=>?_;unfold Kt;exact cp
theorem age{n:Int}(h:0<=n/\n<=100000):(T.var n).fit=true:=by simp[T.fit,T.ok,T.size,h]
open Classical in
theorem aqz{v:List ai}(ay:jQ v)(h3:fP v)(bm:hf v){d:List ai}(aF:ek d):bQ ax 168 [.slice 5 .no (d.map ai.e),.slice 5 .no (v.map ai.e)] (.bool (kN v d)):=by
 have c9:=PO aF;have yp:=aF.len;generalize bA:kN v d=R;refine bj fa afn amr fun aR=>?_;unfold R6;clear aR;simp;(with_reducible repeat' first|refine aj ?_|refine aA c9 ?_|refine aB c9 ?_|simp);refine dT [1,14,15] (fun i (_:Unit)=>[(16,.int .i64 i)]) d.length (kD (fun b=> !qK v b) d) () bT (fun k b ae=>Ω) (fun _ af _=>?_) (fun i _ hi af _=>?_)
 ·have:R=false:=by rw[<-bA,kN,List.any_eq_false];intro b ab;have:=af.fin b ab;simpa using this
  subst this;clear af bA c9;exact cp
 ·obtain⟨b,ab,cD⟩:=ej hi;have gK:=dP ab;have aP:=aaN ay h3 bm (age (aF.ok b gK).1);have bd:=aaN ay h3 bm (aF.fit b gK);have aq:((T.var b.v).ap (aY v)).size<=5000:=O4 h3 b.v;rw[if_pos aq,gx aq,show(T.var b.v).ap (aY v)=aY v b.v from rfl]at aP;have bS:=oX (aY v b.v) (b.t.ap (aY v));have cA:qK v b=(decide ((b.t.ap (aY v)).size<=5000)&& !decide (aY v b.v=b.t.ap (aY v))):=rfl;have gQ:qK v b=true->R=true:=fun h=>by rw[<-bA,kN,List.any_eq_true];exact⟨b,gK,h⟩
  have cB:=fun h:qK v b=false=>af.step ab (by rw[h];rfl);have hn:=ks b.v;clear af bA c9 ab aq gK aF ay h3 bm;generalize qK v b=H at cA gQ cB;by_cases ba:(b.t.ap (aY v)).size<=5000
  ·rw[if_pos ba,gx ba]at bd;rw[gx ba,Bool.true_and]at cA;generalize b.t.ap (aY v)=y at bd bS cA;generalize aY v b.v=x at aP bS cA;generalize decide (x=y)=q at bS cA;cases q
   ·have:=gQ cA;subst this;exact cp
   ·have au:=cB cA;exact gX
  ·rw[if_neg ba,h6 ba]at bd;rw[h6 ba,Bool.false_and]at cA;have au:=cB cA;clear bS cA;generalize aY v b.v=x at aP;exact gX
theorem ahh(t:T):t.gnd=true↔iy t []=[]:=by
 have J:∀t:T,t.gnd=true↔∀w,t.occ w=false:=by
  intro t;induction t with
  |var n=>simp[T.gnd,T.occ]
  |pair a b dJ dK=>simp only[T.gnd,T.occ,cr,Bool.or_eq_false_iff,dJ,dK];exact⟨fun h w=>⟨h.1 w,h.2 w⟩,fun h=>⟨fun w=>(h w).1,fun w=>(h w).2⟩⟩
  |_=>simp[T.gnd,T.occ]
 rw[J,List.eq_nil_iff_forall_not_mem];simp[Ef]
theorem aqA{t:T}(aH:t.fit=true):bQ ax 79 [t.e] (.bool t.gnd):=by
 have dq:=Fk t.tm;rw[lj,bU.fits_T,aH]at dq;have ep:t.size<=5000:=by simp only[T.fit,cr,en]at aH;exact aH.2
 have iT:=Cj t [];have ft:=Fj t [] (by simp;omega) (by simp[tD]);have Az:dV []=[]:=rfl;rw[Az]at ft;have aX:=ahh t;generalize iy t []=a7 at ft iT aX;cases a7 with
 |nil=>rw[aX.2 rfl];rw[Az]at ft;refine bj fa TQ XQ fun aR=>?_;unfold Ku;exact cp
 |cons w a7=>
  rw[show t.gnd=false from by rw[<-Bool.not_eq_true,aX];simp];have av:¬((a7.length:Int)+1=0):=Ω
  have oE:a7.length<=5000:=by simp at iT;omega
  clear aX iT ep aH;refine bj fa TQ XQ fun aR=>?_;unfold Ku;simp;(with_reducible repeat' first|refine aj ?_|refine aA dq ?_|refine aB dq ?_|refine aA ft ?_|refine aB ft ?_|simp[e5,av]);all_goals simp[bk,YQ,aU,aW,aT]
  all_goals omega
theorem aaM{t:T}(aH:t.fit=true)(s:List c0):bQ ax 29 [t.e,.str s] (.bool (t.has s)):=by have dq:=Fk t.tm;rw[lj,bU.fits_T,aH]at dq;have k:=Jv s t;refine bj fa afm amq fun aR=>?_;unfold R5;exact cp
def rX(u:List T)(i:Nat):Bool:=match u[i]? with
 |some t=>t.fit&&t.gnd&&(i==0||match u[i-1]? with|some s=>decide (du s t<0)|none=>true)
 |none=>true
def uniOk(u:List T):Bool:=decide (1<=u.length/\u.length<=8)&&(List.range u.length).all (rX u)
theorem Cb(u:List T):uniOk u=true↔(1<=u.length/\u.length<=8)/\∀k,k<u.length->rX u k=true:=by simp[uniOk]
def oV(l:List bU):Prop:= ∃u:List T,l=u.map T.tm/\uniOk u=true
theorem Py{u:List T}(h:uniOk u=true):∀t∈u,t.fit=true/\t.gnd=true:=fun t aH=>by obtain⟨i,hi⟩:=List.mem_iff_getElem?.1 aH;have:=((Cb u).1 h).2 i (eS.1 hi).1;simp only[rX,hi,cr]at this;exact this.1
structure sU (l:List bU) (i:Nat) (_:Unit):Prop where
 ex:∃u:List T,l.take i=u.map T.tm/\∀k,k<i->rX u k=true
theorem apz{u w:List T}{k:Nat}(ae:k<u.length):rX (u++w) k=rX u k:=by
 unfold rX;rw[List.getElem?_append_left ae];cases u[k]? with
 |none=>rfl
 |some t=>
  rcases Nat.eq_zero_or_pos k with rfl|h
  ·rfl
  ·simp only;rw[List.getElem?_append_left Ω]
theorem sU.step{l:List bU}{i:Nat}(h:sU l i ()){t:T}(aH:l[i]? =some t.tm)(bD:∀u:List T,l.take i=u.map T.tm->rX (u++[t]) i=true):sU l (i+1) ():=by
 obtain⟨u,J,U⟩:=h.ex;have av:u.length=i:=by have ao:=eP List.length J;have:=(eS.1 aH).1;simp at ao;omega
 refine⟨u++[t],by rw[mP aH,J,r6];rfl,fun k ae=>?_⟩;rcases(by omega:k<i\/k=i)with ao|rfl
 ·rw[apz Ω];exact U k ao
 ·exact bD u J
theorem sU.fin{l:List bU}(h:sU l l.length ())(av:1<=l.length/\l.length<=8):oV l:=by obtain⟨u,J,U⟩:=h.ex;rw[k9]at J;have ao:=eP List.length J;rw[r5]at ao;exact⟨u,J,(Cb u).2 ⟨Ω,fun k ae=>U k Ω⟩⟩
theorem sU.prev{l:List bU}{i:Nat}(h:sU l i ())(hi:0<i)(AJ:i<=l.length):∃s:T,l[i-1]? =some s.tm/\s.fit=true:=by
 obtain⟨u,J,U⟩:=h.ex;have av:u.length=i:=by have ao:=eP List.length J;simp at ao;omega
 have hu:u[i-1]? =some u[i-1]:=bY Ω;have a6:(l.take i)[i-1]? =some (T.tm u[i-1]):=by rw[J,q5,hu];rfl
 rw[List.getElem?_take,if_pos Ω]at a6;have b7:=U (i-1) Ω;simp only[rX,hu,cr]at b7;exact⟨_,a6,b7.1.1⟩
theorem oV.no{l:List bU}{i:Nat}{t:T}(aH:l[i]? =some t.tm)(bD:(t.fit&&t.gnd)=false):¬oV l:=fun⟨u,J,U⟩=>by subst J;rw[q5]at aH;obtain⟨s,ag,e⟩:=gm.1 aH;rw[zy e]at ag;have:=Py U t (dP ag);rw[this.1,this.2]at bD;cases bD
theorem oV.no2{l:List bU}{i:Nat}{s t:T}(hi:0<i)(ag:l[i-1]? =some s.tm)(aH:l[i]? =some t.tm)(bD:¬du s t<0):¬oV l:=fun⟨u,J,U⟩=>by
 subst J;rw[q5]at aH ag;obtain⟨ah,fe,e⟩:=gm.1 ag;obtain⟨dO,Mp,fF⟩:=gm.1 aH;rw[zy e]at fe;rw[zy fF]at Mp;have:=((Cb u).1 U).2 i (eS.1 Mp).1;simp only[rX,Mp,fe,cr,k6,dQ,en]at this;rcases this.2 with h|h
 ·omega
 ·exact bD h
theorem oV.no3{l:List bU}{t:bU}(aH:t∈l)(bD:t.fits=false):¬oV l:=fun⟨u,J,U⟩=>by subst J;obtain⟨s,ag,rfl⟩:=hG.1 aH;rw[bU.fits_T,(Py U s ag).1]at bD;cases bD
theorem oV.len{l:List bU}(h:oV l):1<=l.length/\l.length<=8:=by obtain⟨u,rfl,U⟩:=h;rw[r5];exact((Cb u).1 U).1
theorem sU.go{l:List bU}{i:Nat}(h:sU l i ()){t:T}(aH:l[i]? =some t.tm)(aQ:(t.fit&&t.gnd)=true)(aw:∀s:T,0<i->l[i-1]? =some s.tm->du s t<0):sU l (i+1) ():=
 h.step aH fun u hu=>by
  have AJ:=(eS.1 aH).1;have av:u.length=i:=by have ao:=eP List.length hu;simp at ao;omega
  have J:(u++[t])[i]? =some t:=by rw[<-av];simp
  simp only[rX,J,aQ,Bool.true_and,k6,dQ];rcases Nat.eq_zero_or_pos i with bE|bE
  ·exact .inl bE
  ·right;have ad:u[i-1]? =some u[i-1]:=bY Ω;rw[List.getElem?_append_left Ω,ad];have a6:(l.take i)[i-1]? =some (T.tm u[i-1]):=by rw[hu,q5,ad];rfl
   rw[List.getElem?_take,if_pos Ω]at a6;exact gx (aw _ bE a6)
theorem apN{t:T}(h:t.fit=true):bQ ax 169 [t.e] (.bool t.gnd):=by
 have dq:=xN h;have aP:=aav t;generalize t.gnd=q at aP;cases q;all_goals refine bj pO TE XE fun aR=>?_;unfold Kd
 all_goals simp
 all_goals(with_reducible repeat' first|refine aj ?_|refine aA dq ?_|refine aB dq ?_|refine aA aP ?_|refine aB aP ?_|simp)
 all_goals simp[bk,Yh,aU,aW,aT]
theorem apO{t:bU}(h:t.fits=false):bQ ax 169 [enc t] (.bool false):=by have dq:=Fg t;rw[h]at dq;refine bj pO TE XE fun aR=>?_;unfold Kd;exact cp
theorem V3(l:List T)(t:T):∀n,n<=l.length->(lv l t n=0\/ ∃x,l[lv l t n-1]? =some x/\du x t<0)/\∀j x,lv l t n<=j->j<n->l[j]? =some x->0<=du x t
 |0,_=>by simp[lv]
 |n+1,h=>by
  obtain⟨x,ad⟩:∃x,l[n]? =some x:=⟨_,bY Ω⟩;simp only[lv,ad];by_cases aw:0<=du x t
  ·rw[if_pos aw];obtain⟨J,U⟩:=V3 l t n Ω;refine⟨J,fun j y dF lq aC=>?_⟩;rcases(by omega:j<n\/j=n)with ao|rfl
   ·exact U j y dF ao aC
   ·rw[ad]at aC;cases aC;exact aw
  ·rw[if_neg aw];refine⟨.inr ⟨x,by simpa using ad,Ω⟩,fun j y dF lq=>Ω⟩
theorem JH{l:List T}(h:gT du l){i j:Nat}{x y:T}(lp:i<j)(ad:l[i]? =some x)(aC:l[j]? =some y):du x y<0:=by obtain⟨hi,rfl⟩:=eS.1 ad;obtain⟨af,rfl⟩:=eS.1 aC;exact o2.1 h i j hi af lp
theorem ajt{l:List T}(h:gT du l)(t:T):gT du (nX l t)/\∀x,x∈nX l t↔x∈l\/x=t:=by
 obtain⟨k,ae⟩:∃k,k=lv l t l.length:=⟨_,rfl⟩;have gl:k<=l.length:=by rw[ae];exact V2 l t _
 obtain⟨J,U⟩:=V3 l t l.length (eu _);unfold nX;rw[<-ae]at J U⊢;split
 ·rename_i he;have hm:t∈l:=dP he;exact⟨h,fun x=>⟨fun ad=>.inl ad,fun ad=>by rcases ad with ad|rfl;exact ad;exact hm⟩⟩
 ·rename_i he;have wP:∀x∈l.take k,du x t<0:=by
   intro x ad;obtain⟨i,hi,rfl⟩:=List.mem_iff_getElem.1 ad;have vp:i<k:=by simp at hi;omega
   rcases J with J|⟨y,aC,sP⟩
   ·omega
   ·simp only[List.getElem_take];rcases(by omega:i<k-1\/i=k-1)with ao|rfl
    ·exact Ex.ltr (JH h ao (bY Ω) aC) Ω
    ·rw[bY Ω]at aC;simp at aC;rw[aC];exact sP
  have wL:∀x∈l.drop k,du t x<0:=by
   intro x ad;obtain⟨i,hi,rfl⟩:=List.mem_iff_getElem.1 ad;simp at hi;simp only[List.getElem_drop];have hj:l[k+i]? =some l[k+i]:=bY Ω;have ao:=U (k+i) l[k+i] Ω Ω hj;have a6:=Ew t l[k+i];rcases(by omega:du t l[k+i]<0\/du t l[k+i]=0)with b7|b7
   ·exact b7
   ·exfalso;have dd:=(qY _ _).1 b7;rcases Nat.eq_zero_or_pos i with rfl|eW
    ·apply he;rw[dd];simpa using hj
    ·obtain⟨y,aC⟩:∃y,l[k]? =some y:=⟨_,bY Ω⟩;have ed:=JH h (show k<k+i by omega) aC hj;have ll:=U k y (eu _) Ω aC;rw[<-dd]at ed;omega
  have aiN:gT du (l.take k++t::l.drop k):=by
   unfold gT;rw[List.pairwise_append];refine⟨h.sublist (List.take_sublist k l),?_,?_⟩
   ·rw[mU];exact⟨wL,h.sublist (List.drop_sublist k l)⟩
   ·intro x ad y aC;rcases e7.1 aC with rfl|aC
    ·exact wP x ad
    ·exact Ex.ltr (wP x ad) (by have:=wL y aC;omega)
  refine⟨aiN,fun x=>?_⟩;conv=>rhs;rw[<-List.take_append_drop k l]
  simp only[iz,e7];constructor
  ·rintro(h|rfl|h)
   ·exact .inl (.inl h)
   ·exact .inr rfl
   ·exact .inl (.inr h)
  ·rintro((h|h)|rfl)
   ·exact .inl h
   ·exact .inr (.inr h)
   ·exact .inr (.inl rfl)
theorem ahg(t:T):t.gnd=true↔∀v,t.occ v=false:=by
 induction t with
 |var n=>simp[T.gnd,T.occ]
 |pair a b dJ dK=>simp only[T.gnd,T.occ,cr,Bool.or_eq_false_iff,dJ,dK];exact⟨fun h v=>⟨h.1 v,h.2 v⟩,fun h=>⟨fun v=>(h v).1,fun v=>(h v).2⟩⟩
 |_=>simp[T.gnd,T.occ]
structure Cu (u:List T):Prop where
 asc:gT du u
 el:∀x∈u,x.ok=true/\x.gnd=true/\x.size<=5
theorem Z4(c:dA):∀i,Cu (gd c i).1/\(0<i->(gd c i).1≠[])
 |0=>⟨⟨aq2,by simp[gd]⟩,Ω⟩
 |i+1=>by
  obtain⟨⟨J,U⟩,_⟩:=Z4 c i;have ab:=(gd c i).2.below_le 2 Ω;obtain⟨k,ae⟩:∃k:Nat,k=((gd c i).2.below 2).toNat:=⟨_,rfl⟩;obtain⟨d1,d2,d3⟩:=Tk 0 Ω (1+2*k) (gd c i).2.next
  have vi:(gd c (i+1)).1=nX (gd c i).1 (dZ (1+2*k) 0 (gd c i).2.next).1:=by rw[ae];rfl
  rw[vi];generalize (dZ (1+2*k) 0 (gd c i).2.next).1=t at*;obtain⟨f1,f2⟩:=ajt J t;refine⟨⟨f1,fun x ad=>?_⟩,fun _ e=>?_⟩
  ·rcases(f2 x).1 ad with ad|rfl
   ·exact U x ad
   ·refine⟨d1,(ahg x).2 fun v=>?_,by simp at d3;omega⟩;cases ay:x.occ v with
    |false=>rfl
    |true=>have:=d2 v ay;omega
  ·have:=(f2 t).2 (.inr rfl);rw[e]at this;simp at this
theorem Cu.fit{u:List T}(h:Cu u){x:T}(ad:x∈u):x.fit=true:=by have:=h.el x ad;simp only[T.fit,cr,en];exact⟨this.1,Ω⟩
theorem Cu.uniOk{u:List T}(h:Cu u)(av:1<=u.length/\u.length<=8):uniOk u=true:=by
 rw[Cb];refine⟨av,fun k ae=>?_⟩;have hm:u[k]∈u:=List.getElem_mem ae;simp only[rX,bY ae];rcases Nat.eq_zero_or_pos k with rfl|eW
 ·simp[h.fit hm,(h.el _ hm).2.1]
 ·rw[bY (by omega:k-1<u.length)];have:=JH h.asc (show k-1<k by omega) (bY Ω) (bY ae);simp[h.fit hm,(h.el _ hm).2.1,this]
open Classical in
theorem ap2(l:List bU):bQ ax 81 [.slice 4 .no (l.map enc)] (.bool (decide (oV l))):=by
 generalize bA:decide (oV l)=R;have cB:¬oV l->R=false:=fun h=>by rw[<-bA,gn];exact h
 have gQ:oV l->R=true:=fun h=>by rw[<-bA,en];exact h
 clear bA;by_cases g1:l.length<1
 ·rw[cB fun h=>by have:=h.len;omega];have jK:(l.length:Int)<1:=Ω
  refine bj pO K1 NK fun aR=>?_;unfold F3;exact cp
 have jK:¬(l.length:Int)<1:=Ω
 by_cases g2:8<l.length
 ·rw[cB fun h=>by have:=h.len;omega];have ry:(8:Int)<(l.length:Int):=Ω
  refine bj pO K1 NK fun aR=>?_;unfold F3;exact cp
 have ry:¬(8:Int)<(l.length:Int):=Ω
 refine bj pO K1 NK fun aR=>?_;unfold F3;clear aR;simp;(with_reducible repeat' first|refine aj ?_|simp[jK,ry,g1,g2]);refine dT [0,13,14] (fun i (_:Unit)=>[(15,.int .i64 i)]) l.length (sU l) () bT ⟨[],Ψ,fun k ae=>Ω⟩ (fun _ af _=>?_) (fun i _ hi af _=>?_)
 ·rw[gQ (af.fin Ω)];clear af cB gQ;exact cp
 ·obtain⟨t,aH⟩:∃t,l[i]? =some t:=⟨_,bY hi⟩;cases g:t.fits
  ·have lu:∀h,(l[i]'h)=t:=fun h=>by rw[bY hi]at aH;exact eH aH
   have aP:=apO g;rw[cB (oV.no3 (dP aH) g)];clear af aH cB gQ;exact cp
  obtain⟨x,rfl,ad⟩:=bU.fits_ex g;have lu:∀h,(l[i]'h)=x.tm:=fun h=>by rw[bY hi]at aH;exact eH aH
  have aP:=apN ad;cases g2:x.gnd
  ·rw[g2]at aP;rw[cB (oV.no aH (by rw[g2,Bool.and_false]))];clear af aH cB gQ;simp[hi,lu,lj];(with_reducible repeat' first|refine aj ?_|refine aA aP ?_|refine aB aP ?_|simp[hi,lu,lj]);all_goals simp[bk,Ob,aU,aW,aT]
  rw[g2]at aP;have dR:=af.go aH (by rw[ad,g2];rfl);rcases Nat.eq_zero_or_pos i with bE|bE
  ·subst bE;have au:=dR fun s h=>absurd h Ω;clear af aH cB gQ dR;simp[hi,lu,lj];(with_reducible repeat' first|refine aj ?_|refine aA aP ?_|refine aB aP ?_|simp[hi,lu,lj]);all_goals exact bP.rng () hi au bT
  ·obtain⟨s,ag,_⟩:=af.prev bE Ω;have fV:∀h,(l[i-1]'h)=s.tm:=fun h=>by rw[bY h]at ag;exact eH ag
   have aq:((i:Int)-1).toNat=i-1:=Ω
   have aG:i-1<l.length:=Ω
   have bG:(0:Int)<i:=Ω
   have di:(0:Int)<=(i:Int)-1:=Ω
   have bd:=zC s x;by_cases aw:du s x<0
   ·have au:=dR fun ah _ fe=>by rw[ag]at fe;rw[<-zy (eH fe)];exact aw
    have hb:¬0<=du s x:=Ω
    clear af aH cB gQ dR ag;generalize du s x=c at bd aw hb;simp[hi,lu,lj];(with_reducible repeat' first|refine aj ?_|refine aA aP ?_|refine aB aP ?_|refine aA bd ?_|refine aB bd ?_|simp[hi,lu,lj,aq,aG,bG,di,fV,hb,bE]);all_goals exact bP.rng () hi au bT
   ·rw[cB (oV.no2 bE ag aH aw)];have hb:0<=du s x:=Ω
    clear af aH cB gQ dR ag;generalize du s x=c at bd aw hb;simp[hi,lu,lj];(with_reducible repeat' first|refine aj ?_|refine aA aP ?_|refine aB aP ?_|refine aA bd ?_|refine aB bd ?_|simp[hi,lu,lj,aq,aG,bG,di,fV,hb,bE]);all_goals simp[bk,Ob,aU,aW,aT]
open Classical in
theorem aqs{s:bK}(ag:gu s){v:List ai}(ay:hY s.n v):bQ ax 80 [s.e,.slice 5 .no (v.map ai.e)] (.bool (decide (kJ s v))):=by
 generalize bA:decide (kJ s v)=R;have iT:v.length<=1000000:=by have:=ay.fits.1;omega
 have ky:=jQ.fit ay.ok ay.fits;obtain⟨n,tf,q0,ti,sm⟩:=s;have cB:¬kJ ⟨n,tf,q0,ti,sm⟩ v->R=false:=fun h=>by rw[<-bA,gn];exact h
 have gQ:kJ ⟨n,tf,q0,ti,sm⟩ v->R=true:=fun h=>by rw[<-bA,en];exact h
 clear bA;have lN:=ag.b;have fm:=lN.len;have cI:=ag.bb;have iG:=ag.d;have rE:=ag.k;have qJ:=ag.kb;have oG:=ag.mb;have wR:=ag.m;have gl:=oK rE;simp only at lN fm cI iG rE qJ oG wR gl ay;clear ag;simp only[bK.e];refine bj fa af7 anb fun aR=>?_;unfold SR;have yp:q0.length<=68719476736:=by simp[gI,fZ,gz,lim]at aR;omega
 have l6:sm.length<=68719476736:=by simp[gI,fZ,gz,lim]at aR;omega
 clear aR;simp;(with_reducible repeat' first|refine aj ?_|simp);refine dT [1,2,22,23] (fun i (_:Unit)=>[(24,.int .i64 i)]) tf.length (kD (oN v) tf) () bT (fun k b ae=>Ω) (fun _ af _=>?_) (fun i _ hi af _=>?_);rotate_left
 ·obtain⟨b,ab,cD⟩:=ej hi;have gK:=dP ab;obtain⟨c,ar,aX,mc⟩:=ay.get (lN.ok b (dP ab)).1.1 (cI b (dP ab)).1;have aP:=r1 v b.v iT;rw[aX]at aP;simp only[jo,mV]at aP;have bd:=zB v iT b.t;have bS:=oX c.t (b.t.ap (aY v));have cA:oN v b=(decide ((b.t.ap (aY v)).size<=5000)&&decide (c.t=b.t.ap (aY v))):=by rw[oN,mc];congr 1;exact decide_eq_decide.2 eq_comm
  have e8:oN v b=false->R=false:=fun h=>cB fun cd=>by have:=fy.1 cd.b b gK;rw[h]at this;cases this
  have dR:=fun h:oN v b=true=>af.step ab h;clear af ab gK cB gQ ay ky aX ar mc;generalize oN v b=H at cA e8 dR;by_cases ba:(b.t.ap (aY v)).size<=5000
  ·rw[gx ba]at bd;rw[gx ba,Bool.true_and]at cA;generalize b.t.ap (aY v)=y at bd bS cA;generalize decide (c.t=y)=q at bS cA;cases q
   ·rw[e8 cA];exact cp
   ·have au:=dR cA;exact gX
  ·rw[h6 ba]at bd;rw[h6 ba,Bool.false_and]at cA;rw[e8 cA];generalize b.t.ap (aY v)=y at bd;clear bS;exact cp
 have iR:tf.all (oN v)=true:=fy.2 af.fin;clear af;simp;(with_reducible repeat' first|refine aj ?_|simp);refine dT [1,2,52,53] (fun i (_:Unit)=>[(54,.int .i64 i)]) q0.length (kD (kN v) q0) () bT (fun k b ae=>Ω) (fun _ af _=>?_) (fun i _ hi af _=>?_);rotate_left
 ·obtain⟨b,ab,cD⟩:=ej hi;have gK:=dP ab;have aP:bQ ax 168 [cH b,.slice 5 .no (v.map ai.e)] (.bool (kN v b)):=aqz ay.ok ay.fits ay.asc (iG b gK);have e8:kN v b=false->R=false:=fun h=>cB fun cd=>by have:=fy.1 cd.d b gK;rw[h]at this;cases this
  have dR:=fun h:kN v b=true=>af.step ab h;clear af ab gK cB gQ ay ky;generalize kN v b=q at aP e8 dR;cases q
  ·rw[e8 rfl];exact cp
  ·have au:=dR rfl;exact gX
 have qG:q0.all (kN v)=true:=fy.2 af.fin;clear af;simp;(with_reducible repeat' first|refine aj ?_|simp);refine dT [1,2,64,65] (fun i (_:Unit)=>[(66,.int .i64 i)]) ti.length (kD (fun k=>decide ((aY v k.v).kind=k.k)) ti) () bT (fun k b ae=>Ω) (fun _ af _=>?_) (fun i _ hi af _=>?_);rotate_left
 ·obtain⟨b,ab,cD⟩:=ej hi;have gK:=dP ab;obtain⟨c,ar,aX,mc⟩:=ay.get (rE.at' b (dP ab)).1.1 (qJ b (dP ab));have aP:=r1 v b.v iT;rw[aX]at aP;simp only[jo,mV]at aP;by_cases g:c.t.kind=b.k
  ·have au:=af.step ab (by rw[mc];exact gx g);clear af ab gK cB gQ ay ky aX ar mc;exact gX
  ·rw[cB fun cd=>by have:=fy.1 cd.k b gK;rw[mc]at this;exact g (of_decide_eq_true this)]
   clear af ab gK cB gQ ay ky aX ar mc;simp[hi,cD];((with_reducible repeat' first|refine aj ?_|refine aA aP ?_|refine aB aP ?_|simp[cD,hi,g]|((first|apply bL|apply bN|apply bM)<;>intro h<;>try simp at h))<;>(try exact cm));all_goals simp[bk,Y8,aU,aW,aT]
 have c4:ti.all (fun k=>decide ((aY v k.v).kind=k.k))=true:=fy.2 af.fin;clear af;simp;(with_reducible repeat' first|refine aj ?_|simp);refine dT [1,84,85] (fun i (_:Unit)=>[(86,.int .i64 i)]) sm.length (kD (fun m=> !(aY v m.v).has m.s) sm) () bT (fun k b ae=>Ω) (fun _ af _=>?_) (fun i _ hi af _=>?_);rotate_left
 ·obtain⟨b,ab,cD⟩:=ej hi;have gK:=dP ab;obtain⟨c,ar,aX,mc⟩:=ay.get (wR.at' b (dP ab)).1.1 (oG b (dP ab));have aP:=r1 v b.v iT;rw[aX]at aP;simp only[jo,mV]at aP;have bd:=aaM (ky c (dP ar)) b.s;cases g:c.t.has b.s
  ·rw[g]at bd;have au:=af.step ab (by rw[mc,g];rfl);clear af ab gK cB gQ ay ky aX ar mc;exact gX
  ·rw[g]at bd;rw[cB fun cd=>by have:=fy.1 cd.m b gK;rw[mc,g]at this;cases this]
   clear af ab gK cB gQ ay ky aX ar mc;exact cp
 rw[gQ ⟨iR,qG,c4,fy.2 af.fin⟩];clear af;exact cp
def Pa(r:mv)(l:List dL):Prop:= ∃s:bK,r=s.r/\mN s/\w2 s l
theorem ZI{s:bK}(h:mN s)(l:List dL):Pa s.r l↔w2 s l:=by
 constructor
 ·rintro⟨ah,e,_,U⟩;rw[bK.r_inj e];exact U
 ·intro U;exact⟨s,rfl,h,U⟩
open Classical in
theorem aqB(r:mv)(gC:ji r.m->mQ r.m)(l:List dL):bQ ax 30 [r.e,.slice 5 .no (l.map dL.e)] (.bool (decide (Pa r l))):=by
 have c9:=aqF r gC;by_cases g:pM r;rotate_left
 ·rw[h6 g]at c9;rw[h6 fun⟨s,J,U,_⟩=>g ⟨s,J,U⟩];obtain⟨n,b,d,k,m⟩:=r;simp only[mv.e]at c9⊢;refine bj fa Gx Ie fun aR=>?_;unfold CG;exact cp
 rw[gx g]at c9;obtain⟨s,rfl,ag⟩:=g;have e:decide (Pa s.r l)=decide (w2 s l):=decide_eq_decide.2 (ZI ag l);rw[e];rw[Fa]at c9⊢;have ft:=aaO l;generalize bA:decide (w2 s l)=R;by_cases g1:uX l;rotate_left
 ·rw[h6 g1]at ft;have:R=false:=by rw[<-bA,gn];rintro⟨v,rfl,h,_⟩;exact g1 (uN.2 ⟨v,rfl,h.ok,h.asc,h.fits⟩)
  subst this;clear bA g1 ag;obtain⟨n,b,d,k,m⟩:=s;simp only[bK.e]at c9 ft⊢;refine bj fa Gx Ie fun aR=>?_;unfold CG;exact cp
 rw[gx g1]at ft;obtain⟨v,rfl,pC,qj,h3⟩:=uN.1 g1;clear g1;rw[qU]at ft⊢;by_cases g2:(v.length:Int)=s.n;rotate_left
 ·have:R=false:=by rw[<-bA,gn];rintro⟨w,e,h,_⟩;rw[p4 e]at g2;exact g2 h.len
  subst this;have ry:s.n≠(v.length:Int):=fun h=>g2 h.symm;clear bA ag pC qj h3;obtain⟨n,b,d,k,m⟩:=s;simp only[bK.e]at c9 ft g2 ry⊢;refine bj fa Gx Ie fun aR=>?_;unfold CG;simp;((with_reducible repeat' first|refine aj ?_|refine aA c9 ?_|refine aB c9 ?_|refine aA ft ?_|refine aB ft ?_|simp[g2,ry]|((first|apply bL|apply bN|apply bM)<;>intro h<;>try simp at h))<;>(try exact cm));all_goals simp[bk,Om,aU,aW,aT]
 have cB:¬(hY s.n v/\kJ s v)->R=false:=fun h=>by rw[<-bA,gn];rintro⟨w,e,J,U⟩;rw[p4 e]at h;exact h ⟨J,U⟩
 have gQ:hY s.n v->decide (kJ s v)=R:=fun J=>by rw[<-bA];exact decide_eq_decide.2 ⟨fun U=>⟨v,rfl,J,U⟩,fun⟨w,e,_,U⟩=>by rw[p4 e];exact U⟩
 clear bA;have iT:v.length<=1000000:=by have:=h3.1;omega
 have ky:=jQ.fit pC h3;have D0:=fun ay:hY s.n v=>aqs ag.1 ay;obtain⟨n,tf,q0,ti,sm⟩:=s;simp only[bK.e]at g2 cB gQ D0 c9⊢;subst g2;clear ag;refine bj fa Gx Ie fun aR=>?_;unfold CG;clear aR;simp;(with_reducible repeat' first|refine aj ?_|refine aA c9 ?_|refine aB c9 ?_|refine aA ft ?_|refine aB ft ?_|simp);refine dT [1,2,22,23] (fun i (_:Unit)=>[(24,.int .i64 i)]) v.length (DW v) () bT (fun k b ae=>Ω) (fun _ af _=>?_) (fun i _ hi af _=>?_);rotate_left
 ·obtain⟨b,ab,cD⟩:=ej hi;have aP:=aqA (ky b (dP ab));clear D0 gQ c9 ft pC qj h3 ky;by_cases g:b.v=(i:Int)/\b.t.gnd=true
  ·have au:=af.step ab g;obtain⟨g1,g2⟩:=g;rw[g2]at aP;clear af ab cB;exact gX
  ·rw[cB fun h=>g ⟨h.1.at' _ _ ab,h.1.gnd _ (dP ab)⟩];clear af ab cB;by_cases g1:b.v=(i:Int)
   ·have g2:b.t.gnd=false:=by
     cases e:b.t.gnd with
     |false=>rfl
     |true=>exact absurd ⟨g1,e⟩ g
    rw[g2]at aP;exact cp
   ·simp[hi,cD];((with_reducible repeat' first|refine aj ?_|simp[cD,hi,g1]|((first|apply bL|apply bN|apply bM)<;>intro h<;>try simp at h))<;>(try exact cm));all_goals simp[bk,Om,aU,aW,aT]
 have ay:hY v.length v:=⟨pC,qj,h3,rfl,fun i b ab=>(af i b (eS.1 ab).1 ab).1,fun b ab=>by obtain⟨i,hi⟩:=List.mem_iff_getElem?.1 ab;exact(af i b (eS.1 hi).1 hi).2⟩
 have D0:=D0 ay;rw[gQ ay]at D0;clear af ft c9 gQ cB ay;exact cp
open Classical in
noncomputable def Gl(s:bK)(u:List T):Int:=if s.n<=400/\og u.length s.n.toNat 1<=512 then((ld u (j2 s.n.toNat) [[]]).countP fun v=>decide (kJ s v):Nat)else-1
theorem MI:dV (j2 0)=[]:=rfl
theorem MH(i:Nat):dV (j2 (i+1))=dV (j2 i)++[.int .i64 i]:=by simp[j2,dV,List.range_succ]
theorem V6{s:bK}{v:List ai}(h:hY s.n v):w2 s (v.map ai.b)↔kJ s v:=by
 constructor
 ·rintro⟨w,e,_,U⟩;rw[p4 e];exact U
 ·intro U;exact⟨v,rfl,h,U⟩
open Classical in
theorem apH{s:bK}(ag:mN s)(hm:mQ s.m){u:List T}(hu:uniOk u=true):bQ ax 31 [s.e,.slice 4 .no (u.map T.e)] (.int .i64 (Gl s u)):=by
 have c9:=aam s.r fun _=>hm;rw[gx ⟨s,rfl,ag⟩,Fa]at c9;have D2:=ap2 (u.map T.tm);rw[gx ⟨u,rfl,hu⟩,To]at D2;have pA:=((Cb u).1 hu).1;have VJ:=Py hu;obtain⟨n,au⟩:∃n:Nat,s.n=n:=⟨s.n.toNat,by have:=ag.1.n.1;omega⟩;have qf:=ag.1.n.2;have VE:=fun aix v J U=>hY.of (n:=n) aix VJ (r:=v) J U;have hl:=aqv u.length n Ω Ω;rw[anp]at hl;have nY:=fun v=>ap6 ag.1 (List.map ai.b v);have wF:∀v,hY s.n v->decide (w2 s (List.map ai.b v))=decide (kJ s v):=fun v h=>decide_eq_decide.2 (V6 h);unfold Gl;rw[au]at qf wF⊢;rw[Int.toNat_natCast];have qg:n<=100000:=Ω
 clear qf ag hm hu;generalize bD:(fun v=>decide (kJ s v))=p;have Dz:∀v,decide (kJ s v)=p v:=fun v=>by rw[<-bD]
 clear bD;obtain⟨tl,b,d,k,m⟩:=s;simp only at au;subst au;simp only[bK.e]at c9 nY⊢;by_cases g1:n<=400;rotate_left
 ·rw[if_neg fun h=>g1 Ω];have jK:(400:Int)<n:=Ω
  clear nY wF Dz hl;refine bj fa KX NG fun aR=>?_;unfold FZ;clear aR;exact cp
 have jK:¬(400:Int)<n:=Ω
 by_cases g2:og u.length n 1<=512;rotate_left
 ·rw[if_neg fun h=>g2 h.2];rw[show min (og u.length n 1) 513=513 by omega]at hl;clear nY wF Dz g2;refine bj fa KX NG fun aR=>?_;unfold FZ;clear aR;exact cp
 rw[if_pos ⟨Ω,g2⟩];rw[show min (og u.length n 1) 513=og u.length n 1 by omega]at hl;have hw:=aa0 Ω n 1 g2;rw[Nat.one_mul]at hw;have e9:=ap3 (j2 n) u Ω (by rw[rI];omega) (by rw[rI,<-hw];omega) fun i rows h r aK=>gS (abZ Ω h aK) (by rw[rI];omega);have Lz:(ld u (j2 n) [[]]).length<=512:=by rw[QA,rI,<-hw];simpa using g2
 have LA:∀v∈ld u (j2 n) [[]],hY (n:Int) v:=fun v ay=>by obtain⟨q,bt,w,rfl,U,ao⟩:=J2 u (j2 n) [[]] v ay;rw[jT.1 bt,b4];exact VE g1 w U ao
 generalize ld u (j2 n) [[]]=A at e9 Lz LA⊢;clear hw VE VJ;generalize og u.length n 1=w at hl g2;have ry:¬(512:Int)<w:=Ω
 generalize bA:A.countP p=R;refine bj fa KX NG fun aR=>?_;unfold FZ;clear aR;simp;(with_reducible repeat' first|refine aj ?_|refine aA c9 ?_|refine aB c9 ?_|refine aA D2 ?_|refine aB D2 ?_|refine aA hl ?_|refine aB hl ?_|simp[jK,ry]);refine h0 (fun i (_:Unit)=>⟨[(1,.slice 4 .no (u.map T.e)),(2,.ptr (.loc 0) 0),(5,.slice 1 (.own (.loc 1)) (dV (j2 i))),(6,.int .i64 i)],[(.loc 0,[.int .i64 n,.slice 5 .no (b.map ai.e),.slice 1 .no (d.map cH),.slice 2 .no (k.map ca.e),.slice 2 .no (m.map bs.e)])],[(.loc 1,⟨i,3,1,none⟩)],2,[]⟩) n (fun _ _=>True) () ⟨by simp[fresh,aN,aJ,cz,inObs,Pv.look,MI],eD (by simp[fresh,aN,aJ,cz,inObs,Pv.look,MI]),eE (by simp[fresh,aN,aJ,eg,inObs,Pv.look,MI]),Ψ⟩ trivial (fun _ _ _=>?_) (fun i _ hi _ _=>?_);rotate_left
 ·have J:=rI i;have ln:(i:Int)<n:=Ω
  simp[hi,ln];(with_reducible repeat' first|refine aj ?_|simp[hi,ln,HB,rI]);all_goals first|(refine⟨by unfold lim;omega,?_⟩)|skip
  all_goals(with_reducible repeat' first|refine aj ?_|simp)
  all_goals refine bP.rng () hi trivial ?_
  all_goals exact⟨by simp[fresh,aN,aJ,cz,inObs,Pv.look,MH,HB,rI,yS,zu],eD (by simp[fresh,aN,aJ,cz,inObs,Pv.look,MH,HB,rI,yS,zu]),eE (by simp[fresh,aN,aJ,eg,inObs,Pv.look,MH,HB,rI,yS,zu]),Ψ⟩
 simp;(with_reducible repeat' first|refine aj ?_|refine aA e9 ?_|refine aB e9 ?_|simp);refine dT [2,44,45] (fun i (c:Nat)=>[(7,.int .i64 c),(46,.int .i64 i)]) A.length (fun i c=>c<=i/\c=(A.take i).countP p) 0 bT ⟨Ω,Ψ⟩ (fun c af _=>?_) (fun i c hi af _=>?_)
 ·rw[k9,bA]at af;obtain⟨_,rfl⟩:=af;clear nY wF e9 c9 D2 hl;exact cp
 ·obtain⟨v,ay,nW⟩:=ej hi;have aP:=nY v;rw[wF v (LA v (dP ay)),Dz,qU,show ak.slice 5 .no (v.map ai.e)=ko v from rfl]at aP;have ar:=acV p A ay;obtain⟨dF,lq⟩:=af;rw[<-lq]at ar;clear nY wF e9 c9 D2 hl ay LA bA;cases bt:p v
  ·rw[bt]at aP ar;have au:c<=i+1/\c=(A.take (i+1)).countP p:=⟨Ω,by rw[ar];simp⟩;simp[hi,nW];((with_reducible repeat' first|refine aj ?_|refine aA aP ?_|refine aB aP ?_|simp[hi,nW]|((first|apply bL|apply bN|apply bM)<;>intro h<;>try simp at h))<;>(try exact cm));all_goals exact bP.rng c hi au bT
  ·rw[bt]at aP ar;have au:c+1<=i+1/\c+1=(A.take (i+1)).countP p:=⟨Ω,by rw[ar];simp⟩;simp[hi,nW];((with_reducible repeat' first|refine aj ?_|refine aA aP ?_|refine aB aP ?_|simp[hi,nW]|((first|apply bL|apply bN|apply bM)<;>intro h<;>try simp at h))<;>(try exact cm));all_goals exact bP.rng (c+1) hi au bT
open Classical in
noncomputable def zX(s:bK)(kd:Int)(a b:T)(v:List ai):Bool:=sr kd (a.ap (aY v)) (b.ap (aY v))&&decide (kJ s v)
theorem aqP{n:Nat}(h:n<=3):og n 3 1<=512:=by rcases(by omega:n=0\/n=1\/n=2\/n=3)with rfl|rfl|rfl|rfl<;>decide
theorem acW{s:bK}(h:lh 3 5 s){kd:Int}(mE:kd=0\/kd=1\/kd=2\/kd=3){a b:T}(bm:ng 3 a)(ab:ng 3 b){u:List T}(hu:∀t∈u,t.fit=true/\t.gnd=true/\eF t<=3)(av:u.length<=3):
  match qp s kd a b with|some t=>mN t/\mQ t.m/\Gl t u=((u0 u).countP (zX s kd a b):Nat)|none=>(u0 u).countP (zX s kd a b)=0:=by
 have ar:=acU h mE bm ab hu;cases e:qp s kd a b with
 |none=>simp only[e]at ar⊢;rw[List.countP_eq_zero];intro v ay bD;simp only[zX,cr,en]at bD;exact(ar v ay).2 ⟨bD.2,bD.1⟩
 |some t=>
  simp only[e]at ar⊢;have aH:=Xx h bm ab e;refine⟨aH.s.ok,aH.s.tg.w,?_⟩;have au:t.n=3:=aH.s.n;have qg:t.n.toNat=3:=Ω
  unfold Gl;rw[qg,if_pos ⟨Ω,aqP av⟩,abY];congr 1;refine List.countP_congr fun v ay=>?_;simp only[zX,cr,en];exact((ar v ay).2).trans and_comm
theorem apC(d:List Int):∃u:List T,u=(gd (gA d 60).next (1+((gA d 60).below 3).toNat)).1/\uniOk u=true/\u.length<=3/\∀t∈u,t.fit=true/\t.gnd=true/\eF t<=3:=by
 have ab:=(gA d 60).below_le 3 Ω;obtain⟨J,U⟩:=Z4 (gA d 60).next (1+((gA d 60).below 3).toNat)
 have ao:=Pw (gA d 60).next (1+((gA d 60).below 3).toNat)
 have a6:=U Ω;refine⟨_,rfl,?_,Ω,fun t aH=>⟨J.fit aH,(J.el t aH).2.1,?_⟩⟩
 ·have:1<=(gd (gA d 60).next (1+((gA d 60).below 3).toNat)).1.length:=by
   rcases Nat.eq_zero_or_pos (gd (gA d 60).next (1+((gA d 60).below 3).toNat)).1.length with h|h
   ·exact absurd (List.length_eq_zero_iff.1 h) a6
   ·exact h
  exact J.uniOk ⟨this,Ω⟩
 ·have:=(J.el t aH).2.2;have:=Bj t;omega
theorem abL{n:Nat}{v:List ai}(ay:hY n v)(av:∀w,eF (aY v w)<=3){t:T}(aH:ng n t):(t.ap (aY v)).fit=true:=by
 have J:=Bi (θ:=aY v) (t:=t) (m:=3) Ω fun u _=>av u;have U:=aH.l;have ao:eF t*3<=6:=Ω
 have:=O6 (gS J ao);simp only[T.fit,cr,en];exact⟨BY ay.ok (T.fit_ok aH.f),Ω⟩
def tx(u:List T)(x y:T):List (List ai):=u.map fun z=>jP x y z
def Fu(u:List T)(x:T):List (List ai):=u.flatMap fun y=>tx u x y
theorem abI(u:List T):u0 u=u.flatMap fun x=>Fu u x:=rfl
theorem S5{α:Type}(p:List ai->Bool)(f:α->List (List ai))(l:List α){i:Nat}{x:α}(h:l[i]? =some x):((l.take (i+1)).flatMap f).countP p=((l.take i).flatMap f).countP p+(f x).countP p:=by rw[mP h,List.flatMap_append,List.countP_append];simp
theorem acT{α:Type}(p:List ai->Bool)(f:α->List ai)(l:List α){i:Nat}{x:α}(h:l[i]? =some x):((l.take (i+1)).map f).countP p=((l.take i).map f).countP p+(p (f x)).toNat:=by rw[mP h,r6,List.countP_append];simp[V7,List.countP_cons]
theorem akT(x y z:T):(jP x y z).map ai.e=[(ai.mk 0 x).e,(ai.mk 1 y).e,(ai.mk 2 z).e]:=rfl
theorem aag(l:List ai)(av:l.length<=1000000)(t:T):bQ ax 27 [t.e,.slice 5 .no (l.map ai.e)] (t.ap (aY l)).e:=by have:=apX l av t;rwa[Pm]at this
open Classical in
theorem aqC{s:bK}(h:mN s)(hm:mQ s.m){n:Nat}(au:s.n=n){v:List ai}(ay:hY n v):bQ ax 30 [s.e,.slice 5 .no (v.map ai.e)] (.bool (decide (kJ s v))):=by rw[<-au]at ay;have:=aqB s.r (fun _=>hm) (v.map ai.b);rw[decide_eq_decide.2 ((ZI h _).trans (V6 ay)),Fa]at this;rwa[qU]at this
theorem akU{x y z:T}(ad:x.fit=true/\x.gnd=true/\eF x<=3)(aC:y.fit=true/\y.gnd=true/\eF y<=3)(ba:z.fit=true/\z.gnd=true/\eF z<=3):hY (3:Nat) (jP x y z)/\∀w,eF (aY (jP x y z) w)<=3:=by
 refine⟨hY.of (n:=3) Ω (u:=[x,y,z]) (fun t aH=>?_) rfl fun b ab=>?_,fun w=>?_⟩
 ·simp only[e7,List.mem_nil_iff,or_false]at aH;rcases aH with rfl|rfl|rfl
  ·exact⟨ad.1,ad.2.1⟩
  ·exact⟨aC.1,aC.2.1⟩
  ·exact⟨ba.1,ba.2.1⟩
 ·simp only[jP,e7,List.mem_nil_iff,or_false]at ab;rcases ab with rfl|rfl|rfl<;>simp
 ·unfold aY;cases e:df (jP x y z) w with
  |none=>simp[eF]
  |some t=>
   have:=jI e;simp only[jP,e7,List.mem_nil_iff,or_false,ai.mk.injEq]at this;rcases this with⟨_,rfl⟩|⟨_,rfl⟩|⟨_,rfl⟩
   ·exact ad.2.2
   ·exact aC.2.2
   ·exact ba.2.2
open Classical in
theorem aac(d:List Int)(aF:rh d):bQ ax 6 [.slice 1 .no (hP d)] (.bool true):=by
 by_cases Df:1048576<d.length
 ·have cD:(1048576:Int)<d.length:=Ω
  refine bj B8 TN XN fun aR=>?_;unfold Km;exact cp
 ·have av:d.length<=10000000:=Ω
  have ahF:¬(1048576:Int)<d.length:=Ω
  have dy:=apV d aF av 0 Ω 3 Ω;have qe:=akv d 0 (n:=3) Ω;generalize Ec d 0 3=s at dy qe;have vi:bQ ax 26 [.slice 1 .no (hP d),.int .i64 60,.int .i64 3] (.slice 4 .no ((gd (gA d 60).next (1+((gA d 60).below 3).toNat)).1.map T.e)):=apW d aF av 60 Ω 3 Ω;obtain⟨u,hu,ai6,pA,Hq⟩:=apC d;rw[<-hu]at vi;clear hu;have bg:bQ ax 11 [.slice 1 .no (hP d),.int .i64 80,.int .i64 3,.int .i64 3] (dZ 3 3 (gA d 80)).1.e:=aaf d aF av 80 Ω 3 Ω 3 Ω;have Ck:=Ae (n:=3) Ω (z:=3) Ω (gA d 80);generalize (dZ 3 3 (gA d 80)).1=a at bg Ck;have iR:bQ ax 11 [.slice 1 .no (hP d),.int .i64 100,.int .i64 4,.int .i64 3] (dZ 4 3 (gA d 100)).1.e:=aaf d aF av 100 Ω 4 Ω 3 Ω;have zG:=Ae (n:=3) Ω (z:=4) Ω (gA d 100);generalize (dZ 4 3 (gA d 100)).1=b at iR zG;have jY:=apU d aF av 120 Ω;have cg:=(gA d 120).byte_le;have cc:=(gA d 120).next.byte_le;generalize ba:(gA d 120).byte*256+(gA d 120).next.byte=z0 at jY;have VO:0<=z0:=Ω
  have Vf:0<=z0.tmod 4:=Int.tmod_nonneg 4 VO;have Dt:z0.tmod 4<4:=Int.tmod_lt_of_pos z0 Ω;obtain⟨kd,Ds⟩:∃kd,z0.tmod 4=kd:=⟨_,rfl⟩;rw[Ds]at Vf Dt;have mE:kd=0\/kd=1\/kd=2\/kd=3:=Ω
  clear ba cg cc VO Vf Dt;have ok:=qe.s.ok;have tg:=qe.s.tg.w;have nU:s.n=(3:Nat):=qe.s.n;have yn:=acW qe mE Ck zG Hq pA;have FR:=Ck.b;have lI:=zG.b;rw[show(3:Int)=s.n from nU.symm]at FR lI;have Vq:∀v,zX s kd a b v=(sr kd (a.ap (aY v)) (b.ap (aY v))&&decide (kJ s v)):=fun _=>rfl;generalize zX s kd a b=p at yn Vq;obtain⟨o,aw⟩:∃o,o=qp s kd a b:=⟨_,rfl⟩;have Wl:kd=0->bQ ax 12 [s.e,a.e,b.e] (jk o):=fun h=>by subst h;rw[aw,show qp s 0 a b=mz s a b from rfl];exact apL ok tg Ck.f zG.f FR lI
  have Wm:kd=1->bQ ax 13 [s.e,a.e,b.e] (jk o):=fun h=>by subst h;rw[aw,show qp s 1 a b=nf s a b from rfl];exact apI ok tg Ck.f zG.f FR lI
  have Wn:kd=2->bQ ax 14 [s.e,a.e,.int .i64 3] (jk o):=fun h=>by subst h;rw[aw,show qp s 2 a b=nu s a 3 from rfl];exact apM ok tg Ck.f FR 3
  have Wo:kd=3->bQ ax 16 [s.e,b.e,.str [98]] (jk o):=fun h=>by subst h;rw[aw,show qp s 3 a b=nz s b [98]from rfl];exact apR ok qe.s.tg zG.f lI (g:=[98]) (by decide)
  have vz:(o.isSome=true->bQ ax 31 [(o.getD hs).e,.slice 4 .no (u.map T.e)] (.int .i64 ((u0 u).countP p:Nat)))/\(o.isSome=false->(u0 u).countP p=0):=by
   rw[<-aw]at yn;cases o with
   |none=>exact⟨fun h=>by simp at h,fun _=>yn⟩
   |some t=>exact⟨fun _=>by have:=apH yn.1 yn.2.1 ai6;rwa[yn.2.2]at this,fun h=>by simp at h⟩
  rcases mE with rfl|rfl|rfl|rfl;all_goals
   first|have mh:=Wl rfl|have mh:=Wm rfl|have mh:=Wn rfl|have mh:=Wo rfl
   clear Wl Wm Wn Wo
   simp only[jk]at mh
   clear aw yn
   generalize o.isSome=q at mh vz
   generalize o.getD hs=w at mh vz
   simp only[bK.e]at dy mh vz⊢
   refine bj B8 TN XN fun aR=>?_;unfold Km
   simp
   (with_reducible repeat' first|refine aj ?_|refine aA dy ?_|refine aB dy ?_|refine aA vi ?_|refine aB vi ?_|refine aA bg ?_|refine aB bg ?_|refine aA iR ?_|refine aB iR ?_|refine aA jY ?_|refine aB jY ?_|refine aA mh ?_|refine aB mh ?_|simp[Ds,ahF])
   refine dT [3,4,5,6,7,8,9,70,71] (fun i (c:Nat)=>[(10,.int .i64 c),(72,.int .i64 i)]) u.length (fun i c=>c<=100*i/\c=((u.take i).flatMap fun x=>Fu u x).countP p) 0 bT ⟨Ω,Ψ⟩ (fun c af _=>?_) (fun i c hi af _=>?_)
   ·have af:=af.2
    rw[k9,<-abI]at af
    rw[<-af]at vz
    cases q with
    |true=>
     have vz:=vz.1 rfl
     exact cp
    |false=>
     have vz:=vz.2 rfl
     have G0:(c:Int)=0:=Ω
     clear af vz
     generalize (c:Int)=cq at G0⊢
     subst G0
     exact cp
   ·obtain⟨tV,af⟩:=af
    obtain⟨x,jv⟩:∃y,u[i]? =some y:=⟨_,bY hi⟩
    have UI:∀h,(u[i]'h)=x:=fun h=>by rw[bY hi]at jv;exact eH jv
    have ad:=Hq x (dP jv)
    have kA:=S5 p (fun x=>Fu u x) u jv
    rw[<-af]at kA
    clear af
    simp[hi,UI]
    (with_reducible repeat' first|refine aj ?_|simp[hi,UI])
    refine dT [3,4,5,6,7,8,9,12,70,71,72,76,77] (fun j (cu:Nat)=>[(10,.int .i64 cu),(78,.int .i64 j)]) u.length (fun j cu=>cu<=100*i+10*j/\cu=c+((u.take j).flatMap fun y=>tx u x y).countP p) c bT ⟨Ω,Ψ⟩ (fun cu af _=>?_) (fun j cu dF af _=>?_)
    ·obtain⟨pn,af⟩:=af
     rw[k9]at af
     have bt:cu=((u.take (i+1)).flatMap fun x=>Fu u x).countP p:=by rw[kA,af];rfl
     have qg:cu<=100*(i+1)/\cu=((u.take (i+1)).flatMap fun x=>Fu u x).countP p:=⟨Ω,bt⟩
     clear bt af kA
     simp
     (with_reducible repeat' first|refine aj ?_|simp)
     refine bP.rng cu hi qg ?_
     exact bT
    ·obtain⟨pn,af⟩:=af
     obtain⟨y,vk,UJ⟩:=ej dF
     have aC:=Hq y (dP vk)
     have AQ:=S5 p (fun y=>tx u x y) u vk
     clear kA
     simp[dF,UJ]
     (with_reducible repeat' first|refine aj ?_|simp[dF,UJ])
     refine dT [3,4,5,6,7,8,9,12,14,70,71,72,76,77,78,82,83] (fun k (dg:Nat)=>[(10,.int .i64 dg),(84,.int .i64 k)]) u.length (fun k dg=>dg<=100*i+10*j+k/\dg=cu+((tx u x y).take k).countP p) cu bT ⟨Ω,Ψ⟩ (fun dg ae _=>?_) (fun k dg fH ae _=>?_)
     ·obtain⟨rA,ae⟩:=ae
      rw[gw (show(tx u x y).length<=u.length by simp[tx])]at ae
      have bt:dg=c+((u.take (j+1)).flatMap fun y=>tx u x y).countP p:=by rw[AQ,ae,af,Nat.add_assoc]
      have qg:dg<=100*i+10*(j+1)/\dg=c+((u.take (j+1)).flatMap fun y=>tx u x y).countP p:=⟨Ω,bt⟩
      clear bt ae af AQ
      simp
      (with_reducible repeat' first|refine aj ?_|simp)
      refine bP.rng dg dF qg ?_
      exact bT
     ·obtain⟨rA,ae⟩:=ae
      obtain⟨z,GY⟩:∃y,u[k]? =some y:=⟨_,bY fH⟩
      have UK:∀h,(u[k]'h)=z:=fun h=>by rw[bY fH]at GY;exact eH GY
      have ba:=Hq z (dP GY)
      have aiH:((tx u x y).take (k+1)).countP p=((tx u x y).take k).countP p+(p (jP x y z)).toNat:=by unfold tx;rw[<-List.map_take,<-List.map_take];exact acT p (fun z=>jP x y z) u GY
      have hm:=akU ad aC ba
      have HM:=aag (jP x y z) (by simp[jP]) a
      have HN:=aag (jP x y z) (by simp[jP]) b
      have nY:=aqC ok tg nU hm.1
      have D1:=aqH (a.ap (aY (jP x y z))) (b.ap (aY (jP x y z)))
      have HJ:=aaM (abL hm.1 hm.2 zG) [98]
      have kT:=Vq (jP x y z)
      simp only[akT]at HM HN nY
      generalize a.ap (aY (jP x y z))=bn at HM D1 kT
      generalize b.ap (aY (jP x y z))=b1 at HN D1 HJ kT
      generalize decide (kJ s (jP x y z))=sl at nY kT
      clear hm AQ
      simp only[sr]at kT
      generalize decide (bn=b1)=g0 at D1 kT
      obtain⟨g2,aX⟩:∃g,(bn.kind==3)=g:=⟨_,rfl⟩
      rw[show decide (bn.kind=3)=g2 from aX]at kT
      generalize b1.has [98]=g3 at HJ kT
      first
       |(have bE:z0.tmod 4=0:=Ds;cases g0)
       |(have bE:z0.tmod 4=1:=Ds;cases g0)
       |(have bE:z0.tmod 4=2:=Ds;cases g2)
       |cases g3
      all_goals(cases sl)
      all_goals(try simp at kT)
      all_goals rw[kT]at aiH
      all_goals(have t1:true.toNat=1:=rfl)
      all_goals(have t0:false.toNat=0:=rfl)
      all_goals simp only[bK.e]at nY
      all_goals simp[fH,UK]
      all_goals(with_reducible repeat' first|refine aj ?_|refine aA HM ?_|refine aB HM ?_|refine aA HN ?_|refine aB HN ?_|refine aA nY ?_|refine aB nY ?_|refine aA D1 ?_|refine aB D1 ?_|refine aA HJ ?_|refine aB HJ ?_|simp[fH,UK,aX])
      all_goals first
       |exact bP.rng dg fH ⟨Ω,Ω⟩ bT
       |exact bP.rng (dg+1) fH ⟨Ω,Ω⟩ bT
end
section
open Go Go.Pv Go.ChangeShapes Go.WideShapes Go.ChangeAt Go.RowKit
theorem aow:ownKnob ax.godebug=none:=by kernel_rfl
theorem aov:laidOutB ax=true:=by kernel_rfl
theorem acf:ax.cellsOf 5=1:=by kernel_rfl
theorem QP(w:World)(Z:be):∀xs:List Int,dD w Z 1 (hP xs) (xs.map (Value.int .u8))
 |[]=>by simp[hP,dD]
 |x::xs=>by simp only[hP,ht,dD];exact⟨.int .u8 x,_,rfl,⟨by simp[bc],rfl,by intro c ar;simp[pS]at ar;subst ar;rfl⟩,QP w Z xs⟩
def Ah(b off n:Nat):be:=⟨fun b1 o=>b1=b/\off<=o/\o<off+n,fun _=>none,fun _=>none,fun _ _ _=>eB⟩
theorem Bd(w:World)(A:Nat->Nat->Prop)(b:Nat):∀(us:List Value) (off:Nat),(∀i u,us[i]? =some u->A b (off+i)/\w.cell? ⟨b,off+i,none⟩=some u)->mj w A b off us
 |[],_,_=>trivial
 |u::us,off,h=>⟨by simpa using h 0 u rfl,Bd w A b us (off+1) fun i fi hu=>by have:=h (i+1) fi (by simpa using hu);rwa[show off+(i+1)=off+1+i from by omega]at this⟩
theorem Kz{f:FuncId}{fn:Func}(rB:ax.funcs[f]? =some fn)(KM:∀args w,(callFunc f args).run ax w= .ok (.enter f args) w){w:World}{Z:be}{args:List ak}{a7:Array Value}(h:bQ ax f args (.bool true))(aH:∀k j b,¬Z.tr k j b)(bg:∀b o,Z.A b o->b<w.heap.size)(ab:∀k,Z.bx k=none)(aw:∀k,Z.ow k=none)(aK:cT w Z args a7.toList):
  Calls ax f a7 w fun e w'=>e= .returned (.bool true)/\Below w.heap.size w w':=by
 have aX:Pv.Good (fq Z ⟨[],[]⟩) w Z [] []:=⟨bg,fun k cs ae=>by simp[Pv.look]at ae,fun k bH bl J=>by simp[Pv.look]at J,fun g o ae=>by simp[Pv.look]at ae,fun g fc n n' v v' bl J=>by simp[Pv.look]at J,fun g k n v bl J=>by simp[Pv.look]at J,fun k=>.inl (ab k),fun _ _ k j=>aH k j _⟩;rcases h w Z a7 aX (fun k=>⟨fun _=>ab k,fun _=>aw k,aH k⟩) aK with⟨_,ar⟩|⟨v,w',ar,_⟩
 ·refine ar.mono ?_;rintro e w' ⟨v,r,ah,bo,rfl,⟨rfl,rfl⟩,ma,_,_,_,mD⟩;simp only[bc]at ma;subst ma;refine⟨rfl,mD.os,mD.tape,mD.output,mD.size,fun k ae=>mD.block k ae ?_⟩;simp[fq,Pv.look]
 ·rw[KM]at ar;cases ar
theorem aqO{n:Int}(h:(Lit.int .u8 n).wf=true):0<=n/\n<256:=by simp[Lit.wf,IntKind.min,IntKind.max,r3,oh]at h;omega
end
end Go.Proofs.YtohaalphocaebaaGreat
