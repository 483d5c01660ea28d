/- What is drawn has no symbol that begins with w; nor have the states made of it. -/
import Derived.Test.YtohaalphocaebaaGreatDoorProg
import Derived.Test.YtohaalphocaebaaGreatDoorX4
set_option linter.all false
set_option maxHeartbeats 4000000
set_option maxRecDepth 4000
open Bool renaming and_eq_true->cr,eq_iff_iff->qz,false_eq_true->hg,not_eq_true'->oG,or_eq_true->lP
open Go.IntKind renaming i64->nT
open Go.IntWalk renaming i64_in->nm
open Go.Op renaming bytesLess->hP
open Go.Proofs.Tryz renaming prog->aw
open Int renaming natCast_nonneg->sd
open Int.ofNat renaming inj->avw
open List renaming all_eq_true->fV,cons_append->bP,drop_eq_getElem_cons->lu,getElem?_eq_getElem->cg,getElem?_eq_none->rf,getElem?_eq_some_iff->fD,getElem_of_mem->oI,length_append->pc,length_cons->mG,length_drop->tG,map_cons->gZ,map_nil->nn,mem_append->hQ,mem_cons->fm,mem_cons_of_mem->pd,mem_filter->ia,mem_map->hR,mem_of_getElem?->eF,mem_singleton->iS,pairwise_cons->np,pairwise_iff_getElem->pY,take->pZ,take_length->lQ,take_of_length_le->hl
open List.Nodup renaming length_le_of_subset->FW
open List.Pairwise renaming filter->QH
open List.cons renaming injEq->yk
open Nat renaming add_mul->p0,le_refl->dZ,le_trans->ha,mul_le_mul_right->rh,strongRecOn->qA
open Option renaming bind_eq_some_iff->ji,bind_some->jy,getD_none->lv,getD_some->iB,isSome_iff_exists->fo,isSome_none->k1,isSome_some->oJ,map_eq_some_iff->gv,map_some->oK
open Option.some renaming inj->eZ,injEq->dE
open _root_ renaming False->ey,beq_iff_eq->dM,congrArg->eW,decide_eq_false->h0,decide_eq_false_iff_not->gD,decide_eq_true->hb,decide_eq_true_eq->eN
namespace Go.Proofs.YtohaalphocaebaaGreatDoor
section
open Go Go.Pv
def br.e(s:br):aj:= .agg [.int .i64 s.n,.slice 5 .no (s.b.map ai.e),.slice 1 .no (s.d.map cF),.slice 2 .no (s.k.map b8.e),.slice 2 .no (s.m.map bj.e)]
@[simp]theorem atJ(S:aL->Prop)(s:br):aJ S s.e=True:=by simp[br.e,aJ,aO]
def na(o:Option br):aj:= .tuple [(o.getD dY).e,.bool o.isSome]
@[simp]theorem atI(S:aL->Prop)(o:Option br):aJ S (na o)=True:=by simp[na,aJ,aO]
def vP(k:List b8)(i:Nat)(l:List (Int×Bool)):Prop:= ∀v,(tg v l).getD false=(k.take i).any fun x=>x.v==v&&x.k==3
theorem vP.put{k:List b8}{i:Nat}{l:List (Int×Bool)}(h:vP k i l){x:b8}(ab:k[i]? =some x)(h3:x.k=3):vP k (i+1) (e5 x.v true l):=fun v=>by
 rw[nS,mC ab,List.any_append,<-h v];by_cases e:v=x.v
 ·rw[if_pos e];simp[e,h3]
 ·rw[if_neg e];have:(x.v==v)=false:=by simp;exact fun h=>e h.symm
  simp[this]
theorem vP.skip{k:List b8}{i:Nat}{l:List (Int×Bool)}(h:vP k i l){x:b8}(ab:k[i]? =some x)(h3:¬x.k=3):vP k (i+1) l:=fun v=>by
 rw[mC ab,List.any_append,<-h v];have:(x.k==3)=false:=by simp[h3]
 simp[this]
theorem vP.fin{k:List b8}{l:List (Int×Bool)}(h:vP k k.length l)(ae:hj k)(x:bj):(tg x.v l).getD false= !iO k x:=by rw[h x.v,lQ,acr ae.asc,iO,bne,Bool.not_not]
def uw(k:List b8)(m:List bj)(i:Nat)(a:List bj):Prop:=a=(m.take i).filter (iO k)
theorem uw.step{k:List b8}{m:List bj}{i:Nat}{a:List bj}(h:uw k m i a){x:bj}(ab:m[i]? =some x):uw k m (i+1) (if iO k x=true then a++[x]else a):=by
 rw[uw,mC ab,List.filter_append,<-h];by_cases e:iO k x=true
 ·rw[if_pos e];simp[e]
 ·rw[if_neg e];simp[e]
theorem BF(S:aL->Prop)(l:List bj)(d:bj):aO S (l.map bj.e++[d.e])=True:=by have:=Nw S (l++[d]);rw[List.map_append]at this;exact eq_true this
theorem Xt{k:List b8}{m:List bj}(h:iN m):iN (m.filter (iO k)):=⟨fun x ab=>h.at' x (ia.1 ab).1,QH _ h.asc⟩
theorem P0{G:List (List UInt8)}{k:List b8}{m:List bj}(h:kG G m):kG G (m.filter (iO k)):=fun x ab=>h x (ia.1 ab).1
theorem qY.skip{b:List ai}{k:List b8}{m:List bj}{D:List (List ai)}{i:Nat}{a:List (List ai)}(h:qY b k m D i a){d:List ai}(aG:D[i]? =some d)(he:∀r,fw b k m (d::r)=fw b k m r):qY b k m D (i+1) a:=⟨by have:=h.1;omega,h.2.1,by rw[<-h.2.2,BK aG,he]⟩
theorem qY.snoc{b:List ai}{k:List b8}{m:List bj}{D:List (List ai)}{i:Nat}{a:List (List ai)}(h:qY b k m D i a){d x:List ai}(aG:D[i]? =some d)(ab:ev x)(he:∀r,fw b k m (d::r)=(fw b k m r).map (x:: ·)):qY b k m D (i+1) (a++[x]):=
 ⟨by have:=h.1;simp;omega,fun y aC=>by
  rcases hQ.1 aC with aC|aC
  ·exact h.2.1 y aC
  ·simp at aC;subst aC;exact ab,by
  rw[<-h.2.2,BK aG,he,Option.map_map];congr 1;funext r;simp⟩
theorem qY.stop{b:List ai}{k:List b8}{m:List bj}{D:List (List ai)}{i:Nat}{a:List (List ai)}(h:qY b k m D i a){d:List ai}(aG:D[i]? =some d)(he:∀r,fw b k m (d::r)=none):fw b k m D=none:=by rw[<-h.2.2,BK aG,he];rfl
theorem qY.fin{b:List ai}{k:List b8}{m:List bj}{D:List (List ai)}{a:List (List ai)}(h:qY b k m D D.length a):fw b k m D=some a:=by rw[<-h.2.2,List.drop_length];simp[fw]
theorem uE(S:aL->Prop)(l:List (List ai))(d:List ai):aO S (l.map cF++[.slice 5 .no (d.map ai.e)])=True:=zk S l d
theorem Df{d:List ai}(aG:ev d):∀e∈gf d,e.1.ok=true/\e.2.ok=true:=fun e he=>by obtain⟨c,ao,rfl⟩:=hR.1 he;have:=aG.ok c ao;exact⟨by simpa[T.ok]using this.1,this.2⟩
theorem JZ{s:br}(h:gX s){G:List (List UInt8)}(iH:G.length<=687000)(aW:kG G s.m):bK aw 42 [s.e] (na (fy s)):=by
 generalize dn:fy s=O;have lh:=aaX h.b h.k;have lj:=aaY h.b h.m iH aW;have kU:=fun k=>Jc (acc:=[]) (a:=k) h.b h.k.at' ⟨Ψ,Ψ⟩;have q7:=fun m=>Fb (acc:=[]) (a:=m) h.b h.m.at' ⟨Ψ,by simp[hS]⟩;have n4:=fun m=>Jg (acc:=[]) (a:=m) (s:=s.b) aW (fun x ab=>by simp at ab);have ad:=h.b;have aG:=h.d;clear h aW;unfold fy at dn;obtain⟨n,b,d,hp,m0⟩:=s;simp only at lh lj kU q7 n4 ad aG dn;have fB:=ad.len;simp only[br.e];generalize fM b hp []=ok at lh dn kU;generalize fI b m0 []=om at lj dn q7 n4;cases ok with
 |none=>
  simp only at dn;subst dn;simp only[gm]at lh;simp only[jf]at lj;clear kU q7 n4;refine bo o7 LJ Oq fun aQ=>?_;unfold Gw;simp;(with_reducible repeat' first|refine ak ?_|refine aA lh ?_|refine aB lh ?_|refine aA lj ?_|refine aB lj ?_|simp);all_goals simp[bp,Ce,aV,aY,aU]
  all_goals simp[na,dY,br.e]
 |some k=>
  simp only at dn;cases om with
  |none=>
   simp only at dn;subst dn;simp only[gm]at lh;simp only[jf]at lj;clear kU q7 n4;refine bo o7 LJ Oq fun aQ=>?_;unfold Gw;simp;(with_reducible repeat' first|refine ak ?_|refine aA lh ?_|refine aB lh ?_|refine aA lj ?_|refine aB lj ?_|simp);all_goals simp[bp,Ce,aV,aY,aU]
   all_goals simp[na,dY,br.e]
  |some m=>
   simp only at dn;have xh:=kU k rfl;have y3:=q7 m rfl;have yW:=n4 m rfl;have ij:=q0 xh;have mm:m.length<=68719470000:=by have:=ED y3 yW;omega
   have Be:=Xt (k:=k) y3;have A9:=P0 (k:=k) yW;have aiz:(m.filter (iO k)).length<=68719470000:=ha (List.length_filter_le _ _) mm;simp only[gm,iB,oJ]at lh;simp only[jf,iB,oJ]at lj;clear kU q7 n4;refine bo o7 LJ Oq fun aQ=>?_;unfold Gw;have xc:d.length<=68719476736:=by simp[gQ,gi,gH,lim]at aQ;omega
   simp;(with_reducible repeat' first|refine ak ?_|refine aA lh ?_|refine aB lh ?_|refine aA lj ?_|refine aB lj ?_|simp);refine hI (fun i (l:List (Int×Bool))=>⟨[(1,.ptr (.loc 0) 0),(2,.ptr (.loc 1) 0),(4,.slice 2 .no (k.map b8.e)),(6,.slice 2 .no (m.map bj.e)),(8,.gmap (.loc 2)),(49,.slice 2 .no (k.map b8.e)),(50,.int .i64 k.length),(51,.int .i64 i)],[(.loc 0,[.int .i64 n,.slice 5 .no (b.map ai.e),.slice 1 .no (d.map cF),.slice 2 .no (hp.map b8.e),.slice 2 .no (m0.map bj.e)]),(.loc 1,[.int .i64 0,.slice 5 .nil [],.slice 1 .nil [],.slice 2 .nil [],.slice 2 .nil []]),(.loc 2,q3 l)],[],3,[]⟩) k.length (vP k) [] ⟨by simp[fresh,aO,aJ,cn,inObs,Pv.look,NM],ek (by simp[fresh,aO,aJ,cn,inObs,Pv.look,NM]),en (by simp[fresh,aO,aJ,dW,inObs,Pv.look,NM]),Ψ⟩ (fun v=>by simp[tg]) (fun l ag _=>?_) (fun i l hi ag _=>?_);rotate_left
   ·obtain⟨x,ab,cY⟩:=eI hi;by_cases h3:x.k=3
    ·have au:=ag.put ab h3;clear ag ab;exact hN
    ·have au:=ag.skip ab h3;have tZ:(x.k==3)=false:=by simp[h3]
     clear ag ab;exact hN
   have hints:=ag.fin xh;clear ag;simp;(with_reducible repeat' first|refine ak ?_|simp);refine hI (fun i (a:List bj)=>⟨[(1,.ptr (.loc 0) 0),(2,.ptr (.loc 1) 0),(4,.slice 2 .no (k.map b8.e)),(8,.gmap (.loc 2)),(11,.slice 2 (.own (.loc 3)) (a.map bj.e)),(63,.slice 2 .no (m.map bj.e)),(64,.int .i64 m.length),(65,.int .i64 i)],[(.loc 0,[.int .i64 n,.slice 5 .no (b.map ai.e),.slice 1 .no (d.map cF),.slice 2 .no (hp.map b8.e),.slice 2 .no (m0.map bj.e)]),(.loc 1,[.int .i64 0,.slice 5 .nil [],.slice 1 .nil [],.slice 2 .nil [],.slice 2 .nil []]),(.loc 2,q3 l)],[(.loc 3,⟨a.length,56,2,none⟩)],4,[]⟩) m.length (uw k m) [] b7 (by simp[uw]) (fun a ag _=>?_) (fun i a hi ag _=>?_);rotate_left
   ·obtain⟨x,ab,cY⟩:=eI hi;have mM:a.length<=68719470000:=by
     have:a.length<=(m.take i).length:=by rw[ag];exact List.length_filter_le _ _
     simp at this;omega
    have au:=ag.step ab;have bE:=hints x;cases aN:iO k x
    ·rw[aN]at au bE;simp only[hg,if_false,Bool.not_false]at au bE;clear ag ab aN;simp[hi,cY];((with_reducible repeat' first|refine ak ?_|simp[hi,cY,bE]|((first|apply bJ|apply bM|apply bL)<;>intro h<;>try simp at h))<;>(try exact ck));all_goals exact bR.rng a hi au b7
    ·rw[aN]at au bE;simp only[if_true,Bool.not_true]at au bE;clear ag ab aN;simp[hi,cY];((with_reducible repeat' first|refine ak ?_|simp[hi,cY,bE]|((first|apply bJ|apply bM|apply bL)<;>intro h<;>try simp at h))<;>(try exact ck));all_goals first|(refine⟨by unfold lim;omega,?_⟩)|skip
     all_goals(with_reducible repeat' first|refine ak ?_|simp)
     all_goals exact bR.rng (a++[x]) hi au ⟨by simp[fresh,aO,aJ,cn,inObs,Pv.look,BF],ek (by simp[fresh,aO,aJ,cn,inObs,Pv.look,BF]),en (by simp[fresh,aO,aJ,dW,inObs,Pv.look,BF]),Ψ⟩
   rw[uw,lQ]at ag;rw[<-ag]at Be A9 aiz dn;clear ag hints ij y3 yW;simp;(with_reducible repeat' first|refine ak ?_|simp);refine hI (fun i (L:List (List ai))=>⟨[(1,.ptr (.loc 0) 0),(2,.ptr (.loc 1) 0),(4,.slice 2 .no (k.map b8.e)),(11,.slice 2 (.own (.loc 3)) (a.map bj.e)),(14,.slice 1 (.own (.loc 4)) (L.map cF)),(81,.slice 1 .no (d.map cF)),(82,.int .i64 d.length),(83,.int .i64 i)],[(.loc 0,[.int .i64 n,.slice 5 .no (b.map ai.e),.slice 1 .no (d.map cF),.slice 2 .no (hp.map b8.e),.slice 2 .no (m0.map bj.e)]),(.loc 1,[.int .i64 0,.slice 5 .nil [],.slice 1 .nil [],.slice 2 .nil [],.slice 2 .nil []])],[(.loc 3,⟨a.length,56,2,none⟩),(.loc 4,⟨L.length,23,1,none⟩)],5,[]⟩) d.length (qY b k a d) [] b7 ⟨Ψ,Ψ,Ψ⟩ (fun L ag _=>?_) (fun i L hi ag _=>?_)
   ·have ft:=ag.fin;have sD:=ag.2.1;rw[ft]at dn;simp only at dn;have lg:=apZ L sD;have jc:bK aw 91 [.slice 5 .no (b.map ai.e)] (.slice 5 .no (b.map ai.e)):=FF b fB;clear ag ft sD;generalize jL L=M at lg dn;by_cases lX:M.length<=30
    ·have pz:¬(30:Int)<M.length:=Ω
     rw[if_pos lX]at dn;subst dn;simp;(with_reducible repeat' first|refine ak ?_|refine aA lg ?_|refine aB lg ?_|refine aA jc ?_|refine aB jc ?_|simp[lX,pz]);all_goals simp[bp,Ce,aV,aY,aU]
     all_goals simp[na,br.e]
    ·have pz:(30:Int)<M.length:=Ω
     rw[if_neg lX]at dn;subst dn;simp;(with_reducible repeat' first|refine ak ?_|refine aA lg ?_|refine aB lg ?_|refine aA jc ?_|refine aB jc ?_|simp[lX,pz]);all_goals simp[bp,Ce,aV,aY,aU]
     all_goals simp[na,dY,br.e]
   ·obtain⟨x,ab,cY⟩:=eI hi;have gA:=aG x (eF ab);have Vk:=ag.1;have hz:bK aw 94 [.slice 5 .no (b.map ai.e),cF x] (fk (mgu b (gf x))):=apS ad gA;simp only[fk]at hz;cases hu:mgu b (gf x)with
    |none=>have au:=ag.skip ab fun r=>NC hu;rw[hu]at hz;simp only[lv,k1]at hz;clear ag ab dn;exact hN
    |some y=>
     have jH:=ad.mgu (Df gA) hu;rw[hu]at hz;simp only[iB,oJ]at hz;have dg:=aaX jH xh;have ed:=aaY jH Be iH A9;have il:=aaW ad jH;simp only[gm]at dg;simp only[jf]at ed;by_cases ja:fM y k []=none\/fI y a []=none
     ·have au:=ag.skip ab fun r=>NB hu ja;clear ag ab dn hu;rcases ja with e|e
      ·rw[e]at dg;simp only[lv,k1]at dg;exact hN
      ·rw[e]at ed;simp only[lv,k1]at ed;cases (fM y k []).isSome
       ·simp[hi,cY];((with_reducible repeat' first|refine ak ?_|refine aA hz ?_|refine aB hz ?_|refine aA dg ?_|refine aB dg ?_|refine aA ed ?_|refine aB ed ?_|simp[hi,cY]|((first|apply bJ|apply bM|apply bL)<;>intro h<;>try simp at h))<;>(try exact ck));all_goals exact bR.rng L hi au b7
       ·simp[hi,cY];((with_reducible repeat' first|refine ak ?_|refine aA hz ?_|refine aB hz ?_|refine aA dg ?_|refine aB dg ?_|refine aA ed ?_|refine aB ed ?_|simp[hi,cY]|((first|apply bJ|apply bM|apply bL)<;>intro h<;>try simp at h))<;>(try exact ck));all_goals exact bR.rng L hi au b7
     ·have aq:(fM y k []).isSome=true:=by cases e:fM y k []with|none=>exact absurd (.inl e) ja|some _=>rfl
      have aF:(fI y a []).isSome=true:=by cases e:fI y a []with|none=>exact absurd (.inr e) ja|some _=>rfl
      rw[aq]at dg;rw[aF]at ed;by_cases cA:dN b y=[]
      ·have af:=ag.stop ab fun r=>NA hu ja cA;rw[af]at dn;simp only at dn;subst dn;rw[cA]at il;simp only[nn]at il;clear ag ab hu ja;simp[hi,cY];((with_reducible repeat' first|refine ak ?_|refine aA hz ?_|refine aB hz ?_|refine aA dg ?_|refine aB dg ?_|refine aA ed ?_|refine aB ed ?_|refine aA il ?_|refine aB il ?_|simp[hi,cY]|((first|apply bJ|apply bM|apply bL)<;>intro h<;>try simp at h))<;>(try exact ck));all_goals simp[bp,Ce,aV,aY,aU]
       all_goals simp[na,dY,br.e]
      ·have au:=ag.snoc ab (EJ (b:=b) jH) fun r=>ND hu ja cA;have xk:¬((dN b y).length:Int)=0:=by have:(dN b y).length≠0:=fun h=>cA (List.length_eq_zero_iff.1 h);omega
       have xl:(((dN b y).length:Int)==0)=false:=by simp[cA]
       have H6:bK aw 95 [.slice 5 .no (b.map ai.e),.slice 5 .no (y.map ai.e)] (cF (dN b y)):=il;clear ag ab hu ja dn il;generalize dN b y=z at H6 au xk xl cA;simp only[cF]at H6;simp[hi,cY];(with_reducible repeat' first|refine ak ?_|refine aA hz ?_|refine aB hz ?_|refine aA dg ?_|refine aB dg ?_|refine aA ed ?_|refine aB ed ?_|refine aA H6 ?_|refine aB H6 ?_|simp[hi,cY,xk,xl,cA]);all_goals first|(refine⟨by unfold lim;omega,?_⟩)|skip
       all_goals(with_reducible repeat' first|refine ak ?_|simp)
       all_goals exact bR.rng (L++[z]) hi au ⟨by simp[fresh,aO,aJ,cn,inObs,Pv.look,uE,cF],ek (by simp[fresh,aO,aJ,cn,inObs,Pv.look,uE,cF]),en (by simp[fresh,aO,aJ,dW,inObs,Pv.look,uE,cF]),Ψ⟩
structure jU where
 n:Int
 b:List dO
 d:List (List dO)
 k:List b8
 m:List bj
def br.r(s:br):jU:=⟨s.n,s.b.map ai.b,s.d.map fun x=>x.map ai.b,s.k,s.m⟩
def ng(r:jU):Prop:= ∃s:br,r=s.r/\j3 s
def kQ(n:Int)(x:List dO):Prop:= ∃s:List ai,x=s.map ai.b/\ev s/\oO s n
structure Pa (r:jU):Prop where
 n:0<=r.n/\r.n<=100000
 b:kQ r.n r.b
 d:∀x∈r.d,kQ r.n x
 k:hj r.k
 m:iN r.m
 kb:∀x∈r.k,x.v<r.n
 mb:∀x∈r.m,x.v<r.n
theorem ng.raw{r:jU}(h:ng r):Pa r:=by obtain⟨s,rfl,J,_⟩:=h;exact⟨J.n,⟨s.b,rfl,J.b,J.bb⟩,fun x ab=>by obtain⟨y,aC,rfl⟩:=hR.1 ab;exact⟨y,rfl,J.d y aC,J.db y aC⟩,J.k,J.m,J.kb,J.mb⟩
theorem rr:∀{a b:List ai},a.map ai.b=b.map ai.b->a=b
 |[],b,h=>by cases b<;>simp at h⊢
 |x::a,[],h=>by simp at h
 |x::a,y::b,h=>by simp only[gZ,yk,ai.b,dO.mk.injEq]at h;rw[rr h.2];have:=z7 h.1.2;obtain⟨⟨J,_⟩,_⟩:=h;cases x;cases y;simp_all
theorem Rf:∀{a b:List (List ai)},(a.map fun x=>x.map ai.b)=(b.map fun x=>x.map ai.b)->a=b
 |[],b,h=>by cases b<;>simp at h⊢
 |x::a,[],h=>by simp at h
 |x::a,y::b,h=>by rw[gZ,gZ,yk]at h;rw[Rf h.2,rr h.1]
theorem br.r_inj{s t:br}(h:s.r=t.r):s=t:=by obtain⟨n,b,d,k,m⟩:=s;obtain⟨n',b3,cm,bI,hM⟩:=t;simp only[br.r,jU.mk.injEq]at h;obtain⟨J,U,h3,h4,h5⟩:=h;rw[J,rr U,Rf h3,h4,h5]
theorem TO{n:Int}:∀{d:List (List dO)},(∀x∈d,kQ n x)->∃D:List (List ai),d=(D.map fun x=>x.map ai.b)/\(∀x∈D,ev x)/\∀x∈D,oO x n
 |[],_=>⟨[],rfl,Ψ,Ψ⟩
 |x::d,h=>by
  obtain⟨D,J,U,h3⟩:=TO (d:=d) fun y aC=>h y (by simp[aC]);obtain⟨s,aq,aF,bB⟩:=h x Ψ;refine⟨s::D,by rw[J,aq];rfl,fun y aC=>?_,fun y aC=>?_⟩
  ·rcases fm.1 aC with rfl|aC
   ·exact aF
   ·exact U y aC
  ·rcases fm.1 aC with rfl|aC
   ·exact bB
   ·exact h3 y aC
theorem aam{s:br}(h:gX s):ng s.r↔fy s=some s:=by
 constructor
 ·rintro⟨t,e,_,U⟩;rw[br.r_inj e];exact U
 ·intro U;exact⟨s,rfl,h,U⟩
theorem x2{l:List dO}:Km l↔∃s:List ai,l=s.map ai.b/\ev s:=⟨fun⟨s,J,U,h3,h4⟩=>⟨s,J,U,h3,h4⟩,fun⟨s,J,U⟩=>⟨s,J,U.ok,U.sol,U.fits⟩⟩
def sp{α:Type}(a b:List α)(i:Nat)(_:Unit):Prop:= ∀k,k<i->a[k]? =b[k]?
theorem sp.fin{α:Type}{a b:List α}(h:sp a b b.length ())(av:a.length=b.length):a=b:=by
 apply List.ext_getElem?;intro k;by_cases ae:k<b.length
 ·exact h k ae
 ·rw[rf Ω,rf Ω]
theorem sp.step{α:Type}{a b:List α}{i:Nat}(h:sp a b i ()){x:α}(bg:a[i]? =some x)(ad:b[i]? =some x):sp a b (i+1) ():=fun k ae=>by
 rcases(by omega:k<i\/k=i)with J|rfl
 ·exact h k J
 ·rw[bg,ad]
def s7{α:Type}(p:α->Prop)(s:List α)(i:Nat)(_:Unit):Prop:= ∀k b,k<i->s[k]? =some b->p b
theorem s7.step{α:Type}{p:α->Prop}{s:List α}{i:Nat}(h:s7 p s i ()){b:α}(ad:s[i]? =some b)(bF:p b):s7 p s (i+1) ():=fun k c ae ao=>by
 rcases(by omega:k<i\/k=i)with J|rfl
 ·exact h k c J ao
 ·rw[ad]at ao;cases ao;exact bF
theorem s7.fin{α:Type}{p:α->Prop}{s:List α}(h:s7 p s s.length ()):∀b∈s,p b:=fun b ad=>by obtain⟨k,ae,e⟩:=oI ad;exact h k b ae (by rw[cg ae,e])
@[simp]theorem aro(neg:Bool)(x y:b8):iW neg (some [false,false]) x.e y.e=some (True,.bool (if neg then !decide (x=y)else decide (x=y))):=by
 have h:(x.v==y.v&&(x.k==y.k&&true))=decide (x=y):=by rw[qz];simp only[Bool.and_true,cr,dM,eN];cases x;cases y;simp
 rw[<-h];rfl
@[simp]theorem arp(neg:Bool)(x y:bj):iW neg (some [false,true]) x.e y.e=some (True,.bool (if neg then !decide (x=y)else decide (x=y))):=by
 have h:(x.v==y.v&&(x.s==y.s&&true))=decide (x=y):=by rw[qz];simp only[Bool.and_true,cr,dM,eN];cases x;cases y;simp
 rw[<-h];rfl
theorem ap6(x y:List ai)(h:x.length<=1000000):bK aw 99 [cF x,cF y] (.bool (decide (x=y))):=Qf x y h
theorem aqK(a c:br)(oa:a.b.length<=1000000)(DD:∀x∈a.d,x.length<=1000000):bK aw 46 [a.e,c.e] (.bool (decide (a=c))):=by
 obtain⟨n,b,d,k,m⟩:=a;obtain⟨n',b3,cm,bI,hM⟩:=c;simp only at oa DD;generalize bH:decide ((⟨n,b,d,k,m⟩:br)=⟨n',b3,cm,bI,hM⟩)=R;simp only[br.mk.injEq,br.e]at bH⊢;by_cases a1:n=n';rotate_left
 ·have gk:R=false:=by rw[<-bH];simp[a1]
  have uS:(n !=n')=true:=by simp[a1]
  rw[gk];clear bH gk;refine bo o7 AQ B2 fun aQ=>?_;unfold yB;exact cz
 subst a1;have fS:=Qf b b3 oa;by_cases bm:b=b3;rotate_left
 ·have gk:R=false:=by rw[<-bH];simp[bm]
  rw[h0 bm]at fS;rw[gk];clear bH gk;refine bo o7 AQ B2 fun aQ=>?_;unfold yB;exact cz
 subst bm;rw[hb rfl]at fS;by_cases bW:d.length=cm.length;rotate_left
 ·have gk:R=false:=by rw[<-bH];simp only[gD];rintro⟨_,_,rfl,_⟩;exact bW rfl
  have tk:((d.length:Int) !=cm.length)=true:=by simp;omega
  rw[gk];clear bH gk;refine bo o7 AQ B2 fun aQ=>?_;unfold yB;exact cz
 by_cases cZ:k.length=bI.length;rotate_left
 ·have gk:R=false:=by rw[<-bH];simp only[gD];rintro⟨_,_,_,rfl,_⟩;exact cZ rfl
  have anr:((k.length:Int) !=bI.length)=true:=by simp;omega
  rw[gk];clear bH gk;refine bo o7 AQ B2 fun aQ=>?_;unfold yB;exact cz
 by_cases c6:m.length=hM.length;rotate_left
 ·have gk:R=false:=by rw[<-bH];simp only[gD];rintro⟨_,_,_,_,rfl⟩;exact c6 rfl
  have ans:((m.length:Int) !=hM.length)=true:=by simp;omega
  rw[gk];clear bH gk;refine bo o7 AQ B2 fun aQ=>?_;unfold yB;exact cz
 have y7:d≠cm->R=false:=fun h=>by rw[<-bH];simp[h]
 have y8:k≠bI->R=false:=fun h=>by rw[<-bH];simp[h]
 have MI:m≠hM->R=false:=fun h=>by rw[<-bH];simp[h]
 refine bo o7 AQ B2 fun aQ=>?_;unfold yB;have aio:cm.length<=68719476736:=by simp[gQ,gi,gH,lim]at aQ;omega
 have aip:bI.length<=68719476736:=by simp[gQ,gi,gH,lim]at aQ;omega
 have aiq:hM.length<=68719476736:=by simp[gQ,gi,gH,lim]at aQ;omega
 clear aQ;simp;(with_reducible repeat' first|refine ak ?_|refine aA fS ?_|refine aB fS ?_|simp[bW,cZ,c6]);have cU:=y7;refine eJ [2,3,50] (fun i (_:Unit)=>[(51,.int .i64 i)]) cm.length (sp d cm) () b7 (fun k ae=>Ω) (fun _ ag _=>?_) (fun i _ hi ag _=>?_);rotate_left
 ·obtain⟨x,ab⟩:∃x,d[i]? =some x:=⟨_,cg Ω⟩;obtain⟨y,aC⟩:∃y,cm[i]? =some y:=⟨_,cg hi⟩;have gz:i<d.length:=Ω
  have cY:∀h,(d[i]'h)=x:=fun h=>by rw[cg gz]at ab;exact eZ ab
  have eP:∀h,(cm[i]'h)=y:=fun h=>by rw[cg hi]at aC;exact eZ aC
  have fS:=ap6 x y (DD x (eF ab));by_cases q:x=y
  ·subst q;have au:=ag.step ab aC;rw[hb rfl]at fS;clear ag ab aC;simp[hi,gz,cY,eP,-iW];(with_reducible repeat' first|refine ak ?_|refine aA fS ?_|refine aB fS ?_|simp[cY,eP,hi,gz,-iW]);all_goals exact bR.rng () hi au b7
  ·rw[cU (fun h=>q (by rw[h]at ab;rw[ab]at aC;exact eZ aC))];rw[h0 q]at fS;clear ag ab aC;simp[hi,gz,cY,eP,-iW];(with_reducible repeat' first|refine ak ?_|refine aA fS ?_|refine aB fS ?_|simp[cY,eP,hi,gz,q,-iW]);all_goals simp[bp,I2,aV,aY,aU]
 have c1:=ag.fin bW;subst c1;clear ag cU y7 bW;simp;(with_reducible repeat' first|refine ak ?_|simp[cZ]);have cU:=y8;refine eJ [2,3,69] (fun i (_:Unit)=>[(70,.int .i64 i)]) bI.length (sp k bI) () b7 (fun k ae=>Ω) (fun _ ag _=>?_) (fun i _ hi ag _=>?_);rotate_left
 ·obtain⟨x,ab⟩:∃x,k[i]? =some x:=⟨_,cg Ω⟩;obtain⟨y,aC⟩:∃y,bI[i]? =some y:=⟨_,cg hi⟩;have gz:i<k.length:=Ω
  have cY:∀h,(k[i]'h)=x:=fun h=>by rw[cg gz]at ab;exact eZ ab
  have eP:∀h,(bI[i]'h)=y:=fun h=>by rw[cg hi]at aC;exact eZ aC
  have fS:=True.intro;by_cases q:x=y
  ·subst q;have au:=ag.step ab aC;skip;clear ag ab aC;simp[hi,gz,cY,eP,-iW];(with_reducible repeat' first|refine ak ?_|refine aA fS ?_|refine aB fS ?_|simp[cY,eP,hi,gz,-iW]);all_goals exact bR.rng () hi au b7
  ·rw[cU (fun h=>q (by rw[h]at ab;rw[ab]at aC;exact eZ aC))];skip;clear ag ab aC;simp[hi,gz,cY,eP,-iW];(with_reducible repeat' first|refine ak ?_|refine aA fS ?_|refine aB fS ?_|simp[cY,eP,hi,gz,q,-iW]);all_goals simp[bp,I2,aV,aY,aU]
 have c1:=ag.fin cZ;subst c1;clear ag cU y8 cZ;simp;(with_reducible repeat' first|refine ak ?_|simp[c6]);have cU:=MI;refine eJ [2,3,87] (fun i (_:Unit)=>[(88,.int .i64 i)]) hM.length (sp m hM) () b7 (fun k ae=>Ω) (fun _ ag _=>?_) (fun i _ hi ag _=>?_);rotate_left
 ·obtain⟨x,ab⟩:∃x,m[i]? =some x:=⟨_,cg Ω⟩;obtain⟨y,aC⟩:∃y,hM[i]? =some y:=⟨_,cg hi⟩;have gz:i<m.length:=Ω
  have cY:∀h,(m[i]'h)=x:=fun h=>by rw[cg gz]at ab;exact eZ ab
  have eP:∀h,(hM[i]'h)=y:=fun h=>by rw[cg hi]at aC;exact eZ aC
  have fS:=True.intro;by_cases q:x=y
  ·subst q;have au:=ag.step ab aC;skip;clear ag ab aC;simp[hi,gz,cY,eP,-iW];(with_reducible repeat' first|refine ak ?_|refine aA fS ?_|refine aB fS ?_|simp[cY,eP,hi,gz,-iW]);all_goals exact bR.rng () hi au b7
  ·rw[cU (fun h=>q (by rw[h]at ab;rw[ab]at aC;exact eZ aC))];skip;clear ag ab aC;simp[hi,gz,cY,eP,-iW];(with_reducible repeat' first|refine ak ?_|refine aA fS ?_|refine aB fS ?_|simp[cY,eP,hi,gz,q,-iW]);all_goals simp[bp,I2,aV,aY,aU]
 have c1:=ag.fin c6;subst c1;have gk:R=true:=by rw[<-bH];simp
 rw[gk];exact cz
def jU.e(r:jU):aj:= .agg [.int .i64 r.n,.slice 5 .no (r.b.map dO.e),.slice 1 .no (r.d.map mh),.slice 2 .no (r.k.map b8.e),.slice 2 .no (r.m.map bj.e)]
theorem uZ(s:br):s.r.e=s.e:=by simp only[br.r,jU.e,br.e,uK,Lo]
theorem ap2(x:List dO):bK aw 53 [mh x] (.bool (gL x)):=Qd x
open Classical in
theorem aaZ(r:jU)(fu:iN r.m->kZ r.m):bK aw 22 [r.e] (.bool (decide (ng r))):=by
 generalize bH:decide (ng r)=R;have cU:¬Pa r->R=false:=fun h=>by rw[<-bH,gD];exact fun b9=>h b9.raw
 obtain⟨n,b,d,k,m⟩:=r;simp only[jU.e]at fu⊢;by_cases g1:n<0
 ·rw[cU fun h=>by have:=h.n.1;simp only at this;omega];refine bo o7 yF zy fun aQ=>?_;unfold wQ;exact cz
 by_cases g2:100000<n
 ·rw[cU fun h=>by have:=h.n.2;simp only at this;omega];refine bo o7 yF zy fun aQ=>?_;unfold wQ;exact cz
 have kB:bK aw 53 [.slice 5 .no (b.map dO.e)] (.bool (gL b)):=Qd b;cases g3:gL b
 ·rw[cU fun h=>by obtain⟨s,aq,aF,_⟩:=h.b;have:=r5.2 (x2.2 ⟨s,aq,aF⟩);simp only at this;rw[g3]at this;cases this]
  rw[g3]at kB;refine bo o7 yF zy fun aQ=>?_;unfold wQ;exact cz
 rw[g3]at kB;obtain⟨s,rfl,af⟩:=x2.1 (r5.1 g3);clear g3;rw[uK]at kB⊢;have dg:=aaS k;by_cases g4:hj k;rotate_left
 ·rw[cU fun h=>g4 h.k];rw[h0 g4]at dg;refine bo o7 yF zy fun aQ=>?_;unfold wQ;exact cz
 rw[hb g4]at dg;have ed:=aaU m;by_cases g5:iN m;rotate_left
 ·rw[cU fun h=>g5 h.m];rw[h0 g5]at ed;refine bo o7 yF zy fun aQ=>?_;unfold wQ;exact cz
 rw[hb g5]at ed;have fa:=aa3 af (n:=n) Ω;cases g6:s.all (lA n)
 ·rw[cU fun h=>by obtain⟨ah,aq,_,bB⟩:=h.b;have ds:=rr aq;subst ds;rw[wP.2 bB]at g6;cases g6]
  rw[g6]at fa;refine bo o7 yF zy fun aQ=>?_;unfold wQ;have Ny:=fa;exact cz
 rw[g6]at fa;have cI:=wP.1 g6;clear g6;have uj:=fu g5;have mm:=uj.len g5;refine bo o7 yF zy fun aQ=>?_;unfold wQ;have xc:d.length<=68719476736:=by simp[gQ,gi,gH,lim]at aQ;omega
 have ij:=q0 g4;clear aQ fu;simp;(with_reducible repeat' first|refine ak ?_|refine aA kB ?_|refine aB kB ?_|refine aA dg ?_|refine aB dg ?_|refine aA ed ?_|refine aB ed ?_|refine aA fa ?_|refine aB fa ?_|simp[g1,g2]);refine eJ [1,46,47] (fun i (_:Unit)=>[(48,.int .i64 i)]) d.length (s7 (kQ n) d) () b7 (fun k b ae=>Ω) (fun _ ag _=>?_) (fun i _ hi ag _=>?_);rotate_left
 ·obtain⟨x,ab,cY⟩:=eI hi;have D9:=eF ab;have kS:=ap2 x;cases nA:gL x
  ·rw[cU fun h=>by obtain⟨ah,aq,aF,_⟩:=h.d x D9;rw[r5.2 (x2.2 ⟨ah,aq,aF⟩)]at nA;cases nA]
   rw[nA]at kS;clear ag ab D9;exact cz
  ·rw[nA]at kS;obtain⟨y,rfl,aC⟩:=x2.1 (r5.1 nA);clear nA;rw[Ln]at kS;have j1:bK aw 56 [cF y,.int .i64 n] (.bool (y.all (lA n))):=aa3 aC (n:=n) Ω;have asY:∀h,mh (d[i]'h)=cF y:=fun h=>by rw[cY h,Ln]
   cases sy:y.all (lA n)
   ·rw[cU fun h=>by obtain⟨ah,aq,_,bB⟩:=h.d _ D9;have ds:=rr aq;subst ds;rw[wP.2 bB]at sy;cases sy]
    rw[sy]at j1;clear ag ab D9 cY;exact cz
   ·rw[sy]at j1;have au:=ag.step ab ⟨y,rfl,aC,wP.1 sy⟩;clear ag ab D9 cY;exact hN
 obtain⟨D,rfl,sC,Mb⟩:=TO ag.fin;clear ag;simp only[Lo];simp;(with_reducible repeat' first|refine ak ?_|simp);refine eJ [1,64,65] (fun i (_:Unit)=>[(66,.int .i64 i)]) k.length (s7 (fun x=>x.v<n) k) () b7 (fun k b ae=>Ω) (fun _ ag _=>?_) (fun i _ hi ag _=>?_);rotate_left
 ·obtain⟨x,ab,cY⟩:=eI hi;by_cases nA:x.v<n
  ·have yO:¬n<=x.v:=Ω
   have au:=ag.step ab nA;clear ag ab;exact hN
  ·have yO:n<=x.v:=Ω
   rw[cU fun h=>nA (h.kb x (eF ab))];clear ag ab;exact cz
 have yX:=ag.fin;clear ag;simp;(with_reducible repeat' first|refine ak ?_|simp);have uh:=yX;refine eJ [1,77,78] (fun i (_:Unit)=>[(79,.int .i64 i)]) m.length (s7 (fun x=>x.v<n) m) () b7 (fun k b ae=>Ω) (fun _ ag _=>?_) (fun i _ hi ag _=>?_);rotate_left
 ·obtain⟨x,ab,cY⟩:=eI hi;by_cases nA:x.v<n
  ·have yO:¬n<=x.v:=Ω
   have au:=ag.step ab nA;clear ag ab;exact hN
  ·have yO:n<=x.v:=Ω
   rw[cU fun h=>nA (h.mb x (eF ab))];clear ag ab;exact cz
 have yX:=ag.fin;clear ag;simp;(with_reducible repeat' first|refine ak ?_|simp);have qR:=yX;have dd:gX ⟨n,s,D,k,m⟩:=⟨by simp only;omega,af,sC,g4,g5,cI,Mb,uh,qR⟩;have vF:=aam dd;obtain⟨G,iH,aW⟩:=uj;have dt:=JZ dd iH aW;have l0:ng ⟨n,s.map ai.b,D.map fun x=>x.map ai.b,k,m⟩↔fy ⟨n,s,D,k,m⟩=some ⟨n,s,D,k,m⟩:=vF;clear vF cU;simp only[na]at dt;cases kR:fy ⟨n,s,D,k,m⟩with
 |none=>
  rw[kR]at dt l0;have gk:R=false:=by rw[<-bH,gD,l0];simp
  rw[gk];simp only[lv,k1,br.e]at dt;clear bH gk l0;exact cz
 |some t=>
  have Bp:=zV dd kR;rw[kR]at dt l0;have xz:=aqK t ⟨n,s,D,k,m⟩ Bp.1.1.b.len (fun x ab=>(Bp.1.1.d x ab).len);have gk:R=decide (t=⟨n,s,D,k,m⟩):=by rw[<-bH,decide_eq_decide,l0];simp
  rw[gk];simp only[iB,oJ]at dt;simp only[br.e]at dt xz;clear bH gk l0 Bp;generalize decide (t=(⟨n,s,D,k,m⟩:br))=Q at xz⊢;obtain⟨x9,x6,x7,x8,tm⟩:=t;simp only at dt xz;exact cz
def GA:C:=(aa [cW 3 1,cR 4 da] (.seq (aa [aK 7 0 1 3,ax 8 1 7,aT 9 .eql 8 1] (aZ 9 (aa [I 11 0,aK 12 1 1 3,ax 13 1 12,cc 14 78 11 13,I 10 14,cp 15 0 10,cp 16 1 10,cR 5 da,bD 4 5 15,I 6 16] (aa [I 17 6] (aZ 17 (aa [aX 18 4 5,bD 4 4 18] .ret) .skip))) .skip)) (.seq (aa [aK 19 0 1 3,ax 20 1 19,aT 21 .eql 20 4] (aZ 21 (.seq (.drawn true 36 [I 22 0,aK 23 3 1 3,ax 24 1 23,jh 25 4 24 0,aX 26 4 25,cc 27 38 22 26,I 28 0,aK 29 3 1 3,ax 30 1 29,jh 31 4 30 1,aX 32 4 31,cc 33 38 28 32,cc 34 83 27 33,bD 4 4 34]) .ret) .skip)) (aa [aX 35 4 3,bD 4 4 35] .ret))))
@[simp] def I6:List bV:=[.cell 4 true 4]
def SZ:C:=(aa [bq 6 false] (aa [I 7 0,I 8 1,bt 9 .geq 7 8,I 10 9,bT 10 true 11 0,bT 10 true 12 2,ar 10 true (bt 13 .leq 11 12),dh 14 10 13,I 6 14] .ret))
@[simp] def Zp:List bV:=[.tmp 6]
def K7:C:=(aa [bq 2 false] (.seq (aa [I 9 0,cH 10 75 9,cx 11 10] (aZ 11 (aa [bq 2 false] .ret) .skip)) (.seq (aa [I 12 0,cD 13 12,cf 14 0] (ff 15 14 13 (.seq (.block 1 (aa [cC 16 5 12 14,aX 17 5 16,cR 4 iM,bD 5 4 17] (.seq (aa [hZ 18 1 4 4,aK 19 0 1 18,ax 20 1 19,aT 21 .eql 20 1,I 22 21,ar 22 true (hZ 23 1 4 4),ar 22 true (aK 24 1 1 23),ar 22 true (ax 25 1 24),ar 22 true (aK 26 0 1 4),ar 22 true (ax 27 1 26),ar 22 true (bt 28 .geq 25 27),dh 29 22 28] (aZ 29 (aa [bq 2 false] .ret) .skip)) (aa [hZ 30 1 4 4,aX 31 4 30,c0 32 77 [.t 31,(.c (.slice 1 .nil []))],cD 33 32,cf 34 0] (.block 2 (.loop (aa [bt 35 .lss 34 33] (.seq (aZ 35 .skip (.exit 2)) (.seq (.block 3 (aa [cC 36 1 32 34,ax 37 1 36,I 6 37] (aa [I 39 0,I 40 6,cc 41 78 39 40,I 38 41,cp 42 0 38,cp 43 1 38,cR 7 da,bD 4 7 42,I 8 43] (aa [I 44 8] (aZ 44 (aa [bq 2 false] .ret) .skip))))) (.region [aT 45 .add 34 1,I 34 45])))))))))) (.region [aT 46 .add 14 1,I 14 46])))) (aa [bq 2 true] .ret))))
@[simp] def OX:List bV:=[.tmp 2]
def Ti:C:=(aa [bq 2 false] (.seq (aa [I 5 0,cD 6 5,cf 7 0] (ff 8 7 6 (.seq (.block 1 (aa [I 9 7,cC 10 5 5 7,aX 11 5 10,cR 4 iM,I 3 9,bD 5 4 11] (.seq (.drawn true 41 [I 12 3,aT 13 .gtr 12 0,I 14 13,bT 14 true 15 0,bT 14 true 16 3,ar 14 true (aT 17 .sub 16 1),ar 14 true (cC 18 5 15 17),ar 14 true (aK 19 0 1 18),ar 14 true (ax 20 1 19),ar 14 true (aK 21 0 1 4),ar 14 true (ax 22 1 21),ar 14 true (bt 23 .geq 20 22),dh 24 14 23,I 25 24,ar 25 false (aK 26 0 1 4),ar 25 false (ax 27 1 26),ar 25 false (c0 28 67 [.t 27,(ef 0),(ef 100000)]),ar 25 false (cx 29 28),c3 30 25 29,I 31 30,ar 31 false (hZ 32 1 4 4),ar 31 false (aX 33 4 32),ar 31 false (cH 34 76 33),ar 31 false (cx 35 34),c3 36 31 35]) (aZ 36 (aa [bq 2 false] .ret) .skip)))) (.region [aT 37 .add 7 1,I 7 37])))) (aa [I 38 0,cD 39 38,aT 40 .leq 39 400,I 2 40] .ret)))
@[simp] def O4:List bV:=[.tmp 2]
def SV:C:=(aa [cW 1 0,bq 2 false] (aa [aX 3 4 1,c0 4 126 [.t 3,(ef 5000)],aT 5 .leq 4 5000,I 6 5,ar 6 true (aX 7 4 1),ar 6 true (cH 8 127 7),dh 9 6 8,I 2 9] .ret))
@[simp] def an6:List bV:=[.tmp 2]
def AE:C:=(aa [cW 2 0,eM 4 1] (.seq (aa [aK 7 0 1 2,ax 8 1 7,aT 9 .eql 8 1] (aZ 9 (aa [I 10 1,aK 11 1 1 2,ax 12 1 11,cc 13 128 10 12,I 4 13] .ret) .skip)) (.seq (aa [aK 14 3 1 2,ax 15 1 14,cD 16 15,cf 17 0] (ff 18 17 16 (.seq (.block 1 (aa [cC 19 4 15 17,aX 20 4 19,cR 6 da,bD 4 6 20] (.region [aX 21 4 6,I 22 1,cc 23 77 21 22,I 1 23]))) (.region [aT 24 .add 17 1,I 17 24])))) (aa [I 25 1,I 4 25] .ret))))
@[simp] def Cj:List bV:=[.tmp 4]
def Tg:C:=(aa [cR 4 da,bq 5 false] (.seq (aa [I 8 0,cD 9 8,cf 10 0] (ff 11 10 9 (.seq (.block 1 (aa [cC 12 5 8 10,aX 13 5 12,cR 7 iM,bD 5 7 13] (aa [aK 14 0 1 7,ax 15 1 14,I 16 1,bt 17 .eql 15 16] (aZ 17 (aa [hZ 18 1 4 7,aX 19 4 18,bD 4 4 19,bq 5 true] .ret) .skip)))) (.region [aT 20 .add 10 1,I 10 20])))) (aa [gY 21 da [],bD 4 4 21,bq 5 false] .ret)))
@[simp] def O2:List bV:=[.cell 4 true 4,.tmp 5]
def Te:C:=(aa [cW 3 1,cR 4 da,bq 5 false] (aa [I 7 0,aX 8 4 3,cc 9 38 7 8,cR 6 da,bD 4 6 9] (.seq (.drawn true 13 [aX 10 4 6,aX 11 4 6,cH 12 129 11,bD 4 4 10,I 5 12]) .ret)))
@[simp] def ZB:List bV:=[.cell 4 true 4,.tmp 5]
def tS:C:=(aa [cW 4 1,cW 5 2,eM 6 5,bq 7 false] (aa [I 12 0,aX 13 4 4,cc 14 151 12 13,bD 4 4 14] (aa [I 15 0,aX 16 4 5,cc 17 151 15 16,bD 4 5 17] (.seq (aa [aK 18 0 1 4,ax 19 1 18,aT 20 .eql 19 1,I 21 20,ar 21 true (aK 22 0 1 5),ar 21 true (ax 23 1 22),ar 21 true (aT 24 .eql 23 1),dh 25 21 24,I 26 25,ar 26 true (aK 27 1 1 4),ar 26 true (ax 28 1 27),ar 26 true (aK 29 1 1 5),ar 26 true (ax 30 1 29),ar 26 true (bt 31 .lss 28 30),dh 32 26 31] (aZ 32 (aa [I 33 0,aK 34 1 1 5,ax 35 1 34,aX 36 4 4,c0 37 152 [.t 33,.t 35,.t 36],cp 38 0 37,cp 39 1 37,I 6 38,I 7 39] .ret) .skip)) (.seq (aa [aK 40 0 1 4,ax 41 1 40,aT 42 .eql 41 1,I 43 42,ar 43 true (aK 44 0 1 5),ar 43 true (ax 45 1 44),ar 43 true (aT 46 .eql 45 1),dh 47 43 46,I 48 47,ar 48 true (aK 49 1 1 4),ar 48 true (ax 50 1 49),ar 48 true (aK 51 1 1 5),ar 48 true (ax 52 1 51),ar 48 true (bt 53 .eql 50 52),dh 54 48 53] (aZ 54 (aa [I 55 0,I 6 55,bq 7 true] .ret) .skip)) (.seq (aa [aK 56 0 1 4,ax 57 1 56,aT 58 .eql 57 1] (aZ 58 (aa [I 59 0,aK 60 1 1 4,ax 61 1 60,aX 62 4 5,c0 63 152 [.t 59,.t 61,.t 62],cp 64 0 63,cp 65 1 63,I 6 64,I 7 65] .ret) .skip)) (.seq (aa [aK 66 0 1 5,ax 67 1 66,aT 68 .eql 67 1] (aZ 68 (aa [I 69 0,aK 70 1 1 5,ax 71 1 70,aX 72 4 4,c0 73 152 [.t 69,.t 71,.t 72],cp 74 0 73,cp 75 1 73,I 6 74,I 7 75] .ret) .skip)) (.seq (aa [aK 76 0 1 4,ax 77 1 76,aK 78 0 1 5,ax 79 1 78,bt 80 .neq 77 79,I 81 80,ar 81 false (aK 82 1 1 4),ar 81 false (ax 83 1 82),ar 81 false (aK 84 1 1 5),ar 81 false (ax 85 1 84),ar 81 false (bt 86 .neq 83 85),c3 87 81 86,I 88 87,ar 88 false (aK 89 2 1 4),ar 88 false (ax 90 1 89),ar 88 false (aK 91 2 1 5),ar 88 false (ax 92 1 91),ar 88 false (bt 93 .neq 90 92),c3 94 88 93] (aZ 94 (aa [eM 6 5,bq 7 false] .ret) .skip)) (.seq (aa [aK 95 3 1 4,ax 96 1 95,cD 97 96,cf 98 0] (ff 99 98 97 (.seq (.block 1 (aa [I 100 98,cC 101 4 96 98,aX 102 4 101,cR 9 da,I 8 100,bD 4 9 102] (.seq (.drawn true 119 [I 104 0,aX 105 4 9,aK 106 3 1 5,ax 107 1 106,I 108 8,cC 109 4 107 108,aX 110 4 109,c0 111 101 [.t 104,.t 105,.t 110],I 103 111,cp 112 0 103,cp 113 1 103,I 10 112,I 11 113]) (.seq (aa [I 114 11,cx 115 114] (aZ 115 (aa [eM 6 5,bq 7 false] .ret) .skip)) (.region [I 116 10,I 0 116]))))) (.region [aT 117 .add 98 1,I 98 117])))) (aa [I 118 0,I 6 118,bq 7 true] .ret))))))))))
@[simp] def tl:List bV:=[.tmp 6,.tmp 7]
def SL:C:=(aa [bq 2 false] (.seq (aa [cf 3 0] (.block 0 (.loop (.seq (aa [I 5 3,I 6 0,bS 7 (.slen (.t 6)),bt 8 .lss 5 7] (aZ 8 .skip (.exit 0))) (.seq (.block 1 (aa [I 11 0,I 12 3,bS 13 (.sidx (.t 11) (.t 12)),bS 14 (.bin .geq false (.t 13) (.c (.int .u8 97))),I 15 14,bT 15 true 16 0,bT 15 true 17 3,ar 15 true (bS 18 (.sidx (.t 16) (.t 17))),ar 15 true (bS 19 (.bin .leq false (.t 18) (.c (.int .u8 122)))),dh 20 15 19,I 4 20] (aa [I 21 4,cx 22 21,I 23 22,bT 23 true 24 3,ar 23 true (aT 25 .eql 24 0),bT 23 true 26 25,bT 26 false 27 0,bT 26 false 28 3,ar 26 false (bS 29 (.sidx (.t 27) (.t 28))),ar 26 false (bS 30 (.bin .neq false (.t 29) (.c (.int .u8 45)))),bT 26 false 31 30,bT 31 true 32 0,bT 31 true 33 3,ar 31 true (bS 34 (.sidx (.t 32) (.t 33))),ar 31 true (bS 35 (.conv .i64 (.t 34))),ar 31 true (c0 36 67 [.t 35,(ef 48),(ef 57)]),ar 31 true (cx 37 36),ar 26 false (dh 38 31 37),ar 23 true (c3 39 26 38),dh 40 23 39] (aZ 40 (aa [bq 2 false] .ret) .skip)))) (.region [I 9 3,aT 10 .add 9 1,I 3 10])))))) (aa [I 41 0,bS 42 (.slen (.t 41)),c0 43 67 [.t 42,(ef 1),(ef 12)],I 2 43] .ret)))
@[simp] def Cg:List bV:=[.tmp 2]
def Tk:C:=(aa [eM 4 5,bq 5 false] (aa [dV 10 4 36 [],I 6 10] (aa [dV 11 4 36 [],I 7 11] (.seq (aa [I 12 1,cD 13 12,cf 14 0] (ff 15 14 13 (.seq (.block 1 (aa [cC 16 5 12 14,aX 17 5 16,cR 9 iM,bD 5 9 17] (aa [I 18 6,aK 19 0 1 9,ax 20 1 19,cH 21 84 20,dV 22 4 36 [.t 21],gN 23 4 36 18 22,I 6 23] (.region [I 24 7,hZ 25 1 4 9,aX 26 4 25,dV 27 4 36 [.t 26],gN 28 4 36 24 27,I 7 28])))) (.region [aT 29 .add 14 1,I 14 29])))) (aa [I 30 0,I 31 6,I 32 7,c0 33 156 [.t 30,.t 31,.t 32],cp 34 0 33,cp 35 1 33,I 4 34,I 5 35] .ret)))))
@[simp] def ZC:List bV:=[.tmp 4,.tmp 5]
def S4:C:=(aa [cW 2 0,cf 4 0] (aa [cf 5 1] (.seq (aa [aK 8 3 1 2,ax 9 1 8,cD 10 9,cf 11 0] (ff 12 11 10 (.seq (.block 1 (aa [cC 13 4 9 11,aX 14 4 13,cR 7 da,bD 4 7 14] (.seq (aa [I 15 5,I 16 1,bt 17 .gtr 15 16] (aZ 17 (aa [I 18 5,I 4 18] .ret) .skip)) (.region [I 19 5,aX 20 4 7,I 21 1,I 22 5,bt 23 .sub 21 22,cc 24 126 20 23,bt 25 .add 19 24,I 5 25])))) (.region [aT 26 .add 11 1,I 11 26])))) (aa [I 27 5,I 4 27] .ret))))
@[simp] def O0:List bV:=[.tmp 4]
def mJ:C:=(aa [cW 1 0,bq 2 false] (.seq (aa [aK 3 0 1 1,ax 4 1 3,aT 5 .neq 4 1,I 6 5,ar 6 true (aK 7 0 1 1),ar 6 true (ax 8 1 7),ar 6 true (aT 9 .neq 8 3),dh 10 6 9,I 11 10,ar 11 true (aK 12 1 1 1),ar 11 true (ax 13 1 12),ar 11 true (aT 14 .neq 13 0),dh 15 11 14,I 16 15,ar 16 false (aK 17 0 1 1),ar 16 false (ax 18 1 17),ar 16 false (aT 19 .neq 18 2),bT 16 false 20 19,ar 20 true (aK 21 2 1 1),ar 20 true (ax 22 1 21),yj 20 true 23 (.bin .neq false (.t 22) (.c (.str []))),ar 16 false (dh 24 20 23),c3 25 16 24,I 26 25,ar 26 false (aK 27 0 1 1),ar 26 false (ax 28 1 27),ar 26 false (aT 29 .neq 28 4),bT 26 false 30 29,ar 30 true (aK 31 3 1 1),ar 30 true (ax 32 1 31),ar 30 true (cD 33 32),ar 30 true (aT 34 .gtr 33 0),ar 26 false (dh 35 30 34),c3 36 26 35] (aZ 36 (aa [bq 2 false] .ret) .skip)) (.seq (aa [aK 37 0 1 1,ax 38 1 37] (.block 0 (aa [aT 40 .eql 38 0,I 39 40] (aZ 39 (aa [bq 2 true] .ret) (aa [aT 42 .eql 38 1,I 41 42] (aZ 41 (aa [aK 43 1 1 1,ax 44 1 43,c0 45 67 [.t 44,(ef 0),(ef 100000)],I 2 45] .ret) (aa [aT 47 .eql 38 2,I 46 47] (aZ 46 (aa [aK 48 2 1 1,ax 49 1 48,cH 50 119 49,I 2 50] .ret) (aa [aT 52 .eql 38 3,I 51 52] (aZ 51 (aa [aK 53 1 1 1,ax 54 1 53,c0 55 67 [.t 54,(ef (-1000000000)),(ef 1000000000)],I 2 55] .ret) (aa [aT 57 .eql 38 4,I 56 57] (aZ 56 (aa [aK 58 3 1 1,ax 59 1 58,cD 60 59,aT 61 .eql 60 2,I 62 61,ar 62 true (aK 63 3 1 1),ar 62 true (ax 64 1 63),ar 62 true (jh 65 4 64 0),ar 62 true (aX 66 4 65),ar 62 true (cH 67 127 66),dh 68 62 67,I 69 68,ar 69 true (aK 70 3 1 1),ar 69 true (ax 71 1 70),ar 69 true (jh 72 4 71 1),ar 69 true (aX 73 4 72),ar 69 true (cH 74 127 73),dh 75 69 74,I 2 75] .ret) .skip)))))))))))) (aa [bq 2 false] .ret))))
@[simp] def mA:List bV:=[.tmp 2]
def S7:C:=(aa [eM 4 1] (aa [I 7 0,cD 8 7,I 5 8] (.seq (.block 0 (.loop (.seq (aa [I 9 5,aT 10 .gtr 9 0,I 11 10,bT 11 true 12 0,bT 11 true 13 5,ar 11 true (aT 14 .sub 13 1),ar 11 true (cC 15 1 12 14),ar 11 true (ax 16 1 15),bT 11 true 17 1,ar 11 true (bt 18 .geq 16 17),dh 19 11 18] (aZ 19 .skip (.exit 0))) (.block 1 (.region [I 20 5,aT 21 .sub 20 1,I 5 21]))))) (.seq (aa [I 22 5,I 23 0,cD 24 23,bt 25 .lss 22 24,I 26 25,bT 26 true 27 0,bT 26 true 28 5,ar 26 true (cC 29 1 27 28),ar 26 true (ax 30 1 29),bT 26 true 31 1,ar 26 true (bt 32 .eql 30 31),dh 33 26 32] (aZ 33 (aa [I 34 0,I 4 34] .ret) .skip)) (aa [dV 35 1 3 [],I 36 0,I 37 5,bS 38 (.lsl 1 (.t 36) none (some (.t 37))),gN 39 1 3 35 38,I 6 39] (aa [I 40 6,I 41 1,dV 42 1 3 [.t 41],gN 43 1 3 40 42,I 6 43] (aa [I 44 6,I 45 0,I 46 5,bS 47 (.lsl 1 (.t 45) (some (.t 46)) none),gN 48 1 3 44 47,I 4 48] .ret)))))))
@[simp] def zJ:List bV:=[.tmp 4]
def S6:C:=(aa [cW 1 0,bq 2 false] (aa [aX 3 4 1,c0 4 126 [.t 3,(ef 5000)],aT 5 .leq 4 5000,I 2 5] .ret))
@[simp] def Zu:List bV:=[.tmp 2]
def GB:C:=(aa [cW 3 1,cR 4 da] (.seq (aa [aK 7 0 1 3,ax 8 1 7,aT 9 .eql 8 1] (aZ 9 (aa [I 11 0,aK 12 1 1 3,ax 13 1 12,cc 14 78 11 13,I 10 14,cp 15 0 10,cp 16 1 10,cR 5 da,bD 4 5 15,I 6 16] (aa [I 17 6] (aZ 17 (aa [aX 18 4 5,bD 4 4 18] .ret) .skip))) .skip)) (aa [aX 19 4 3,bD 4 4 19] .ret)))
@[simp] def I7:List bV:=[.cell 4 true 4]
def C9:C:=(aa [cW 5 2,eM 6 5,bq 7 false] (aa [I 15 0,aX 16 4 5,cc 17 79 15 16,I 14 17,cp 18 0 14,cp 19 1 14,cR 8 da,bD 4 8 18,I 9 19] (.seq (aa [I 20 9,cx 21 20,I 22 21,bT 22 false 23 1,ar 22 false (aX 24 4 8),ar 22 false (cc 25 171 23 24),c3 26 22 25,I 27 26,bT 27 false 28 0,ar 27 false (cD 29 28),ar 27 false (aT 30 .geq 29 400),c3 31 27 30] (aZ 31 (aa [eM 6 5,bq 7 false] .ret) .skip)) (aa [dV 32 5 54 [],I 10 32] (.seq (aa [I 33 0,cD 34 33,cf 35 0] (ff 36 35 34 (.seq (.block 1 (aa [cC 37 5 33 35,aX 38 5 37,cR 12 iM,bD 5 12 38] (aa [hZ 39 1 4 12,aX 40 4 39,I 41 1,aX 42 4 8,c0 43 172 [.t 40,.t 41,.t 42],cR 13 da,bD 4 13 43] (.seq (aa [aX 44 4 13,cH 45 129 44,cx 46 45] (aZ 46 (aa [eM 6 5,bq 7 false] .ret) .skip)) (.region [I 47 10,aK 48 0 1 12,ax 49 1 48,aX 50 4 13,gY 51 iM [(0,1,(.t 49)),(1,4,(.t 50))],dV 52 5 54 [.t 51],gN 53 5 54 47 52,I 10 53]))))) (.region [aT 54 .add 35 1,I 35 54])))) (aa [I 55 10,I 56 1,aX 57 4 8,gY 58 iM [(0,1,(.t 56)),(1,4,(.t 57))],cc 59 173 55 58,I 6 59,bq 7 true] .ret))))))
@[simp] def Ck:List bV:=[.tmp 6,.tmp 7]
def Tj:C:=(aa [eM 6 5,bq 7 false] (.seq (aa [I 12 1,cD 13 12,cf 14 0] (ff 15 14 13 (.seq (.block 1 (aa [I 16 14,cC 17 4 12 14,aX 18 4 17,cR 9 da,I 8 16,bD 4 9 18] (.seq (.drawn true 34 [I 20 0,aX 21 4 9,I 22 2,I 23 8,cC 24 4 22 23,aX 25 4 24,c0 26 101 [.t 20,.t 21,.t 25],I 19 26,cp 27 0 19,cp 28 1 19,I 10 27,I 11 28]) (.seq (aa [I 29 11,cx 30 29] (aZ 30 (aa [eM 6 5,bq 7 false] .ret) .skip)) (.region [I 31 10,I 0 31]))))) (.region [aT 32 .add 14 1,I 14 32])))) (aa [I 33 0,I 6 33,bq 7 true] .ret)))
@[simp] def O5:List bV:=[.tmp 6,.tmp 7]
def S9:C:=(aa [cW 3 1,bq 4 false] (.seq (aa [aK 7 3 1 3,ax 8 1 7,cD 9 8,cf 10 0] (ff 11 10 9 (.seq (.block 1 (aa [cC 12 4 8 10,aX 13 4 12,cR 6 da,bD 4 6 13] (aa [I 14 0,aX 15 4 6,cc 16 171 14 15] (aZ 16 (aa [bq 4 true] .ret) .skip)))) (.region [aT 17 .add 10 1,I 10 17])))) (aa [aK 18 0 1 3,ax 19 1 18,aT 20 .eql 19 1,I 21 20,ar 21 true (aK 22 1 1 3),ar 21 true (ax 23 1 22),bT 21 true 24 0,ar 21 true (bt 25 .eql 23 24),dh 26 21 25,I 4 26] .ret)))
@[simp] def O1:List bV:=[.tmp 4]
def Gz:C:=(aa [cW 3 0,cW 5 2,cR 6 da] (.seq (aa [aK 7 0 1 3,ax 8 1 7,aT 9 .eql 8 1,I 10 9,ar 10 true (aK 11 1 1 3),ar 10 true (ax 12 1 11),bT 10 true 13 1,ar 10 true (bt 14 .eql 12 13),dh 15 10 14] (aZ 15 (aa [aX 16 4 5,bD 4 6 16] .ret) .skip)) (.seq (aa [aK 17 0 1 3,ax 18 1 17,aT 19 .eql 18 4] (aZ 19 (.seq (.drawn true 36 [aK 20 3 1 3,ax 21 1 20,jh 22 4 21 0,aX 23 4 22,I 24 1,aX 25 4 5,c0 26 172 [.t 23,.t 24,.t 25],aK 27 3 1 3,ax 28 1 27,jh 29 4 28 1,aX 30 4 29,I 31 1,aX 32 4 5,c0 33 172 [.t 30,.t 31,.t 32],cc 34 83 26 33,bD 4 6 34]) .ret) .skip)) (aa [aX 35 4 3,bD 4 6 35] .ret))))
@[simp] def I5:List bV:=[.cell 6 true 4]
def Th:C:=(aa [cW 3 1,eM 4 5] (aa [I 7 0,cD 8 7,I 5 8] (.seq (.block 0 (.loop (.seq (.seq (.drawn true 38 [I 9 5,aT 10 .gtr 9 0,I 11 10,bT 11 true 12 0,bT 11 true 13 5,ar 11 true (aT 14 .sub 13 1),ar 11 true (cC 15 5 12 14),ar 11 true (aK 16 0 1 15),ar 11 true (ax 17 1 16),ar 11 true (aK 18 0 1 3),ar 11 true (ax 19 1 18),ar 11 true (bt 20 .gtr 17 19),dh 21 11 20]) (aZ 21 .skip (.exit 0))) (.block 1 (.region [I 22 5,aT 23 .sub 22 1,I 5 23]))))) (aa [dV 24 5 54 [],I 25 0,I 26 5,bS 27 (.lsl 5 (.t 25) none (some (.t 26))),gN 28 5 54 24 27,I 6 28] (aa [I 29 6,aX 30 5 3,dV 31 5 54 [.t 30],gN 32 5 54 29 31,I 6 32] (aa [I 33 6,I 34 0,I 35 5,bS 36 (.lsl 5 (.t 34) (some (.t 35)) none),gN 37 5 54 33 36,I 4 37] .ret))))))
@[simp] def O3:List bV:=[.tmp 4]
def lN:List (Nat×dy):=[
 (3,⟨1,8,.int .i64,.int .i64 0⟩),
 (5,⟨1,1,.int .u8,.int .u8 0⟩),
 (9,⟨1,16,.str,.str []⟩),
 (23,⟨1,24,.slice 54,.slice 5 .nil []⟩),
 (34,⟨1,24,.slice 36,.slice 4 .nil []⟩),
 (36,⟨4,56,.struct [(0,3),(1,3),(2,9),(3,34)],.agg [.int .i64 0,.int .i64 0,.str [],.slice 4 .nil []]⟩),
 (54,⟨5,64,.struct [(0,3),(1,36)],.agg [.int .i64 0,.int .i64 0,.int .i64 0,.str [],.slice 4 .nil []]⟩),
 (97,⟨1,24,.slice 3,.slice 1 .nil []⟩)]
theorem eU:fJ aw lN=true:=by kernel_rfl
theorem Ou:b6 lN GA I6 2 Tryz.f38=true:=by kernel_rfl
theorem LL:aw.funcs[(38:Nat)]? =some Tryz.f38:=Tryz.func38
theorem amw:b6 lN SZ Zp 3 Tryz.f67=true:=by kernel_rfl
theorem afF:aw.funcs[(67:Nat)]? =some Tryz.f67:=Tryz.func67
theorem Yq:b6 lN K7 OX 1 Tryz.f68=true:=by kernel_rfl
theorem Uv:aw.funcs[(68:Nat)]? =some Tryz.f68:=Tryz.func68
theorem amP:b6 lN Ti O4 1 Tryz.f75=true:=by kernel_rfl
theorem afY:aw.funcs[(75:Nat)]? =some Tryz.f75:=Tryz.func75
theorem amt:b6 lN SV an6 1 Tryz.f76=true:=by kernel_rfl
theorem afC:aw.funcs[(76:Nat)]? =some Tryz.f76:=Tryz.func76
theorem ER:b6 lN AE Cj 2 Tryz.f77=true:=by kernel_rfl
theorem Dk:aw.funcs[(77:Nat)]? =some Tryz.f77:=Tryz.func77
theorem amN:b6 lN Tg O2 2 Tryz.f78=true:=by kernel_rfl
theorem afW:aw.funcs[(78:Nat)]? =some Tryz.f78:=Tryz.func78
theorem amL:b6 lN Te ZB 2 Tryz.f79=true:=by kernel_rfl
theorem afU:aw.funcs[(79:Nat)]? =some Tryz.f79:=Tryz.func79
theorem wh:b6 lN tS tl 3 Tryz.f101=true:=by kernel_rfl
theorem vs:aw.funcs[(101:Nat)]? =some Tryz.f101:=Tryz.func101
theorem aml:b6 lN SL Cg 1 Tryz.f119=true:=by kernel_rfl
theorem afu:aw.funcs[(119:Nat)]? =some Tryz.f119:=Tryz.func119
theorem amR:b6 lN Tk ZC 2 Tryz.f123=true:=by kernel_rfl
theorem af0:aw.funcs[(123:Nat)]? =some Tryz.f123:=Tryz.func123
theorem amB:b6 lN S4 O0 2 Tryz.f126=true:=by kernel_rfl
theorem afK:aw.funcs[(126:Nat)]? =some Tryz.f126:=Tryz.func126
theorem nP:b6 lN mJ mA 1 Tryz.f127=true:=by kernel_rfl
theorem nz:aw.funcs[(127:Nat)]? =some Tryz.f127:=Tryz.func127
theorem amE:b6 lN S7 zJ 2 Tryz.f128=true:=by kernel_rfl
theorem afN:aw.funcs[(128:Nat)]? =some Tryz.f128:=Tryz.func128
theorem amD:b6 lN S6 Zu 1 Tryz.f129=true:=by kernel_rfl
theorem afM:aw.funcs[(129:Nat)]? =some Tryz.f129:=Tryz.func129
theorem Ov:b6 lN GB I7 2 Tryz.f151=true:=by kernel_rfl
theorem LM:aw.funcs[(151:Nat)]? =some Tryz.f151:=Tryz.func151
theorem IC:b6 lN C9 Ck 3 Tryz.f152=true:=by kernel_rfl
theorem GV:aw.funcs[(152:Nat)]? =some Tryz.f152:=Tryz.func152
theorem amQ:b6 lN Tj O5 3 Tryz.f156=true:=by kernel_rfl
theorem afZ:aw.funcs[(156:Nat)]? =some Tryz.f156:=Tryz.func156
theorem amG:b6 lN S9 O1 2 Tryz.f171=true:=by kernel_rfl
theorem afP:aw.funcs[(171:Nat)]? =some Tryz.f171:=Tryz.func171
theorem Ot:b6 lN Gz I5 3 Tryz.f172=true:=by kernel_rfl
theorem LK:aw.funcs[(172:Nat)]? =some Tryz.f172:=Tryz.func172
theorem amO:b6 lN Th O3 2 Tryz.f173=true:=by kernel_rfl
theorem afX:aw.funcs[(173:Nat)]? =some Tryz.f173:=Tryz.func173
mutual
def mf:bX->Int->Int
 | .mk _ _ _ args,m=>po args 1 m
def po:List bX->Int->Int->Int
 |[],n,_=>n
 |x::xs,n,m=>if m<n then n else po xs (n+mf x (m-n)) m
end
mutual
theorem Lf:∀(t:bX) (m:Int),0<=m->1<=mf t m/\mf t m<=m+1
 | .mk _ _ _ args,m,h=>by simp only[mf];exact TG args 1 m h Ω Ω
theorem TG:∀(l:List bX) (n m:Int),0<=m->1<=n->n<=m+1->1<=po l n m/\po l n m<=m+1
 |[],n,m,_,J,U=>by simp only[po];exact⟨J,U⟩
 |x::xs,n,m,bz,J,U=>by
  simp only[po];split
  ·exact⟨J,U⟩
  ·have:=Lf x (m-n) Ω;exact TG xs _ m bz Ω Ω
end
theorem GG:∀(t:T) (m:Int),0<=m->(mf t.tm m<=m↔(t.size:Int)<=m)/\((t.size:Int)<=m->mf t.tm m=t.size)
 | .pair a b,m,h=>by
  have bg:=T.size_pos a;have ad:=T.size_pos b;simp only[T.tm,mf,po,T.size];by_cases J:m<1
  ·rw[if_pos J];exact⟨Ω,fun h=>Ω⟩
  ·rw[if_neg J];obtain⟨bA,a2⟩:=GG a (m-1) Ω;have a3:=Lf a.tm (m-1) Ω;by_cases U:(a.size:Int)<=m-1
   ·have e:=a2 U;rw[e];by_cases h3:m<1+(a.size:Int)
    ·omega
    ·rw[if_neg h3];obtain⟨b1,b2⟩:=GG b (m-(1+a.size)) Ω;refine⟨Ω,fun h=>?_⟩;rw[b2 Ω];omega
   ·have:¬mf a.tm (m-1)<=m-1:=fun h=>U (bA.1 h);rw[if_pos Ω];exact⟨Ω,fun h=>Ω⟩
 | .nil,m,h=>by simp[T.tm,mf,po,T.size]
 | .var _,m,h=>by simp[T.tm,mf,po,T.size]
 | .sym _,m,h=>by simp[T.tm,mf,po,T.size]
 | .num _,m,h=>by simp[T.tm,mf,po,T.size]
theorem acX(t:bX)(m:Int):mf t m=po t.args 1 m:=by cases t;rfl
theorem aa7(t:bX):∀m:Int,0<=m->m<=1000000->bK aw 126 [enc t,.int .i64 m] (.int .i64 (mf t m)):=by
 suffices H:∀(k:Nat) (t:bX),t.sz<=k->∀m:Int,0<=m->m<=1000000->bK aw 126 [enc t,.int .i64 m] (.int .i64 (mf t m))from H _ t (dZ _)
 intro k;induction k with
 |zero=>intro t aI;cases t;simp[bX.sz]at aI
 |succ k bN=>
  intro t aI m bz J;refine bo eU afK amB fun aQ=>?_;unfold S4;have h7:t.args.length<=68719476736:=by rw[Dd]at aQ;simp[gQ,gi,gH,lim]at aQ;omega
  simp;refine eJ [1,9,10] (fun i (n:Int)=>[(5,.int .i64 n),(11,.int .i64 i)]) t.args.length (fun i n=>(1<=n/\n<=m+1)/\po (t.args.drop i) n m=mf t m) 1 b7 ⟨Ω,by simp[acX]⟩ (fun n ag _=>?_) (fun i n hi ag _=>?_)
  ·simp;(with_reducible repeat' first|refine ak ?_|simp);simp[bp,O0,aV,aY,aU];have:=ag.2;simp[po]at this;exact this
  ·obtain⟨⟨sO,DV⟩,ag⟩:=ag;obtain⟨x,ab,cY⟩:=eI hi;have aG:t.args.drop i=x::t.args.drop (i+1):=by rw[lu hi,cY]
   have dS:x.sz<=k:=by have:=apm (eF ab);omega
   rw[aG]at ag;simp only[po]at ag;simp[hi,cY];by_cases ad:m<n
   ·rw[if_pos ad]at ag;(with_reducible repeat' first|refine ak ?_|simp[ad]);simp[bp,O0,aV,aY,aU];exact ag
   ·rw[if_neg ad]at ag;have ao:=Lf x (m-n) Ω;((with_reducible repeat' first|refine ak ?_|refine aA (bN x dS (m-n) Ω Ω) ?_|refine aB (bN x dS (m-n) Ω Ω) ?_|simp[ad]|((first|apply bJ|apply bM|apply bL)<;>intro h<;>try simp at h))<;>(try exact ck));exact bR.rng (n+mf x (m-n)) hi ⟨Ω,ag⟩ b7
theorem CH(t:T):bK aw 129 [t.e] (.bool (decide (t.size<=5000))):=by
 have ao:=(GG t 5000 Ω).1;have key:=aa7 t.tm 5000 Ω Ω;rw[kn]at key;refine bo eU afM amD fun aQ=>?_;unfold S6;simp;(with_reducible repeat' first|refine ak ?_|refine aA key ?_|refine aB key ?_|simp);simp[bp,Zu,aV,aY,aU];have:(mf t.tm 5000<=5000)=(t.size<=5000):=by rw[ao];simp;omega
 simp[this]
def ajC(l:List ai)(v:Int)(k:Nat)(st:bn):Prop:=∃i:Nat,i<=l.length/\k=l.length-i/\cO l v=cO (l.drop i) v/\st=⟨[(1,.int .i64 v),(4,.ptr (.loc 0) 0),(8,.slice 5 .no (l.map ai.e)),(9,.int .i64 l.length),(10,.int .i64 i)],[(.loc 0,[.int .i64 0,.int .i64 0,.str [],.slice 4 .nil []])],[],1,[]⟩
theorem sa(l:List ai)(v:Int)(av:l.length<=1000000):bK aw 78 [.slice 5 .no (l.map ai.e),.int .i64 v] (.tuple [((cO l v).getD .nil).e,.bool (cO l v).isSome]):=by
 refine bo eU afW amN fun aQ=>?_;unfold Tg;simp;refine n1 (ajC l v) l.length _ b7 ⟨0,Ω,rfl,Ψ,rfl⟩ ?_;rintro k st ⟨i,hi,ae,aW,rfl⟩ jF cI;clear jF cI;by_cases bs:i<l.length
 ·obtain⟨b,ad⟩:∃b,l[i]? =some b:=⟨_,cg bs⟩;have VC:l.drop i=b::l.drop (i+1):=by rw[lu bs];rw[cg bs]at ad;simp at ad;rw[ad]
  have cJ:∀h,l[i]'h=b:=fun h=>by rw[cg h]at ad;simpa using ad
  simp[cJ,bs];(with_reducible repeat' first|((first|apply bJ|apply bM|apply bL)<;>intro h<;>try simp at h)|refine ak ?_|simp[cJ])
  ·have:cO l v=some b.t:=by rw[aW,VC];simp[cO,h]
   simp[bp,O2,aV,aY,aU];simp[this]
  ·refine bR.next (l.length-(i+1)) Ω ⟨i+1,Ω,rfl,?_,rfl⟩ b7;rw[aW,VC];simp[cO,h]
 ·have:cO l v=none:=by rw[aW,List.drop_of_length_le Ω];simp[cO]
  simp[bs];(with_reducible repeat' first|((first|apply bJ|apply bM|apply bL)<;>intro h<;>try simp at h)|refine ak ?_|simp);simp[bp,O2,aV,aY,aU];simp[this]
theorem Qh(l:List ai)(av:l.length<=1000000)(t:T):bK aw 38 [.slice 5 .no (l.map ai.e),t.e] (t.sub (cO l)).e:=by
 induction t with
 |pair a b dz dA=>
  refine bo eU LL Ou fun aQ=>?_;unfold GA;simp;(with_reducible repeat' first|refine ak ?_|refine aA dz ?_|refine aB dz ?_|refine aA dA ?_|refine aB dA ?_|refine aA (ye _ _) ?_|refine aB (ye _ _) ?_|simp);all_goals simp[bp,I6,aV,aY,aU]
  all_goals simp[T.sub]
 |var n=>
  refine bo eU LL Ou fun aQ=>?_;unfold GA;simp;((with_reducible repeat' first|refine ak ?_|refine aA (sa l n av) ?_|refine aB (sa l n av) ?_|simp|((first|apply bJ|apply bM|apply bL)<;>intro h<;>try simp at h))<;>(try exact ck));all_goals simp[bp,I6,aV,aY,aU]
  all_goals cases ad:cO l n<;>simp_all[T.sub]
 |_=>
  refine bo eU LL Ou fun aQ=>?_;unfold GA;simp;(with_reducible repeat' first|refine ak ?_|simp);all_goals simp[bp,I6,aV,aY,aU]
  all_goals simp[T.sub]
theorem abc(l:List ai)(av:l.length<=1000000)(t:T):bK aw 38 [.slice 5 .no (l.map ai.e),t.e] (t.ap (aR l)).e:=by have:=Qh l av t;rw[PX]at this;exact this
theorem Ad(l:List ai)(av:l.length<=1000000)(t:T):bK aw 79 [.slice 5 .no (l.map ai.e),t.e] (.tuple [(t.ap (aR l)).e,.bool (decide ((t.ap (aR l)).size<=5000))]):=by refine bo eU afU amL fun aQ=>?_;unfold Te;simp;(with_reducible repeat' first|refine ak ?_|refine aA (abc l av t) ?_|refine aB (abc l av t) ?_|refine aA (CH _) ?_|refine aB (CH _) ?_|simp);simp[bp,ZB,aV,aY,aU]
def xM(v:Int)(l:List T):Bool:=l.any (T.occ v)
theorem X8(v:Int)(t:T):t.occ v=(xM v t.args||(t.kind==1&&t.int==v)):=by cases t<;>simp[T.occ,xM]
theorem yd(v:Int)(t:T):bK aw 171 [.int .i64 v,t.e] (.bool (t.occ v)):=by
 suffices H:∀(k:Nat) (t:T),t.size<=k->bK aw 171 [.int .i64 v,t.e] (.bool (t.occ v))from H _ t (dZ _)
 intro k;induction k with
 |zero=>intro t aI;have:=T.size_pos t;omega
 |succ k bN=>
  intro t aI;have mM:t.args.length<=2:=by cases t<;>simp
  refine bo eU afP amG fun aQ=>?_;unfold S9;simp;refine eJ [0,3,8,9] (fun i (_:Unit)=>[(10,.int .i64 i)]) t.args.length (fun i _=>xM v (t.args.drop i)=xM v t.args) () b7 Ψ (fun _ ag _=>?_) (fun i _ hi ag _=>?_)
  ·have bz:xM v t.args=false:=by rw[<-ag];simp[xM]
   rw[X8,bz];simp;((with_reducible repeat' first|refine ak ?_|simp|((first|apply bJ|apply bM|apply bL)<;>intro h<;>try simp at h))<;>(try exact ck));all_goals simp[bp,O1,aV,aY,aU]
   all_goals simp_all
  ·obtain⟨x,ab,cY⟩:=eI hi;have aG:t.args.drop i=x::t.args.drop (i+1):=by rw[lu hi,cY]
   have dS:x.size<=k:=by have hm:=eF ab;have:=T.size_pos x;cases t<;>simp at hm;rcases hm with rfl|rfl<;>simp[T.size]at aI<;>omega
   simp only[aG,xM,List.any_cons]at ag;simp[hi,cY];cases ay:x.occ v with
   |true=>
    rw[ay]at ag;simp at ag;have bz:t.occ v=true:=by rw[X8];simp[xM];left;simpa using ag
    (with_reducible repeat' first|refine ak ?_|refine aA (bN x dS) ?_|refine aB (bN x dS) ?_|simp[ay]);simp[bp,O1,aV,aY,aU];simp[bz]
   |false=>rw[ay]at ag;have Ny:=bN x dS;exact hN
theorem JT(v:Int)(x t:T):bK aw 172 [t.e,.int .i64 v,x.e] (t.ap (Go.Pv.one v x)).e:=by
 induction t with
 |pair a b dz dA=>
  refine bo eU LK Ot fun aQ=>?_;unfold Gz;simp;(with_reducible repeat' first|refine ak ?_|refine aA dz ?_|refine aB dz ?_|refine aA dA ?_|refine aB dA ?_|refine aA (ye _ _) ?_|refine aB (ye _ _) ?_|simp);all_goals simp[bp,I5,aV,aY,aU]
  all_goals simp[T.ap]
 |var n=>
  refine bo eU LK Ot fun aQ=>?_;unfold Gz;simp;((with_reducible repeat' first|refine ak ?_|simp|((first|apply bJ|apply bM|apply bL)<;>intro h<;>try simp at h))<;>(try exact ck));all_goals simp[bp,I5,aV,aY,aU]
  all_goals simp_all[T.ap,Go.Pv.one]
 |_=>
  refine bo eU LK Ot fun aQ=>?_;unfold Gz;simp;(with_reducible repeat' first|refine ak ?_|simp);all_goals simp[bp,I5,aV,aY,aU]
  all_goals simp[T.ap]
theorem JV(s:List ai)(av:s.length<=1000000)(t:T):bK aw 151 [.slice 5 .no (s.map ai.e),t.e] (hF s t).e:=by
 cases t with
 |var n=>
  cases ad:cO s n with
  |none=>refine bo eU LM Ov fun aQ=>?_;unfold GB;simp;(with_reducible repeat' first|refine ak ?_|refine aA (sa s n av) ?_|refine aB (sa s n av) ?_|simp[ad]);simp[bp,I7,aV,aY,aU];simp[hF,aR,ad]
  |some x=>refine bo eU LM Ov fun aQ=>?_;unfold GB;simp;(with_reducible repeat' first|refine ak ?_|refine aA (sa s n av) ?_|refine aB (sa s n av) ?_|simp[ad]);simp[bp,I7,aV,aY,aU];simp[hF,aR,ad]
 |_=>refine bo eU LM Ov fun aQ=>?_;unfold GB;simp;(with_reducible repeat' first|refine ak ?_|simp);simp[bp,I7,aV,aY,aU];simp[hF]
theorem Wy(b:ai):∀(s:List ai) (k:Nat),(∀i c,i<k->s[i]? =some c->c.v<=b.v)->(∀c,s[k]? =some c->b.v<c.v)->k<=s.length->pK b s=s.take k++b::s.drop k
 |[],k,_,_,ae=>by simp at ae;subst ae;rfl
 |c::s,0,_,U,_=>by have:=U c rfl;simp[pK,this]
 |c::s,k+1,J,U,ae=>by have:=J 0 c Ω rfl;simp only[pK,if_neg (by omega:¬b.v<c.v),List.take_succ_cons,List.drop_succ_cons,bP];rw[Wy b s k (fun i d hi aG=>J (i+1) d Ω (by simpa using aG)) (fun d aG=>U d (by simpa using aG)) (by simpa using ae)]
theorem aqc(s:List ai)(b:ai)(av:s.length<=1000000)(bg:gO s):bK aw 173 [.slice 5 .no (s.map ai.e),b.e] (.slice 5 .no ((pK b s).map ai.e)):=by
 refine bo eU afX amO fun aQ=>?_;unfold Th;simp;refine wX [0,3] (fun(k:Nat)=>[(5,.int .i64 k)]) (fun k=>k) (fun k=>k<=s.length/\∀c,s[k]? =some c->b.v<c.v) s.length b7 ⟨Ω,fun c h=>by simp at h⟩ (fun k ag _=>?_);obtain⟨ae,ag⟩:=ag;have ue:(∀c,0<k->s[k-1]? =some c->c.v<=b.v)->pK b s=s.take k++b::s.drop k:=fun h=>Wy b s k (fun i c hi ao=>by
  obtain⟨d,aG⟩:∃d,s[k-1]? =some d:=⟨_,cg Ω⟩;have J:=h d Ω aG;rcases Nat.lt_or_ge i (k-1)with U|U
  ·have uf:=(fD.1 ao);have lZ:=(fD.1 aG);have:=pY.1 bg i (k-1) uf.1 lZ.1 U;rw[uf.2,lZ.2]at this;omega
  ·have:i=k-1:=Ω
   subst this;rw[aG]at ao;cases ao;exact J) ag ae
 rcases Nat.eq_zero_or_pos k with rfl|fR
 ·have e:=ue fun c h=>Ω
  rw[e];simp;(with_reducible repeat' first|refine ak ?_|simp);simp[bp,O3,aV,aY,aU];try simp[hl]
 ·obtain⟨d,aG⟩:∃d,s[k-1]? =some d:=⟨_,cg Ω⟩;have aq:((k:Int)-1).toNat=k-1:=Ω
  have aF:∀h,(s[k-1]'h)=d:=fun h=>by rw[cg h]at aG;exact eZ aG
  have jt:(0:Int)<k:=Ω
  by_cases ad:b.v<d.v
  ·simp[fR,jt,aq,aF,ad,aG];(with_reducible repeat' first|refine ak ?_|simp[fR,jt,aq,aF,ad,aG]);refine bR.whl (k-1) Ω ⟨Ω,fun c ao=>by rw[aG]at ao;cases ao;exact ad⟩ ?_;have bB:((k-1:Nat):Int)=(k:Int)-1:=Ω
   simp[bB];exact b7
  ·have e:=ue fun c _ ao=>by rw[aG]at ao;cases ao;omega
   rw[e];simp[fR,jt,aq,aF,ad,aG];(with_reducible repeat' first|refine ak ?_|simp[fR,jt,aq,aF,ad,aG]);simp[bp,O3,aV,aY,aU];have ds:pZ s.length (s.map ai.e)=s.map ai.e:=hl Ψ;rw[ds,<-List.map_take,<-List.map_drop,<-gZ,<-List.map_append];exact aan _
def PS(v:Int)(x:T)(b:ai):ai:=⟨b.v,b.t.ap (Go.Pv.one v x)⟩
def ajP(s:List ai)(v:Int)(x:T)(i:Nat)(out:List ai):Prop:=out=(s.take i).map (PS v x)/\∀b∈s.take i,(b.t.ap (Go.Pv.one v x)).size<=5000
theorem aqe(s:List ai)(v:Int)(t:T)(av:s.length<=1000000)(bg:gO s):bK aw 152 [.slice 5 .no (s.map ai.e),.int .i64 v,t.e] (fk (oP s v t)):=by
 obtain⟨x,ab⟩:∃x,x=t.ap (aR s):=⟨_,rfl⟩;have sF:=Ad s av t;rw[<-ab]at sF;obtain⟨o,ay⟩:∃o,o=oP s v t:=⟨_,rfl⟩;have oo:x.size<=5000->x.occ v=false->s.length<400->(∀b∈s,(b.t.ap (Go.Pv.one v x)).size<=5000)->o=some (nv s v x):=fun a1 bm bW cZ=>by rw[ay,oP,<-ab,if_pos ⟨a1,bm,bW,cZ⟩]
 have cU:¬(x.size<=5000/\x.occ v=false/\s.length<400/\∀b∈s,(b.t.ap (Go.Pv.one v x)).size<=5000)->o=none:=fun q=>by rw[ay,oP,<-ab,if_neg q]
 rw[<-ay];clear ay;by_cases J:x.size<=5000;rotate_left
 ·rw[cU fun h=>J h.1];refine bo eU GV IC fun aQ=>?_;unfold C9;simp;(with_reducible repeat' first|refine ak ?_|refine aA sF ?_|refine aB sF ?_|refine aA (yd _ _) ?_|refine aB (yd _ _) ?_|simp[J]);simp[bp,Ck,aV,aY,aU];simp[fk]
 cases U:x.occ v with
 |true=>rw[cU fun h=>by rw[U]at h;cases h.2.1];refine bo eU GV IC fun aQ=>?_;unfold C9;simp;(with_reducible repeat' first|refine ak ?_|refine aA sF ?_|refine aB sF ?_|refine aA (yd _ _) ?_|refine aB (yd _ _) ?_|simp[J,U]);simp[bp,Ck,aV,aY,aU];simp[fk]
 |false=>
 by_cases h3:s.length<400;rotate_left
 ·rw[cU fun h=>h3 h.2.2.1];have tZ:(400:Int)<=s.length:=Ω
  refine bo eU GV IC fun aQ=>?_;unfold C9;simp;(with_reducible repeat' first|refine ak ?_|refine aA sF ?_|refine aB sF ?_|refine aA (yd _ _) ?_|refine aB (yd _ _) ?_|simp[J,U,tZ]);simp[bp,Ck,aV,aY,aU];simp[fk]
 have tZ:¬(400:Int)<=s.length:=Ω
 refine bo eU GV IC fun aQ=>?_;unfold C9;simp;(with_reducible repeat' first|refine ak ?_|refine aA sF ?_|refine aB sF ?_|refine aA (yd _ _) ?_|refine aB (yd _ _) ?_|simp[J,U,tZ]);refine hI (α:=List ai) (fun i out=>⟨[(1,.int .i64 v),(8,.ptr (.loc 1) 0),(33,.slice 5 .no (s.map ai.e)),(34,.int .i64 s.length),(10,.slice 5 (.own (.loc 2)) (out.map ai.e)),(35,.int .i64 i)],[(.loc 1,[.int .i64 x.kind,.int .i64 x.int,.str x.name,.slice 4 .no (x.args.map T.e)])],[(.loc 2,⟨out.length,54,5,none⟩)],3,[]⟩) s.length (ajP s v x) [] b7 ⟨Ψ,Ψ⟩ (fun out ag _=>?_) (fun i out hi ag _=>?_)
 ·obtain⟨ec,oU⟩:=ag;rw[hl (dZ _)]at ec oU;have ahD:gO out:=by rw[ec,gO,List.pairwise_map];exact bg
  have Bh:out.length<=1000000:=by rw[ec];simpa using av
  rw[oo J U h3 oU];have key:=aqc out ⟨v,x⟩ Bh ahD;simp;(with_reducible repeat' first|refine ak ?_|refine aA key ?_|refine aB key ?_|simp);simp[bp,Ck,aV,aY,aU];simp[fk,nv,ec];rfl
 ·obtain⟨ec,oU⟩:=ag;obtain⟨b,az,gr⟩:=eI hi;have rK:s.take (i+1)=s.take i++[b]:=by rw[List.take_succ,az];rfl
  have Bh:out.length<=1000000:=by rw[ec];simp;omega
  simp[hi,gr];by_cases bd:(b.t.ap (Go.Pv.one v x)).size<=5000
  ·(with_reducible repeat' first|refine ak ?_|refine aA (JT _ _ _) ?_|refine aB (JT _ _ _) ?_|refine aA (CH _) ?_|refine aB (CH _) ?_|simp[gr,hi,bd]);all_goals first|(refine⟨by unfold lim;omega,?_⟩)|skip
   (with_reducible repeat' first|refine ak ?_|simp);refine bR.rng (out++[PS v x b]) hi ⟨by rw[rK,ec,List.map_append];rfl,fun c ao=>?_⟩ ?_
   ·rw[rK]at ao;rcases hQ.1 ao with ao|ao
    ·exact oU c ao
    ·simp at ao;subst ao;exact bd
   ·simp[PS];exact⟨by simp[fresh,aO,aJ,cn,inObs,Pv.look,jK],ek (by simp[fresh,aO,aJ,cn,inObs,Pv.look,jK]),en (by simp[fresh,aO,aJ,dW,inObs,Pv.look,jK]),Ψ⟩
  ·rw[cU fun h=>bd (h.2.2.2 b (eF az))];(with_reducible repeat' first|refine ak ?_|refine aA (JT _ _ _) ?_|refine aB (JT _ _ _) ?_|refine aA (CH _) ?_|refine aB (CH _) ?_|simp[gr,hi,bd]);simp[bp,Ck,aV,aY,aU];simp[fk]
theorem apB{s:List ai}(af:e1 s)(aN:ga s){n:Nat}{a b:T}{o:Option (List ai)}(h:lq n s a b=some o):jm s [(a,b)] o:=by obtain⟨n',o',J,U⟩:=JO af aN a b;have aq:=FC (Nat.le_max_left n n') h;have aF:=FC (Nat.le_max_right n n') J;rw[aq]at aF;cases aF;exact U
def CD(n:Nat):List (T×T)->List ai->Option (Option (List ai))
 |[],s=>some (some s)
 |e::r,s=>match lq n s e.1 e.2 with
  |none=>none
  |some none=>some none
  |some (some s1)=>CD n r s1
def zm(x y:T):Bool:=x.kind==y.kind&&x.int==y.int&&x.name==y.name
theorem apz(n:Nat)(s:List ai){x y:T}(ab:x.kind≠1)(aC:y.kind≠1):kJ (lq n) s x y=if zm x y then CD n (x.args.zip y.args) s else some none:=by
 cases x<;>cases y<;>simp[kJ,zm,CD]at ab aC⊢
 ·rename_i a b;split<;>simp_all
 ·rename_i a b;split<;>simp_all
 ·rename_i bA a2 b1 b2;cases lq n s bA b1 with
  |none=>rfl
  |some o=>cases o with
   |none=>rfl
   |some s1=>
    simp only
    cases lq n s1 a2 b2 with
    |none=>rfl
    |some o=>cases o<;>rfl
theorem akf{x y:T}(h:zm x y=true):x.args.length=y.args.length:=by cases x<;>cases y<;>simp[zm]at h⊢
@[simp]theorem ase(o:Option (List ai)):AN 0 (fk o)=some (True,.slice 5 .no ((o.getD []).map ai.e)):=rfl
@[simp]theorem asf(o:Option (List ai)):AN 1 (fk o)=some (True,.bool o.isSome):=rfl
theorem aqh(n:Nat):∀(s:List ai) (a b:T) (o:Option (List ai)),e1 s->ga s->lq n s a b=some o->bK aw 101 [.slice 5 .no (s.map ai.e),a.e,b.e] (fk o):=by
 induction n with
 |zero=>intro s a b o _ _ h;simp[lq]at h
 |succ n bN=>
  intro s a b o af aN he;have av:s.length<=1000000:=by have:=aN.1;omega
  have eY:=JV s av a;have dD:=JV s av b;simp only[lq]at he;generalize hF s a=x at he eY;generalize hF s b=y at he dD;have ad:=fun v t=>aqe s v t av af.asc;have rE:∀z:T,¬z.kind=1->(z.kind==1)=false:=fun z h=>by simp[h]
  by_cases ab:x.kind=1
  ·obtain⟨i,rfl⟩:∃i,x= .var i:=by cases x<;>simp at ab;exact⟨_,rfl⟩
   by_cases aC:y.kind=1
   ·obtain⟨j,rfl⟩:∃j,y= .var j:=by cases y<;>simp at aC;exact⟨_,rfl⟩
    simp only[kJ,dE]at he;subst he;rcases Int.lt_trichotomy i j with h|h|h
    ·rw[if_pos h];have key:=ad j (.var i);refine bo eU vs wh fun aQ=>?_;unfold tS;simp;(with_reducible repeat' first|refine ak ?_|refine aA eY ?_|refine aB eY ?_|refine aA dD ?_|refine aB dD ?_|refine aA key ?_|refine aB key ?_|simp[h]);simp[bp,tl,aV,aY,aU];simp[fk]
    ·subst h;rw[if_neg Ω,if_pos rfl];have bz:¬i<i:=Ω
     refine bo eU vs wh fun aQ=>?_;unfold tS;simp;(with_reducible repeat' first|refine ak ?_|refine aA eY ?_|refine aB eY ?_|refine aA dD ?_|refine aB dD ?_|simp[bz]);simp[bp,tl,aV,aY,aU];simp[fk]
    ·rw[if_neg Ω,if_neg Ω];have key:=ad i (.var j);have bz:¬i<j:=Ω
     have U:¬i=j:=Ω
     refine bo eU vs wh fun aQ=>?_;unfold tS;simp;((with_reducible repeat' first|refine ak ?_|refine aA eY ?_|refine aB eY ?_|refine aA dD ?_|refine aB dD ?_|refine aA key ?_|refine aB key ?_|simp[bz,U]|((first|apply bJ|apply bM|apply bL)<;>intro h<;>try simp at h))<;>(try exact ck));simp[bp,tl,aV,aY,aU];simp[fk]
   ·have xd:oP s i y=o:=by cases y<;>first|(simp at aC;done)|exact eZ he
    subst xd;have key:=ad i y;refine bo eU vs wh fun aQ=>?_;unfold tS;simp;(with_reducible repeat' first|refine ak ?_|refine aA eY ?_|refine aB eY ?_|refine aA dD ?_|refine aB dD ?_|refine aA key ?_|refine aB key ?_|simp[rE y aC]);simp[bp,tl,aV,aY,aU];simp[fk]
  ·by_cases aC:y.kind=1
   ·obtain⟨j,rfl⟩:∃j,y= .var j:=by cases y<;>simp at aC;exact⟨_,rfl⟩
    have xd:oP s j x=o:=by cases x<;>first|(simp at ab;done)|exact eZ he
    subst xd;have key:=ad j x;refine bo eU vs wh fun aQ=>?_;unfold tS;simp;(with_reducible repeat' first|refine ak ?_|refine aA eY ?_|refine aB eY ?_|refine aA dD ?_|refine aB dD ?_|refine aA key ?_|refine aB key ?_|simp[rE x ab]);simp[bp,tl,aV,aY,aU];simp[fk]
   ·rw[apz n s ab aC]at he;cases hle:zm x y with
    |false=>
     rw[hle]at he;simp at he;subst he;have MA:(x.kind !=y.kind)=true\/((x.kind !=y.kind)=false/\((x.int !=y.int)=true\/((x.int !=y.int)=false/\(x.name !=y.name)=true))):=by simp only[zm]at hle;simp only[bne];cases aq:(x.kind==y.kind)<;>cases aF:(x.int==y.int)<;>cases bB:(x.name==y.name)<;>simp_all
     rcases MA with a1|⟨a1,bm|⟨bm,bW⟩⟩
     ·refine bo eU vs wh fun aQ=>?_;unfold tS;simp;(with_reducible repeat' first|refine ak ?_|refine aA eY ?_|refine aB eY ?_|refine aA dD ?_|refine aB dD ?_|simp[rE x ab,rE y aC,a1]);simp[bp,tl,aV,aY,aU];simp[fk]
     ·refine bo eU vs wh fun aQ=>?_;unfold tS;simp;(with_reducible repeat' first|refine ak ?_|refine aA eY ?_|refine aB eY ?_|refine aA dD ?_|refine aB dD ?_|simp[rE x ab,rE y aC,a1,bm]);simp[bp,tl,aV,aY,aU];simp[fk]
     ·refine bo eU vs wh fun aQ=>?_;unfold tS;simp;have IQ:¬x.name=y.name:=by simpa using bW
      have anq:decide (x.name=y.name)=false:=by simp[IQ]
      ((with_reducible repeat' first|refine ak ?_|refine aA eY ?_|refine aB eY ?_|refine aA dD ?_|refine aB dD ?_|simp[rE x ab,rE y aC,a1,bm,bW,IQ,anq]|((first|apply bJ|apply bM|apply bL)<;>intro h<;>try simp at h))<;>(try exact ck));simp[bp,tl,aV,aY,aU];simp[fk]
    |true=>
     rw[hle,if_pos rfl]at he;have MA:(x.kind !=y.kind)=false/\(x.int !=y.int)=false/\(x.name !=y.name)=false:=by simp only[zm]at hle;simp only[bne];cases aq:(x.kind==y.kind)<;>cases aF:(x.int==y.int)<;>cases bB:(x.name==y.name)<;>simp_all
     obtain⟨a1,bm,bW⟩:=MA;have hlen:=akf hle;have IQ:x.name=y.name:=by simpa using bW
     have mM:x.args.length<=2:=by cases x<;>simp
     refine bo eU vs wh fun aQ=>?_;unfold tS;simp;(with_reducible repeat' first|refine ak ?_|refine aA eY ?_|refine aB eY ?_|refine aA dD ?_|refine aB dD ?_|simp[rE x ab,rE y aC,a1,bm,IQ]);refine hI (α:=List ai) (fun i ah=>⟨[(5,.ptr (.loc 1) 0),(96,.slice 4 .no (x.args.map T.e)),(97,.int .i64 x.args.length),(0,.slice 5 .no (ah.map ai.e)),(98,.int .i64 i)],[(.loc 1,[.int .i64 y.kind,.int .i64 y.int,.str y.name,.slice 4 .no (y.args.map T.e)])],[],2,[]⟩) x.args.length (fun i ah=>(e1 ah/\ga ah)/\CD n ((x.args.zip y.args).drop i) ah=some o) s b7 ⟨⟨af,aN⟩,by simpa using he⟩ (fun ah ag _=>?_) (fun i ah hi ag _=>?_)
     ·obtain⟨_,ag⟩:=ag;rw[List.drop_eq_nil_of_le (by simp[hlen])]at ag;simp[CD]at ag;subst ag;simp;(with_reducible repeat' first|refine ak ?_|simp);simp[bp,tl,aV,aY,aU];simp[fk]
     ·obtain⟨⟨g1,g2⟩,ag⟩:=ag;obtain⟨bA,bg⟩:∃a,x.args[i]? =some a:=⟨_,cg hi⟩;obtain⟨b1,gd⟩:∃b,y.args[i]? =some b:=⟨_,cg Ω⟩;have oc:∀h,(x.args[i]'h)=bA:=fun h=>by rw[cg hi]at bg;exact eZ bg
      have cJ:∀h,(y.args[i]'h)=b1:=fun h=>by rw[cg h]at gd;exact eZ gd
      have sL:i<y.args.length:=Ω
      have aG:(x.args.zip y.args).drop i=(bA,b1)::(x.args.zip y.args).drop (i+1):=by rw[lu d7];simp[oc,cJ]
      rw[aG]at ag;simp only[CD]at ag;simp[hi,oc,cJ,sL];cases hu:lq n ah bA b1 with
      |none=>rw[hu]at ag;cases ag
      |some ei=>
       have key:=bN ah bA b1 ei g1 g2 hu;rw[hu]at ag;cases ei with
       |none=>simp at ag;subst ag;(with_reducible repeat' first|refine ak ?_|refine aA key ?_|refine aB key ?_|simp[oc,cJ,hi,sL]);simp[bp,tl,aV,aY,aU];simp[fk]
       |some s1=>have ai8:=apB g1 g2 hu;(with_reducible repeat' first|refine ak ?_|refine aA key ?_|refine aB key ?_|simp[oc,cJ,hi,sL]);refine bR.rng s1 hi ⟨ai8.1,ag⟩ ?_;exact b7
theorem Qj(s:List ai)(a b:T)(af:e1 s)(aN:ga s):bK aw 101 [.slice 5 .no (s.map ai.e),a.e,b.e] (fk (mgu s [(a,b)])):=by obtain⟨n,o,J,U⟩:=JO af aN a b;rw[qo U];exact aqh n s a b o af aN J
def ajO(s:List ai)(E:List (T×T))(i:Nat)(ah:List ai):Prop:=(e1 ah/\ga ah)/\mgu ah (E.drop i)=mgu s E
theorem aqd(s:List ai)(l r:List T)(av:l.length=r.length)(af:e1 s)(aN:ga s)(sM:l.length<=1000000):bK aw 156 [.slice 5 .no (s.map ai.e),.slice 4 .no (l.map T.e),.slice 4 .no (r.map T.e)] (fk (mgu s (l.zip r))):=by
 refine bo eU afZ amQ fun aQ=>?_;unfold Tj;simp;refine hI (α:=List ai) (fun i ah=>⟨[(2,.slice 4 .no (r.map T.e)),(12,.slice 4 .no (l.map T.e)),(13,.int .i64 l.length),(0,.slice 5 .no (ah.map ai.e)),(14,.int .i64 i)],[],[],0,[]⟩) l.length (ajO s (l.zip r)) s b7 ⟨⟨af,aN⟩,Ψ⟩ (fun ah ag _=>?_) (fun i ah hi ag _=>?_)
 ·obtain⟨⟨g1,g2⟩,ag⟩:=ag;rw[List.drop_eq_nil_of_le (by simp[av]),EH g1 g2]at ag;rw[<-ag];simp;(with_reducible repeat' first|refine ak ?_|simp);simp[bp,O5,aV,aY,aU];simp[fk]
 ·obtain⟨⟨g1,g2⟩,ag⟩:=ag;obtain⟨a,bg⟩:∃a,l[i]? =some a:=⟨_,cg hi⟩;obtain⟨b,gd⟩:∃b,r[i]? =some b:=⟨_,cg Ω⟩;have oc:∀h,(l[i]'h)=a:=fun h=>by rw[cg hi]at bg;exact eZ bg
  have cJ:∀h,(r[i]'h)=b:=fun h=>by rw[cg h]at gd;exact eZ gd
  have sL:i<r.length:=Ω
  have aG:(l.zip r).drop i=(a,b)::(l.zip r).drop (i+1):=by rw[lu d7];simp[oc,cJ]
  rw[aG,N4 g1 g2]at ag;simp[hi,oc,cJ,sL];have key:=Qj ah a b g1 g2;cases hu:mgu ah [(a,b)]with
  |none=>rw[hu]at ag key;simp only at ag;rw[<-ag];(with_reducible repeat' first|refine ak ?_|refine aA key ?_|refine aB key ?_|simp[oc,cJ,hi,sL]);simp[bp,O5,aV,aY,aU];simp[fk]
  |some s1=>have qi:=q5 g1 g2 hu;rw[hu]at ag key;(with_reducible repeat' first|refine ak ?_|refine aA key ?_|refine aB key ?_|simp[oc,cJ,hi,sL]);refine bR.rng s1 hi ⟨qi,ag⟩ ?_;exact b7
theorem kM(n:Int):bK aw 84 [.int .i64 n] (T.var n).e:=by refine bo fT Ux Ys fun aQ=>?_;unfold K9;exact cz
def ajS(t:List ai)(i:Nat)(p:List T×List T):Prop:=p.1=(t.take i).map (fun b=>T.var b.v)/\p.2=(t.take i).map (·.t)
theorem aqf(s t:List ai)(af:e1 s)(aN:ga s)(aI:t.length<=1000000):bK aw 123 [.slice 5 .no (s.map ai.e),.slice 5 .no (t.map ai.e)] (fk (mgu s (gf t))):=by
 have bd:(t.map fun b=>T.var b.v).zip (t.map (·.t))=gf t:=by rw[gf,List.zip_map']
 refine bo eU af0 amR fun aQ=>?_;unfold Tk;simp;refine hI (α:=List T×List T) (fun i p=>⟨[(0,.slice 5 .no (s.map ai.e)),(12,.slice 5 .no (t.map ai.e)),(13,.int .i64 t.length),(6,.slice 4 (.own (.loc 0)) (p.1.map T.e)),(7,.slice 4 (.own (.loc 1)) (p.2.map T.e)),(14,.int .i64 i)],[],[(.loc 0,⟨p.1.length,36,4,none⟩),(.loc 1,⟨p.2.length,36,4,none⟩)],2,[]⟩) t.length (ajS t) ([],[]) b7 ⟨Ψ,Ψ⟩ (fun p ag _=>?_) (fun i p hi ag _=>?_)
 ·obtain⟨A,B⟩:=p;obtain⟨be,jE⟩:=ag;simp only at be jE⊢;rw[hl (dZ _)]at be jE;have key:=aqd s A B (by rw[be,jE];simp) af aN (by rw[be];simpa using aI);rw[be,jE,bd,<-be,<-jE]at key;simp;(with_reducible repeat' first|refine ak ?_|refine aA key ?_|refine aB key ?_|simp);simp[bp,ZC,aV,aY,aU];simp[fk]
 ·obtain⟨A,B⟩:=p;obtain⟨be,jE⟩:=ag;simp only at be jE⊢;obtain⟨b,az,gr⟩:=eI hi;have rK:t.take (i+1)=t.take i++[b]:=by rw[List.take_succ,az];rfl
  have ahr:A.length<=1000000:=by rw[be];simp;omega
  have ahs:B.length<=1000000:=by rw[jE];simp;omega
  simp[hi,gr];(with_reducible repeat' first|refine ak ?_|refine aA (kM _) ?_|refine aB (kM _) ?_|simp[gr,hi]);all_goals first|(refine⟨by unfold lim;omega,?_⟩)|skip
  (with_reducible repeat' first|refine ak ?_|simp);all_goals first|(refine⟨by unfold lim;omega,?_⟩)|skip
  (with_reducible repeat' first|refine ak ?_|simp);refine bR.rng (A++[.var b.v],B++[b.t]) hi ⟨by rw[rK,be];simp,by rw[rK,jE];simp⟩ ?_;simp;exact⟨by simp[fresh,aO,aJ,cn,inObs,Pv.look,jK],ek (by simp[fresh,aO,aJ,cn,inObs,Pv.look,jK]),en (by simp[fresh,aO,aJ,dW,inObs,Pv.look,jK]),Ψ⟩
theorem dx(n lo hi:Int):bK aw 67 [.int .i64 n,.int .i64 lo,.int .i64 hi] (.bool (decide (lo<=n/\n<=hi))):=by
 refine bo eU afF amw fun aQ=>?_;unfold SZ;simp;((with_reducible repeat' first|refine ak ?_|simp|((first|apply bJ|apply bM|apply bL)<;>intro h<;>try simp at h))<;>(try exact ck));all_goals simp[bp,Zp,aV,aY,aU]
 all_goals first|omega|(simp;done)|(simp;omega)
def shp:bX->Bool
 | .mk k n s [a,b]=>k==4&&n==0&&s==[]&&shp a&&shp b
 | .mk k n s []=>l1 k n s
 |_=>false
theorem JC:∀x:T,shp x.tm=x.ok
 | .nil=>by simp[T.tm,shp,l1,T.ok]
 | .var _=>by simp[T.tm,shp,l1,T.ok]
 | .sym _=>by simp[T.tm,shp,l1,T.ok]
 | .num _=>by simp[T.tm,shp,l1,T.ok]
 | .pair a b=>by simp[T.tm,shp,T.ok,JC a,JC b]
theorem aoR:∀(m:Nat) (t:bX),t.sz<=m->shp t=true->∃x:T,x.tm=t:=by
 intro m;induction m with
 |zero=>intro t aI;cases t;simp[bX.sz]at aI
 |succ m bN=>
  rintro⟨k,n,s,args⟩ aI h;match args with
  |[a,b]=>
   simp[bX.sz,bX.szL]at aI;simp only[shp,cr,dM]at h;obtain⟨⟨⟨⟨rfl,rfl⟩,h3⟩,J⟩,U⟩:=h;obtain⟨x,rfl⟩:=bN a Ω J;obtain⟨y,rfl⟩:=bN b Ω U;have:s=[]:=by simpa using h3
   subst this;exact⟨.pair x y,rfl⟩
  |[]=>
   simp only[shp,l1]at h;split at h
   ·subst_vars;simp at h;exact⟨.nil,by simp[T.tm,h]⟩
   split at h
   ·subst_vars;simp at h;exact⟨.var n,by simp[T.tm,h]⟩
   split at h
   ·subst_vars;simp at h;exact⟨.sym s,by simp[T.tm,h]⟩
   split at h
   ·subst_vars;simp at h;exact⟨.num n,by simp[T.tm,h]⟩
   ·simp at h
  |[_]=>simp[shp]at h
  |_::_::_::_=>simp[shp]at h
theorem agk(t:bX):t.fits=(decide (mf t 5000<=5000)&&shp t):=by
 by_cases h:shp t=true
 ·obtain⟨x,rfl⟩:=aoR _ t (dZ _) h;have:=(GG x 5000 Ω).1;rw[bX.fits_T,T.fit,h];rw[JC]at h;simp[h,this];omega
 ·have bz:t.fits=false:=by
   cases aN:t.fits with
   |false=>rfl
   |true=>obtain⟨x,rfl,ab⟩:=bX.fits_ex aN;rw[JC]at h;simp[T.fit]at ab;exact absurd ab.1 h
  simp at h;rw[bz,h];simp
def Nh(s:List UInt8)(i:Nat):Prop:=i<=s.length/\∀k,k<i->nH (s.getD k 0)=true/\(k=0->low (s.getD k 0)=true)
theorem ajL{s:List UInt8}(h:Nh s s.length):iK s=decide (1<=s.length/\s.length<=12):=by
 unfold iK;by_cases av:1<=s.length
 ·have J:=(h.2 0 Ω).2 rfl;have U:(s.drop 1).all nH=true:=by rw[fV];intro b ad;obtain⟨i,hi,e⟩:=oI ad;simp at hi e;have:=(h.2 (i+1) Ω).1;rw[List.getD_eq_getElem?_getD,cg Ω]at this;simp only[iB]at this;rw[<-e];exact this
  rw[J,U];simp
 ·have:decide (1<=s.length/\s.length<=12)=false:=by simp;omega
  rw[this];simp
theorem ajK{s:List UInt8}{i:Nat}(hi:i<s.length)(h:nH (s.getD i 0)=false\/(i=0/\low (s.getD i 0)=false)):iK s=false:=by
 cases e:iK s with
 |false=>rfl
 |true=>
  exfalso;simp only[iK,cr,fV]at e;obtain⟨⟨_,aq⟩,aF⟩:=e;rcases h with h|⟨rfl,h⟩
  ·by_cases bz:i=0
   ·subst bz;rw[nH,aq]at h;simp at h
   ·have:=aF (s.getD i 0) (by rw[List.getD_eq_getElem?_getD,cg hi];simp only[iB];refine List.mem_iff_getElem.2 ⟨i-1,by simp;omega,?_⟩;simp[show i-1+1=i from by omega])
    rw[this]at h;cases h
  ·rw[aq]at h;cases h
theorem hs(s:List UInt8):bK aw 119 [.str s] (.bool (iK s)):=by
 generalize bH:iK s=R;refine bo eU afu aml fun aQ=>?_;unfold SL;have h7:s.length<=68719476736:=by simp[gQ,gi,gH,lim]at aQ;omega
 simp;refine wX [0] (fun(i:Nat)=>[(3,.int .i64 i)]) (fun i=>s.length-i) (Nh s) 0 b7 ⟨Ω,fun k ae=>Ω⟩ (fun i ag _=>?_);have ec:=ag.1;by_cases hi:i<s.length
 ·have cU:=ajK hi;rw[bH]at cU;obtain⟨c,ao,jq⟩:=eI hi;have Vx:s.getD i 0=c:=by simp[List.getD_eq_getElem?_getD,ao]
  rw[Vx]at cU;have dd:nH c=true->(i=0->low c=true)->Nh s (i+1):=fun J U=>⟨Ω,fun k ae=>by
   rcases(by omega:k<i\/k=i)with h|rfl
   ·exact ag.2 k h
   ·rw[Vx];exact⟨J,U⟩⟩
  have hw:nT.wrap (c.toNat:Int)=c.toNat:=nm _ (by have:=c.toNat_lt;omega);simp[hi,jq,ao];by_cases a1:(97:Int)<=c.toNat
  ·by_cases bm:(c.toNat:Int)<=122
   ·have av:low c=true:=by simp[low];omega
    (with_reducible repeat' first|refine ak ?_|refine aA (dx _ _ _) ?_|refine aB (dx _ _ _) ?_|simp[hi,jq,ao,a1,bm]);exact bR.whl (i+1) Ω (dd (by simp[nH,av]) (fun _=>av)) b7
   ·have av:low c=false:=by simp[low];omega
    by_cases bz:i=0
    ·rw[cU (.inr ⟨bz,av⟩)];have sA:((i:Int)==0)=true:=by simp[bz]
     (with_reducible repeat' first|refine ak ?_|refine aA (dx _ _ _) ?_|refine aB (dx _ _ _) ?_|simp[hi,jq,ao,a1,bm,sA,hw]);simp[bp,Cg,aV,aY,aU]
    ·have sA:((i:Int)==0)=false:=by simp[bz]
     by_cases bW:(c.toNat:Int)=45
     ·have tk:((c.toNat:Int) !=45)=false:=by simp[bW]
      (with_reducible repeat' first|refine ak ?_|refine aA (dx _ _ _) ?_|refine aB (dx _ _ _) ?_|simp[hi,jq,ao,a1,bm,sA,hw,bW,tk]);all_goals exact bR.whl (i+1) Ω (dd (by simp[nH];omega) (fun h=>absurd h bz)) b7
     ·have tk:((c.toNat:Int) !=45)=true:=by simp[bW]
      by_cases cZ:(48:Int)<=c.toNat/\(c.toNat:Int)<=57
      ·(with_reducible repeat' first|refine ak ?_|refine aA (dx _ _ _) ?_|refine aB (dx _ _ _) ?_|simp[hi,jq,ao,a1,bm,sA,hw,bW,tk,cZ]);all_goals exact bR.whl (i+1) Ω (dd (by simp[nH];omega) (fun h=>absurd h bz)) b7
      ·rw[cU (.inl (by simp[nH,av];omega))];(with_reducible repeat' first|refine ak ?_|refine aA (dx _ _ _) ?_|refine aB (dx _ _ _) ?_|simp[hi,jq,ao,a1,bm,sA,hw,bW,tk,cZ]);simp[bp,Cg,aV,aY,aU]
  ·have av:low c=false:=by simp[low];omega
   by_cases bz:i=0
   ·rw[cU (.inr ⟨bz,av⟩)];have sA:((i:Int)==0)=true:=by simp[bz]
    (with_reducible repeat' first|refine ak ?_|refine aA (dx _ _ _) ?_|refine aB (dx _ _ _) ?_|simp[hi,jq,ao,a1,sA,hw]);simp[bp,Cg,aV,aY,aU]
   ·have sA:((i:Int)==0)=false:=by simp[bz]
    by_cases bW:(c.toNat:Int)=45
    ·have tk:((c.toNat:Int) !=45)=false:=by simp[bW]
     (with_reducible repeat' first|refine ak ?_|refine aA (dx _ _ _) ?_|refine aB (dx _ _ _) ?_|simp[hi,jq,ao,a1,sA,hw,bW,tk]);all_goals exact bR.whl (i+1) Ω (dd (by simp[nH];omega) (fun h=>absurd h bz)) b7
    ·have tk:((c.toNat:Int) !=45)=true:=by simp[bW]
     by_cases cZ:(48:Int)<=c.toNat/\(c.toNat:Int)<=57
     ·(with_reducible repeat' first|refine ak ?_|refine aA (dx _ _ _) ?_|refine aB (dx _ _ _) ?_|simp[hi,jq,ao,a1,sA,hw,bW,tk,cZ]);all_goals exact bR.whl (i+1) Ω (dd (by simp[nH];omega) (fun h=>absurd h bz)) b7
     ·rw[cU (.inl (by simp[nH,av];omega))];(with_reducible repeat' first|refine ak ?_|refine aA (dx _ _ _) ?_|refine aB (dx _ _ _) ?_|simp[hi,jq,ao,a1,sA,hw,bW,tk,cZ]);simp[bp,Cg,aV,aY,aU]
 ·have:i=s.length:=Ω
  subst this;rw[ajL ag]at bH;simp[hi];(with_reducible repeat' first|refine ak ?_|refine aA (dx _ _ _) ?_|refine aB (dx _ _ _) ?_|simp[hi]);simp[bp,Cg,aV,aY,aU];rw[<-bH,qz];simp;omega
def wC:List bX->Bool
 |[a,b]=>shp a&&shp b
 |_=>false
theorem aoQ(k n:Int)(s:List UInt8)(args:List bX):shp ⟨k,n,s,args⟩=if k≠1/\k≠3/\n≠0 then false else if k≠2/\s≠[]then false else if k≠4/\args≠[]then false else if k=0 then true else if k=1 then decide (0<=n/\n<=100000)else if k=2 then iK s else if k=3 then decide (-1000000000<=n/\n<=1000000000)else if k=4 then wC args else false:=by
 by_cases hp:k=0
 ·subst hp;match args with
  |[]=>by_cases au:n=0<;>by_cases af:s=[]<;>simp[shp,l1,au,af]
  |[a]=>simp[shp]
  |[a,b]=>simp[shp]
  |_::_::_::_=>simp[shp]
 by_cases aS:k=1
 ·subst aS;match args with
  |[]=>by_cases af:s=[]<;>simp[shp,l1,af]
  |[a]=>simp[shp]
  |[a,b]=>simp[shp]
  |_::_::_::_=>simp[shp]
 by_cases bf:k=2
 ·subst bf;match args with
  |[]=>by_cases au:n=0<;>simp[shp,l1,au]
  |[a]=>simp[shp]
  |[a,b]=>simp[shp]
  |_::_::_::_=>simp[shp]
 by_cases b4:k=3
 ·subst b4;match args with
  |[]=>by_cases af:s=[]<;>simp[shp,l1,af]
  |[a]=>simp[shp]
  |[a,b]=>simp[shp]
  |_::_::_::_=>simp[shp]
 by_cases ep:k=4
 ·subst ep;match args with
  |[]=>simp[shp,l1,wC]
  |[a]=>simp[shp,wC]
  |[a,b]=>by_cases au:n=0<;>by_cases af:s=[]<;>simp[shp,wC,au,af]
  |_::_::_::_=>simp[shp,wC]
 ·match args with
  |[]=>simp[shp,l1,hp,aS,bf,b4,ep]
  |[a]=>simp[shp,hp,aS,bf,b4,ep]
  |[a,b]=>simp[shp,hp,aS,bf,b4,ep]
  |_::_::_::_=>simp[shp,hp,aS,bf,b4,ep]
set_option maxRecDepth 8000 in
theorem aqa(m:Nat):∀(t:bX),t.sz<=m->bK aw 127 [enc t] (.bool (shp t)):=by
 induction m with
 |zero=>intro t aI;cases t;simp[bX.sz]at aI
 |succ m bN=>
 rintro⟨k,n,s,args⟩ aI;generalize bH:shp ⟨k,n,s,args⟩=R;have c1:=aoQ k n s args;rw[bH]at c1;by_cases b1:k≠1/\k≠3/\n≠0
 ·rw[if_pos b1]at c1;obtain⟨aS,b4,n0⟩:=b1;have BA:(k !=1)=true:=by simp[aS]
  have BB:(k !=3)=true:=by simp[b4]
  have N7:(n !=0)=true:=by simp[n0]
  subst c1;refine bo eU nz nP fun aQ=>?_;unfold mJ;simp[bX.kind,bX.num,bX.name,bX.args];(with_reducible repeat' first|refine ak ?_|refine aA (dx _ _ _) ?_|refine aB (dx _ _ _) ?_|refine aA (hs _) ?_|refine aB (hs _) ?_|simp[BA,BB,N7]);all_goals simp[bp,mA,aV,aY,aU]
 rw[if_neg b1]at c1;have C0:(if k !=1 then k !=3 else false)=true->(n !=0)=false:=by intro h;simp at h⊢;exact Classical.byContradiction fun au=>b1 ⟨h.1,h.2,au⟩
 by_cases b2:k≠2/\s≠[]
 ·rw[if_pos b2]at c1;have H0:(k !=2)=true:=by simp[b2.1]
  have Pr:s.isEmpty=false:=by simp[b2.2]
  by_cases aS:k=1
  ·subst aS;subst c1;refine bo eU nz nP fun aQ=>?_;unfold mJ;simp[bX.kind,bX.num,bX.name,bX.args];(with_reducible repeat' first|refine ak ?_|refine aA (dx _ _ _) ?_|refine aB (dx _ _ _) ?_|refine aA (hs _) ?_|refine aB (hs _) ?_|simp[Pr]);all_goals simp[bp,mA,aV,aY,aU]
  by_cases b4:k=3
  ·subst b4;subst c1;refine bo eU nz nP fun aQ=>?_;unfold mJ;simp[bX.kind,bX.num,bX.name,bX.args];(with_reducible repeat' first|refine ak ?_|refine aA (dx _ _ _) ?_|refine aB (dx _ _ _) ?_|refine aA (hs _) ?_|refine aB (hs _) ?_|simp[Pr]);all_goals simp[bp,mA,aV,aY,aU]
  have BA:(k !=1)=true:=by simp[aS]
  have BB:(k !=3)=true:=by simp[b4]
  have N7:(n !=0)=false:=C0 (by simp[aS,b4]);subst c1;refine bo eU nz nP fun aQ=>?_;unfold mJ;simp[bX.kind,bX.num,bX.name,bX.args];(with_reducible repeat' first|refine ak ?_|refine aA (dx _ _ _) ?_|refine aB (dx _ _ _) ?_|refine aA (hs _) ?_|refine aB (hs _) ?_|simp[BA,BB,N7,H0,Pr]);all_goals simp[bp,mA,aV,aY,aU]
 rw[if_neg b2]at c1;by_cases hp:k=0
 ·subst hp;have n0:n=0:=by simpa using C0 (by decide)
  have s0:s=[]:=Classical.byContradiction fun h=>b2 ⟨Ω,h⟩;subst n0 s0;by_cases a0:args=[];rotate_left
  ·rw[if_pos ⟨Ω,a0⟩]at c1;have vh:(0:Int)<args.length:=by have:=List.length_pos_iff.2 a0;omega
   subst c1;refine bo eU nz nP fun aQ=>?_;unfold mJ;simp[bX.kind,bX.num,bX.name,bX.args];((with_reducible repeat' first|refine ak ?_|refine aA (dx _ _ _) ?_|refine aB (dx _ _ _) ?_|refine aA (hs _) ?_|refine aB (hs _) ?_|simp[sd,vh]|((first|apply bJ|apply bM|apply bL)<;>intro h<;>try simp at h))<;>(try exact ck));all_goals simp[bp,mA,aV,aY,aU]
  rw[if_neg (by simp[a0])]at c1;subst a0;simp at c1;subst c1;refine bo eU nz nP fun aQ=>?_;unfold mJ;simp[bX.kind,bX.num,bX.name,bX.args];(with_reducible repeat' first|refine ak ?_|refine aA (dx _ _ _) ?_|refine aB (dx _ _ _) ?_|refine aA (hs _) ?_|refine aB (hs _) ?_|simp[sd]);all_goals simp[bp,mA,aV,aY,aU]
 by_cases aS:k=1
 ·subst aS;have s0:s=[]:=Classical.byContradiction fun h=>b2 ⟨Ω,h⟩;subst s0;by_cases a0:args=[];rotate_left
  ·rw[if_pos ⟨Ω,a0⟩]at c1;have vh:(0:Int)<args.length:=by have:=List.length_pos_iff.2 a0;omega
   subst c1;refine bo eU nz nP fun aQ=>?_;unfold mJ;simp[bX.kind,bX.num,bX.name,bX.args];((with_reducible repeat' first|refine ak ?_|refine aA (dx _ _ _) ?_|refine aB (dx _ _ _) ?_|refine aA (hs _) ?_|refine aB (hs _) ?_|simp[sd,vh]|((first|apply bJ|apply bM|apply bL)<;>intro h<;>try simp at h))<;>(try exact ck));all_goals simp[bp,mA,aV,aY,aU]
  rw[if_neg (by simp[a0])]at c1;subst a0;simp at c1;subst c1;refine bo eU nz nP fun aQ=>?_;unfold mJ;simp[bX.kind,bX.num,bX.name,bX.args];(with_reducible repeat' first|refine ak ?_|refine aA (dx _ _ _) ?_|refine aB (dx _ _ _) ?_|refine aA (hs _) ?_|refine aB (hs _) ?_|simp[sd]);all_goals simp[bp,mA,aV,aY,aU]
 by_cases bf:k=2
 ·subst bf;have n0:n=0:=by simpa using C0 (by decide)
  subst n0;by_cases a0:args=[];rotate_left
  ·rw[if_pos ⟨Ω,a0⟩]at c1;have vh:(0:Int)<args.length:=by have:=List.length_pos_iff.2 a0;omega
   subst c1;refine bo eU nz nP fun aQ=>?_;unfold mJ;simp[bX.kind,bX.num,bX.name,bX.args];((with_reducible repeat' first|refine ak ?_|refine aA (dx _ _ _) ?_|refine aB (dx _ _ _) ?_|refine aA (hs _) ?_|refine aB (hs _) ?_|simp[sd,vh]|((first|apply bJ|apply bM|apply bL)<;>intro h<;>try simp at h))<;>(try exact ck));all_goals simp[bp,mA,aV,aY,aU]
  rw[if_neg (by simp[a0])]at c1;subst a0;simp at c1;subst c1;refine bo eU nz nP fun aQ=>?_;unfold mJ;simp[bX.kind,bX.num,bX.name,bX.args];(with_reducible repeat' first|refine ak ?_|refine aA (dx _ _ _) ?_|refine aB (dx _ _ _) ?_|refine aA (hs _) ?_|refine aB (hs _) ?_|simp[sd]);all_goals simp[bp,mA,aV,aY,aU]
 by_cases b4:k=3
 ·subst b4;have s0:s=[]:=Classical.byContradiction fun h=>b2 ⟨Ω,h⟩;subst s0;by_cases a0:args=[];rotate_left
  ·rw[if_pos ⟨Ω,a0⟩]at c1;have vh:(0:Int)<args.length:=by have:=List.length_pos_iff.2 a0;omega
   subst c1;refine bo eU nz nP fun aQ=>?_;unfold mJ;simp[bX.kind,bX.num,bX.name,bX.args];((with_reducible repeat' first|refine ak ?_|refine aA (dx _ _ _) ?_|refine aB (dx _ _ _) ?_|refine aA (hs _) ?_|refine aB (hs _) ?_|simp[sd,vh]|((first|apply bJ|apply bM|apply bL)<;>intro h<;>try simp at h))<;>(try exact ck));all_goals simp[bp,mA,aV,aY,aU]
  rw[if_neg (by simp[a0])]at c1;subst a0;simp at c1;subst c1;refine bo eU nz nP fun aQ=>?_;unfold mJ;simp[bX.kind,bX.num,bX.name,bX.args];(with_reducible repeat' first|refine ak ?_|refine aA (dx _ _ _) ?_|refine aB (dx _ _ _) ?_|refine aA (hs _) ?_|refine aB (hs _) ?_|simp[sd]);all_goals simp[bp,mA,aV,aY,aU]
 by_cases ep:k=4
 ·subst ep;have n0:n=0:=by simpa using C0 (by decide)
  have s0:s=[]:=Classical.byContradiction fun h=>b2 ⟨Ω,h⟩;subst n0 s0;simp at c1;match args,c1 with
  |[a,b],c1=>
   simp[bX.sz,bX.szL]at aI;have bg:=bN a Ω;have ad:=bN b Ω;simp only[wC]at c1;subst c1;refine bo eU nz nP fun aQ=>?_;unfold mJ;simp[bX.kind,bX.num,bX.name,bX.args];cases q:shp a with
   |true=>rw[q]at bg;(with_reducible repeat' first|refine ak ?_|refine aA bg ?_|refine aB bg ?_|refine aA ad ?_|refine aB ad ?_|simp[sd]);all_goals simp[bp,mA,aV,aY,aU]
   |false=>rw[q]at bg;(with_reducible repeat' first|refine ak ?_|refine aA bg ?_|refine aB bg ?_|refine aA ad ?_|refine aB ad ?_|simp[sd]);all_goals simp[bp,mA,aV,aY,aU]
  |[],c1=>simp only[wC]at c1;subst c1;refine bo eU nz nP fun aQ=>?_;unfold mJ;simp[bX.kind,bX.num,bX.name,bX.args];(with_reducible repeat' first|refine ak ?_|refine aA (dx _ _ _) ?_|refine aB (dx _ _ _) ?_|refine aA (hs _) ?_|refine aB (hs _) ?_|simp[sd]);all_goals simp[bp,mA,aV,aY,aU]
  |[_],c1=>simp only[wC]at c1;subst c1;refine bo eU nz nP fun aQ=>?_;unfold mJ;simp[bX.kind,bX.num,bX.name,bX.args];(with_reducible repeat' first|refine ak ?_|refine aA (dx _ _ _) ?_|refine aB (dx _ _ _) ?_|refine aA (hs _) ?_|refine aB (hs _) ?_|simp[sd]);all_goals simp[bp,mA,aV,aY,aU]
  |_::_::_::l,c1=>
   simp only[wC]at c1;have av:((l.length:Int)+1+1+1==2)=false:=by simp;omega
   subst c1;refine bo eU nz nP fun aQ=>?_;unfold mJ;simp[bX.kind,bX.num,bX.name,bX.args];(with_reducible repeat' first|refine ak ?_|refine aA (dx _ _ _) ?_|refine aB (dx _ _ _) ?_|refine aA (hs _) ?_|refine aB (hs _) ?_|simp[av]);all_goals simp[bp,mA,aV,aY,aU]
 have n0:(n !=0)=false:=C0 (by simp[aS,b4]);have s0:s=[]:=Classical.byContradiction fun h=>b2 ⟨bf,h⟩;subst s0;have WL:(k==0)=false:=by simp[hp]
 have BA:(k==1)=false:=by simp[aS]
 have H0:(k==2)=false:=by simp[bf]
 have BB:(k==3)=false:=by simp[b4]
 have WQ:(k==4)=false:=by simp[ep]
 have WM:(k !=1)=true:=by simp[aS]
 have WN:(k !=2)=true:=by simp[bf]
 have WO:(k !=3)=true:=by simp[b4]
 have WR:(k !=4)=true:=by simp[ep]
 by_cases a0:args=[]
 ·subst a0;simp[hp,aS,bf,b4,ep]at c1;subst c1;refine bo eU nz nP fun aQ=>?_;unfold mJ;simp[bX.kind,bX.num,bX.name,bX.args];(with_reducible repeat' first|refine ak ?_|refine aA (dx _ _ _) ?_|refine aB (dx _ _ _) ?_|refine aA (hs _) ?_|refine aB (hs _) ?_|simp[WL,BA,H0,BB,WQ,WM,WN,WO,WR,n0]);all_goals simp[bp,mA,aV,aY,aU]
 ·rw[if_pos ⟨ep,a0⟩]at c1;have vh:(0:Int)<args.length:=by have:=List.length_pos_iff.2 a0;omega
  subst c1;refine bo eU nz nP fun aQ=>?_;unfold mJ;simp[bX.kind,bX.num,bX.name,bX.args];((with_reducible repeat' first|refine ak ?_|refine aA (dx _ _ _) ?_|refine aB (dx _ _ _) ?_|refine aA (hs _) ?_|refine aB (hs _) ?_|simp[vh,WL,BA,H0,BB,WQ,WM,WN,WO,WR,n0]|((first|apply bJ|apply bM|apply bL)<;>intro h<;>try simp at h))<;>(try exact ck));all_goals simp[bp,mA,aV,aY,aU]
theorem FJ(t:bX):bK aw 76 [enc t] (.bool t.fits):=by
 rw[agk];have ao:=aa7 t 5000 Ω Ω;have af:=aqa t.sz t (dZ _);refine bo eU afC amt fun aQ=>?_;unfold SV;simp;by_cases q:mf t 5000<=5000
 ·exact cz
 ·exact cz
def SM:C:=(aa [bq 2 false] (.seq (aa [I 5 0,cD 6 5,cf 7 0] (ff 8 7 6 (.seq (.block 1 (aa [I 9 7,cC 10 2 5 7,aX 11 2 10,cS (.alloc 4 none (.agg [.int .i64 0,.int .i64 0])),I 3 9,bD 2 4 11] (.seq (.drawn true 42 [I 12 3,aT 13 .gtr 12 0,I 14 13,bT 14 true 15 0,bT 14 true 16 3,ar 14 true (aT 17 .sub 16 1),ar 14 true (cC 18 2 15 17),ar 14 true (aK 19 0 1 18),ar 14 true (ax 20 1 19),ar 14 true (aK 21 0 1 4),ar 14 true (ax 22 1 21),ar 14 true (bt 23 .geq 20 22),dh 24 14 23,I 25 24,ar 25 false (aK 26 0 1 4),ar 25 false (ax 27 1 26),ar 25 false (c0 28 67 [.t 27,(ef 0),(ef 100000)]),ar 25 false (cx 29 28),c3 30 25 29,I 31 30,ar 31 false (aK 32 1 1 4),ar 31 false (ax 33 1 32),ar 31 false (aT 34 .neq 33 2),bT 31 false 35 34,ar 35 true (aK 36 1 1 4),ar 35 true (ax 37 1 36),ar 35 true (aT 38 .neq 37 3),ar 31 false (dh 39 35 38),c3 40 31 39]) (aZ 40 (aa [bq 2 false] .ret) .skip)))) (.region [aT 41 .add 7 1,I 7 41])))) (aa [bq 2 true] .ret)))
@[simp] def E8:List bV:=[.tmp 2]
def SR:C:=(aa [bq 2 false] (.seq (aa [I 5 0,cD 6 5,cf 7 0] (ff 8 7 6 (.seq (.block 1 (aa [I 9 7,cC 10 2 5 7,aX 11 2 10,cS (.alloc 4 none (.agg [.int .i64 0,.str []])),I 3 9,bD 2 4 11] (.seq (.drawn true 37 [I 12 3,aT 13 .gtr 12 0,I 14 13,bT 14 true 15 0,bT 14 true 16 3,ar 14 true (aT 17 .sub 16 1),ar 14 true (cC 18 2 15 17),ar 14 true (aX 19 2 18),ar 14 true (aX 20 2 4),ar 14 true (cc 21 118 19 20),ar 14 true (cx 22 21),dh 23 14 22,I 24 23,ar 24 false (aK 25 0 1 4),ar 24 false (ax 26 1 25),ar 24 false (c0 27 67 [.t 26,(ef 0),(ef 100000)]),ar 24 false (cx 28 27),c3 29 24 28,I 30 29,ar 30 false (aK 31 1 1 4),ar 30 false (ax 32 1 31),ar 30 false (cH 33 119 32),ar 30 false (cx 34 33),c3 35 30 34]) (aZ 35 (aa [bq 2 false] .ret) .skip)))) (.region [aT 36 .add 7 1,I 7 36])))) (aa [bq 2 true] .ret)))
@[simp] def Ch:List bV:=[.tmp 2]
def AG:C:=(aa [cW 4 1,eM 6 2,bq 7 false] (.seq (aa [aK 10 0 1 4,ax 11 1 10,aT 12 .neq 11 1] (aZ 12 (.seq (.drawn true 73 [I 13 0,aK 14 0 1 4,ax 15 1 14,I 16 2,bt 17 .eql 15 16,I 6 13,I 7 17]) .ret) .skip)) (aa [cf 8 0] (.seq (.block 0 (.loop (.seq (.seq (.drawn true 73 [I 18 8,I 19 0,cD 20 19,bt 21 .lss 18 20,I 22 21,bT 22 true 23 0,bT 22 true 24 8,ar 22 true (cC 25 2 23 24),ar 22 true (aK 26 0 1 25),ar 22 true (ax 27 1 26),ar 22 true (aK 28 1 1 4),ar 22 true (ax 29 1 28),ar 22 true (bt 30 .lss 27 29),dh 31 22 30]) (aZ 31 .skip (.exit 0))) (.block 1 (.region [I 32 8,aT 33 .add 32 1,I 8 33]))))) (.seq (.seq (.drawn true 73 [I 34 8,I 35 0,cD 36 35,bt 37 .lss 34 36,I 38 37,bT 38 true 39 0,bT 38 true 40 8,ar 38 true (cC 41 2 39 40),ar 38 true (aK 42 0 1 41),ar 38 true (ax 43 1 42),ar 38 true (aK 44 1 1 4),ar 38 true (ax 45 1 44),ar 38 true (bt 46 .eql 43 45),dh 47 38 46]) (aZ 47 (.seq (.drawn true 73 [I 48 0,I 49 0,I 50 8,cC 51 2 49 50,aK 52 1 1 51,ax 53 1 52,I 54 2,bt 55 .eql 53 54,I 6 48,I 7 55]) .ret) .skip)) (aa [dV 56 2 59 [],I 57 0,I 58 8,bS 59 (.lsl 2 (.t 57) none (some (.t 58))),gN 60 2 59 56 59,I 9 60] (aa [I 61 9,aK 62 1 1 4,ax 63 1 62,I 64 2,bS 65 (.build [.int .i64 0,.int .i64 0] [(0,1,(.t 63)),(1,1,(.t 64))]),dV 66 2 59 [.t 65],gN 67 2 59 61 66,I 9 67] (aa [I 68 9,I 69 0,I 70 8,bS 71 (.lsl 2 (.t 69) (some (.t 70)) none),gN 72 2 59 68 71,I 6 72,bq 7 true] .ret))))))))
@[simp] def xU:List bV:=[.tmp 6,.tmp 7]
def Lb:C:=(aa [cW 4 1,eM 6 2,bq 7 false] (.seq (aa [aX 13 4 4,I 14 2,cc 15 132 13 14] (aZ 15 (aa [eM 6 2,bq 7 false] .ret) .skip)) (.seq (aa [aX 16 4 4,c0 17 77 [.t 16,(.c (.slice 1 .nil []))],cD 18 17,cf 19 0] (ff 20 19 18 (.seq (.block 1 (aa [cC 21 1 17 19,ax 22 1 21,I 9 22] (aa [I 23 9,I 24 2,bS 25 (.build [.int .i64 0,.str []] [(0,1,(.t 23)),(1,1,(.t 24))]),cS (.alloc 10 none (.agg [.int .i64 0,.str []])),bD 2 10 25] (aa [cf 11 0] (.seq (.block 2 (.loop (.seq (.seq (.drawn true 68 [I 26 11,I 27 0,cD 28 27,bt 29 .lss 26 28,I 30 29,bT 30 true 31 0,bT 30 true 32 11,ar 30 true (cC 33 2 31 32),ar 30 true (aX 34 2 33),ar 30 true (aX 35 2 10),ar 30 true (cc 36 118 34 35),dh 37 30 36]) (aZ 37 .skip (.exit 2))) (.block 3 (.region [I 38 11,aT 39 .add 38 1,I 11 39]))))) (.seq (.drawn true 68 [I 40 11,I 41 0,cD 42 41,bt 43 .eql 40 42,I 44 43,ar 44 false (aX 45 2 10),bT 44 false 46 0,bT 44 false 47 11,ar 44 false (cC 48 2 46 47),ar 44 false (aX 49 2 48),ar 44 false (cc 50 118 45 49),c3 51 44 50]) (aZ 51 (aa [dV 52 2 56 [],I 53 0,I 54 11,bS 55 (.lsl 2 (.t 53) none (some (.t 54))),gN 56 2 56 52 55,I 12 56] (aa [I 57 12,aX 58 2 10,dV 59 2 56 [.t 58],gN 60 2 56 57 59,I 12 60] (.region [I 61 12,I 62 0,I 63 11,bS 64 (.lsl 2 (.t 62) (some (.t 63)) none),gN 65 2 56 61 64,I 0 65]))) .skip))))))) (.fg false 0 (.region [aT 66 .add 19 1,I 19 66]))))) (aa [I 67 0,I 6 67,bq 7 true] .ret))))
@[simp] def O7:List bV:=[.tmp 6,.tmp 7]
def GC:C:=(aa [cW 2 0,cW 3 1,bq 4 false] (aa [aK 5 0 1 2,ax 6 1 5,aK 7 0 1 3,ax 8 1 7,bt 9 .lss 6 8,I 10 9,ar 10 false (aK 11 0 1 2),ar 10 false (ax 12 1 11),ar 10 false (aK 13 0 1 3),ar 10 false (ax 14 1 13),ar 10 false (bt 15 .eql 12 14),bT 10 false 16 15,ar 16 true (aK 17 1 1 2),ar 16 true (ax 18 1 17),ar 16 true (aK 19 1 1 3),ar 16 true (ax 20 1 19),ar 16 true (bt 21 .lss 18 20),ar 10 false (dh 22 16 21),c3 23 10 22,I 4 23] .ret))
@[simp] def aoe:List bV:=[.tmp 4]
def Tq:C:=(aa [eM 4 2,bq 5 false] (aa [dV 10 2 59 [],I 6 10] (aa [bq 7 true] (.seq (.seq (.fg false 6 (.region [I 11 1,cD 12 11,cf 13 0])) (ff 14 13 12 (.seq (.block 1 (aa [cC 15 2 11 13,aX 16 2 15,cS (.alloc 9 none (.agg [.int .i64 0,.int .i64 0])),bD 2 9 16] (.seq (.drawn true 33 [I 18 6,I 19 0,aK 20 0 1 9,ax 21 1 20,cH 22 84 21,cc 23 151 19 22,aK 24 1 1 9,ax 25 1 24,c0 26 103 [.t 18,.t 23,.t 25],I 17 26,cp 27 0 17,cp 28 1 17,I 6 27,I 7 28]) (aa [I 29 7,cx 30 29] (aZ 30 (aa [eM 4 2,bq 5 false] .ret) .skip))))) (.region [aT 31 .add 13 1,I 13 31])))) (aa [I 32 6,I 4 32,bq 5 true] .ret)))))
@[simp] def O6:List bV:=[.tmp 4,.tmp 5]
def Tr:C:=(aa [eM 4 2,bq 5 false] (aa [dV 10 2 56 [],I 6 10] (aa [bq 7 true] (.seq (.seq (.fg false 6 (.region [I 11 1,cD 12 11,cf 13 0])) (ff 14 13 12 (.seq (.block 1 (aa [cC 15 2 11 13,aX 16 2 15,cS (.alloc 9 none (.agg [.int .i64 0,.str []])),bD 2 9 16] (.seq (.drawn true 33 [I 18 6,I 19 0,aK 20 0 1 9,ax 21 1 20,cH 22 84 21,cc 23 151 19 22,aK 24 1 1 9,ax 25 1 24,c0 26 104 [.t 18,.t 23,.t 25],I 17 26,cp 27 0 17,cp 28 1 17,I 6 27,I 7 28]) (aa [I 29 7,cx 30 29] (aZ 30 (aa [eM 4 2,bq 5 false] .ret) .skip))))) (.region [aT 31 .add 13 1,I 13 31])))) (aa [I 32 6,I 4 32,bq 5 true] .ret)))))
@[simp] def O8:List bV:=[.tmp 4,.tmp 5]
def AF:C:=(aa [cW 2 0,bq 4 false] (.seq (aa [aK 7 3 1 2,ax 8 1 7,cD 9 8,cf 10 0] (ff 11 10 9 (.seq (.block 1 (aa [cC 12 4 8 10,aX 13 4 12,cR 6 da,bD 4 6 13] (aa [aX 14 4 6,I 15 1,cc 16 132 14 15] (aZ 16 (aa [bq 4 true] .ret) .skip)))) (.region [aT 17 .add 10 1,I 10 17])))) (aa [aK 18 0 1 2,ax 19 1 18,aT 20 .eql 19 2,I 21 20,ar 21 true (aK 22 2 1 2),ar 21 true (ax 23 1 22),bT 21 true 24 1,ar 21 true (bt 25 .eql 23 24),dh 26 21 25,I 4 26] .ret)))
@[simp] def xT:List bV:=[.tmp 4]
def wG:List (Nat×dy):=[
 (3,⟨1,8,.int .i64,.int .i64 0⟩),
 (9,⟨1,16,.str,.str []⟩),
 (25,⟨1,24,.slice 59,.slice 2 .nil []⟩),
 (26,⟨1,24,.slice 56,.slice 2 .nil []⟩),
 (34,⟨1,24,.slice 36,.slice 4 .nil []⟩),
 (36,⟨4,56,.struct [(0,3),(1,3),(2,9),(3,34)],.agg [.int .i64 0,.int .i64 0,.str [],.slice 4 .nil []]⟩),
 (56,⟨2,24,.struct [(0,3),(1,9)],.agg [.int .i64 0,.str []]⟩),
 (59,⟨2,16,.struct [(0,3),(1,3)],.agg [.int .i64 0,.int .i64 0]⟩),
 (97,⟨1,24,.slice 3,.slice 1 .nil []⟩)]
theorem nh:fJ aw wG=true:=by kernel_rfl
theorem amm:b6 wG SM E8 1 Tryz.f70=true:=by kernel_rfl
theorem afv:aw.funcs[(70:Nat)]? =some Tryz.f70:=Tryz.func70
theorem amr:b6 wG SR Ch 1 Tryz.f71=true:=by kernel_rfl
theorem afA:aw.funcs[(71:Nat)]? =some Tryz.f71:=Tryz.func71
theorem ET:b6 wG AG xU 3 Tryz.f103=true:=by kernel_rfl
theorem Dm:aw.funcs[(103:Nat)]? =some Tryz.f103:=Tryz.func103
theorem Yu:b6 wG Lb O7 3 Tryz.f104=true:=by kernel_rfl
theorem Uz:aw.funcs[(104:Nat)]? =some Tryz.f104:=Tryz.func104
theorem Ow:b6 wG GC aoe 2 Tryz.f118=true:=by kernel_rfl
theorem LN:aw.funcs[(118:Nat)]? =some Tryz.f118:=Tryz.func118
theorem amX:b6 wG Tq O6 2 Tryz.f121=true:=by kernel_rfl
theorem af6:aw.funcs[(121:Nat)]? =some Tryz.f121:=Tryz.func121
theorem amY:b6 wG Tr O8 2 Tryz.f122=true:=by kernel_rfl
theorem af7:aw.funcs[(122:Nat)]? =some Tryz.f122:=Tryz.func122
theorem ES:b6 wG AF xT 2 Tryz.f132=true:=by kernel_rfl
theorem Dl:aw.funcs[(132:Nat)]? =some Tryz.f132:=Tryz.func132
open Classical in
theorem aqG(l:List b8):bK aw 70 [.slice 2 .no (l.map b8.e)] (.bool (decide (hj l))):=by
 generalize bH:decide (hj l)=R;refine bo nh afv amm fun aQ=>?_;unfold SM;have h7:l.length<=68719476736:=by simp[gQ,gi,gH,lim]at aQ;omega
 simp;refine eJ [0,5,6] (fun i (_:Unit)=>[(7,.int .i64 i)]) l.length (fun i _=> ∀j,j<i->iE mX oq l j) () b7 (fun k ae=>Ω) (fun _ ag _=>?_) (fun i _ hi ag _=>?_)
 ·have:R=true:=by rw[<-bH,eN,H7];exact ag
  rw[this];exact cz
 ·obtain⟨b,ad⟩:∃b,l[i]? =some b:=⟨_,cg hi⟩;obtain⟨c,ao⟩:∃c,l[i-1]? =some c:=⟨_,cg Ω⟩;have cJ:∀h,(l[i]'h)=b:=fun h=>by rw[cg hi]at ad;exact eZ ad
  have cU:¬iE mX oq l i->R=false:=fun h=>by rw[<-bH,gD];exact fun b9=>h (H7.1 b9 i hi)
  have dd:iE mX oq l i->∀j,j<i+1->iE mX oq l j:=fun h j jX=>by
   by_cases e:j=i
   ·rw[e];exact h
   ·exact ag j Ω
  have qf:iE mX oq l i->mX b:=fun h=>(h b ad).1;have bs:iE mX oq l i->0<i->c.v<b.v:=fun h bz=>(h b ad).2 c bz ao;have eh:mX b->(0<i->c.v<b.v)->iE mX oq l i:=fun J U b3 gd=>by rw[ad]at gd;cases gd;exact⟨J,fun cq bz hx=>by rw[ao]at hx;cases hx;exact U bz⟩
  unfold mX at qf eh;by_cases g0:0<i/\¬c.v<b.v
  ·rw[cU (fun h=>g0.2 (bs h g0.1))];have asx:=g0.1;have w2:b.v<=c.v:=Ω
   exact cz
  have aG:(decide (0<i)&&decide (b.v<=c.v))=false:=by simp;intro h;by_cases cE:c.v<b.v;exact cE;exact absurd ⟨h,cE⟩ g0
  by_cases g1:0<=b.v/\b.v<=100000;rotate_left
  ·rw[cU (fun h=>g1 (qf h).1)];have lW:decide (0<=b.v/\b.v<=100000)=false:=by simp only[gD];exact g1
   by_cases bz:0<i
   ·have w2:¬b.v<=c.v:=by simp[bz]at aG;omega
    simp[hi,cJ,ao];(with_reducible repeat' first|refine ak ?_|refine aA (dx _ _ _) ?_|refine aB (dx _ _ _) ?_|simp[cJ,ao,hi,bz,w2,lW,g1]);all_goals simp[bp,E8,aV,aY,aU]
   ·obtain rfl:i=0:=Ω
    simp[hi,cJ,ao];(with_reducible repeat' first|refine ak ?_|refine aA (dx _ _ _) ?_|refine aB (dx _ _ _) ?_|simp[cJ,ao,hi,lW,g1]);all_goals simp[bp,E8,aV,aY,aU]
  have lW:decide (0<=b.v/\b.v<=100000)=true:=by simp only[eN];exact g1
  by_cases g2:b.k=2\/b.k=3;rotate_left
  ·rw[cU (fun h=>g2 (qf h).2)];have g21:(b.k !=2)=true:=by simp;omega
   have g22:(b.k !=3)=true:=by simp;omega
   by_cases bz:0<i
   ·have w2:¬b.v<=c.v:=by simp[bz]at aG;omega
    simp[hi,cJ,ao];(with_reducible repeat' first|refine ak ?_|refine aA (dx _ _ _) ?_|refine aB (dx _ _ _) ?_|simp[cJ,ao,hi,bz,w2,lW,g1,g21,g22]);all_goals simp[bp,E8,aV,aY,aU]
   ·obtain rfl:i=0:=Ω
    simp[hi,cJ,ao];(with_reducible repeat' first|refine ak ?_|refine aA (dx _ _ _) ?_|refine aB (dx _ _ _) ?_|simp[cJ,ao,hi,lW,g1,g21,g22]);all_goals simp[bp,E8,aV,aY,aU]
  have dG:=dd (eh ⟨g1,g2⟩ fun bz=>by simp[bz]at aG;omega);have G4:((b.k !=2)=false)\/((b.k !=2)=true/\(b.k !=3)=false):=by
   rcases g2 with h|h
   ·left;simp[h]
   ·right;simp[h]
  rcases G4 with g21|⟨g21,g22⟩
  ·by_cases bz:0<i
   ·have w2:¬b.v<=c.v:=by simp[bz]at aG;omega
    simp[hi,cJ,ao];(with_reducible repeat' first|refine ak ?_|refine aA (dx _ _ _) ?_|refine aB (dx _ _ _) ?_|simp[cJ,ao,hi,bz,w2,lW,g1,g21]);all_goals exact bR.rng () hi dG b7
   ·obtain rfl:i=0:=Ω
    simp[hi,cJ,ao];(with_reducible repeat' first|refine ak ?_|refine aA (dx _ _ _) ?_|refine aB (dx _ _ _) ?_|simp[cJ,ao,hi,lW,g1,g21]);all_goals exact bR.rng () hi dG b7
  ·by_cases bz:0<i
   ·have w2:¬b.v<=c.v:=by simp[bz]at aG;omega
    simp[hi,cJ,ao];(with_reducible repeat' first|refine ak ?_|refine aA (dx _ _ _) ?_|refine aB (dx _ _ _) ?_|simp[cJ,ao,hi,bz,w2,lW,g1,g21,g22]);all_goals exact bR.rng () hi dG b7
   ·obtain rfl:i=0:=Ω
    simp[hi,cJ,ao];(with_reducible repeat' first|refine ak ?_|refine aA (dx _ _ _) ?_|refine aB (dx _ _ _) ?_|simp[cJ,ao,hi,lW,g1,g21,g22]);all_goals exact bR.rng () hi dG b7
theorem mE(a b:bj):bK aw 118 [a.e,b.e] (.bool (h8 fx a b)):=by
 rw[<-XU];have bH:uM a b=(decide (a.v<b.v)||(a.v==b.v&&hP a.s b.s)):=rfl;rcases Int.lt_trichotomy a.v b.v with h|h|h
 ·have:uM a b=true:=by rw[bH];simp[h]
  rw[this];refine bo nh LN Ow fun aQ=>?_;unfold GC;exact cz
 ·have J:¬a.v<b.v:=Ω
  have U:(a.v==b.v)=true:=by simp[h]
  have:uM a b=hP a.s b.s:=by rw[bH];simp[h]
  rw[this];refine bo nh LN Ow fun aQ=>?_;unfold GC;exact cz
 ·have J:¬a.v<b.v:=Ω
  have U:¬a.v=b.v:=Ω
  have h3:(a.v==b.v)=false:=by simp[U]
  have:uM a b=false:=by rw[bH];simp[J,U]
  rw[this];refine bo nh LN Ow fun aQ=>?_;unfold GC;exact cz
def WI(l:List dO)(i:Nat)(_:Unit):Prop:= ∀j,j<i->BZ l j
open Classical in
theorem abd(l:List dO):bK aw 75 [.slice 5 .no (l.map dO.e)] (.bool (decide (wL l))):=by
 generalize bH:decide (wL l)=R;refine bo eU afY amP fun aQ=>?_;unfold Ti;have h7:l.length<=68719476736:=by simp[gQ,gi,gH,lim]at aQ;omega
 simp;refine eJ [0,5,6] (fun i (_:Unit)=>[(7,.int .i64 i)]) l.length (WI l) () b7 (fun k ae=>Ω) (fun _ ag _=>?_) (fun i _ hi ag _=>?_)
 ·have:R=decide (l.length<=400):=by rw[<-bH,decide_eq_decide];exact⟨fun h=>h.1,fun h=>⟨h,fun j jX=>ag j jX⟩⟩
  rw[this];simp;(with_reducible repeat' first|refine ak ?_|simp);simp[bp,O4,aV,aY,aU];all_goals(first|done|omega|(simp;done)|(simp;omega))
 ·obtain⟨b,ad⟩:∃b,l[i]? =some b:=⟨_,cg hi⟩;obtain⟨c,ao⟩:∃c,l[i-1]? =some c:=⟨_,cg Ω⟩;have cJ:∀h,(l[i]'h)=b:=fun h=>by rw[cg hi]at ad;exact eZ ad
  have cU:¬BZ l i->R=false:=fun h=>by rw[<-bH,gD];exact fun b9=>h (b9.2 i hi)
  have dd:BZ l i->WI l (i+1) ():=fun h j jX=>by
   by_cases e:j=i
   ·rw[e];exact h
   ·exact ag j Ω
  simp[hi,cJ,ao];((with_reducible repeat' first|refine ak ?_|refine aA (dx _ _ _) ?_|refine aB (dx _ _ _) ?_|refine aA (FJ _) ?_|refine aB (FJ _) ?_|simp[cJ,ao,hi]|((first|apply bJ|apply bM|apply bL)<;>intro h<;>try simp at h))<;>(try exact ck));all_goals first
   |(have au:¬BZ l i:=by(intro b9;have J:=b9 b ad;have U:=J.2.1 c;have h3:=J.2.2;first|omega|(have h4:=U Ω ao;omega)|(rw[h3]at h;cases h)|(simp_all;done)|(simp_all;omega))
     rw[cU au]
     simp[bp,O4,aV,aY,aU]
     done)
   |(refine bR.rng () hi (dd fun b3 gd=>?_) ?_
     ·rw[ad]at gd;cases gd
      refine⟨?_,fun cq bz hx=>?_,?_⟩
      ·omega
      ·rw[ao]at hx;cases hx;omega
      ·first|assumption|simp_all
     ·exact b7)
def nJ(n:Int):List Int->List Int
 |[]=>[n]
 |c::l=>if c<n then c::nJ n l else if c=n then c::l else n::c::l
def tI(l:List Int):Prop:=l.Pairwise (· < ·)
theorem WA(n:Int):∀(l:List Int) (k:Nat),(∀i c,i<k->l[i]? =some c->c<n)->(∀c,l[k]? =some c->n<=c)->k<=l.length->nJ n l=if l[k]? =some n then l else l.take k++n::l.drop k
 |[],k,_,_,ae=>by simp at ae;subst ae;rfl
 |c::l,0,_,U,_=>by
  have:=U c rfl;by_cases e:c=n
  ·simp[nJ,e]
  ·have h3:¬c<n:=Ω
   simp[nJ,h3,e]
 |c::l,k+1,J,U,ae=>by have bz:=J 0 c Ω rfl;simp only[nJ,if_pos bz,List.take_succ_cons,List.drop_succ_cons,bP,List.getElem?_cons_succ];rw[WA n l k (fun i d hi aG=>J (i+1) d Ω (by simpa using aG)) (fun d aG=>U d (by simpa using aG)) (by simpa using ae)];split<;>rfl
theorem NZ{n m:Int}:∀{l:List Int},m∈nJ n l↔m=n\/m∈l
 |[]=>by simp[nJ]
 |c::l=>by
  simp only[nJ];split
  ·simp only[fm,NZ (l:=l)];constructor
   ·rintro(h|h|h)
    ·exact .inr (.inl h)
    ·exact .inl h
    ·exact .inr (.inr h)
   ·rintro(h|h|h)
    ·exact .inr (.inl h)
    ·exact .inl h
    ·exact .inr (.inr h)
  ·split
   ·rename_i h;subst h;simp
   ·simp
theorem Wz{n:Int}:∀{l:List Int},tI l->tI (nJ n l)
 |[],_=>by simp[nJ,tI]
 |c::l,h=>by
  obtain⟨J,U⟩:=np.1 h;simp only[nJ];split
  ·rename_i h3;refine np.2 ⟨fun m hm=>?_,Wz U⟩;rcases NZ.1 hm with rfl|hm
   ·exact h3
   ·exact J m hm
  ·split
   ·exact h
   ·refine np.2 ⟨fun m hm=>?_,h⟩;rcases fm.1 hm with rfl|hm
    ·omega
    ·have:=J m hm;omega
theorem WB(n:Int):∀l:List Int,(nJ n l).length<=l.length+1
 |[]=>by simp[nJ]
 |c::l=>by
  have:=WB n l;simp only[nJ];split
  ·simp;omega
  ·split<;>simp
theorem Ed(l:List Int)(i:Nat):(eC l)[i]? =(l[i]?).map (aj.int .i64):=by simp[eC]
theorem e9(l:List Int):(eC l).length=l.length:=by simp[eC]
theorem z1:∀l:List Int,dq (eC l)=eC l
 |[]=>by simp[eC,dq]
 |a::l=>by have:=z1 l;simp only[eC,gZ,dq,eb]at this⊢;rw[this]
theorem HT(l:List Int)(n:Int)(k:Nat):dq (pZ k (eC l)++aj.int .i64 n::List.drop k (pZ l.length (eC l)))=eC (pZ k l++n::List.drop k l):=by
 have e:pZ l.length (eC l)=eC l:=hl (by simp[eC]);have aF:pZ k (eC l)++aj.int .i64 n::List.drop k (eC l)=eC (pZ k l++n::List.drop k l):=by simp only[eC,List.map_append,gZ,List.map_take,List.map_drop]
 rw[e,aF];exact z1 _
theorem ap9(l:List Int)(n:Int)(av:l.length<=1000000)(bg:tI l):bK aw 128 [.slice 1 .no (eC l),.int .i64 n] (.slice 1 .no (eC (nJ n l))):=by
 refine bo eU afN amE fun aQ=>?_;unfold S7;simp;refine wX [0,1] (fun(k:Nat)=>[(5,.int .i64 k)]) (fun k=>k) (fun k=>k<=l.length/\∀c,l[k]? =some c->n<=c) l.length b7 ⟨Ω,fun c h=>by simp at h⟩ (fun k ag _=>?_);obtain⟨ae,ag⟩:=ag;have ue:(∀c,0<k->l[k-1]? =some c->c<n)->nJ n l=if l[k]? =some n then l else l.take k++n::l.drop k:=fun h=>WA n l k (fun i c hi ao=>by
  obtain⟨d,aG⟩:∃d,l[k-1]? =some d:=⟨_,cg Ω⟩;have J:=h d Ω aG;rcases Nat.lt_or_ge i (k-1)with U|U
  ·have uf:=(fD.1 ao);have lZ:=(fD.1 aG);have:=pY.1 bg i (k-1) uf.1 lZ.1 U;rw[uf.2,lZ.2]at this;omega
  ·have:i=k-1:=Ω
   subst this;rw[aG]at ao;cases ao;exact J) ag ae
 have kf:∀c,l[k]? =some c->∀h,((eC l)[k]'h)= .int .i64 c:=fun c h b9=>by have:=Ed l k;rw[h,cg b9]at this;exact eZ this
 have dG:(0<k->∃d,l[k-1]? =some d/\d<n)->∀P:Prop,(nJ n l=(if l[k]? =some n then l else l.take k++n::l.drop k)->P)->P:=fun h P kq=>kq (ue fun c bz ao=>by obtain⟨d,aG,J⟩:=h bz;rw[aG]at ao;cases ao;exact J)
 rcases Nat.eq_zero_or_pos k with bz|fR
 ·have bd:decide ((0:Int)<k)=false:=by simp;omega
  refine dG (fun h=>Ω) _ fun e=>?_;by_cases ij:k<l.length
  ·obtain⟨c,ao⟩:∃c,l[k]? =some c:=⟨_,cg ij⟩;have hx:=kf c ao;rw[ao]at e;by_cases q:c=n
   ·have gl:(c==n)=true:=by simp[q]
    rw[if_pos (by rw[q])]at e;rw[e];simp[bd,ij];((with_reducible repeat' first|refine ak ?_|simp[bd,ij,hx,gl]|((first|apply bJ|apply bM|apply bL)<;>intro h<;>try simp at h))<;>(try exact ck));all_goals simp[bp,zJ,aV,aY,aU]
   ·have gl:(c==n)=false:=by simp[q]
    rw[if_neg (by simp[q])]at e;rw[e];simp[bd,ij];((with_reducible repeat' first|refine ak ?_|simp[bd,ij,hx,gl]|((first|apply bJ|apply bM|apply bL)<;>intro h<;>try simp at h))<;>(try exact ck));all_goals simp[bp,zJ,aV,aY,aU]
    all_goals exact HT l n k
  ·rw[rf Ω]at e;simp only[reduceCtorEq,if_false]at e;rw[e];simp[bd,ij];((with_reducible repeat' first|refine ak ?_|simp[bd,ij]|((first|apply bJ|apply bM|apply bL)<;>intro h<;>try simp at h))<;>(try exact ck));all_goals simp[bp,zJ,aV,aY,aU]
   all_goals exact HT l n k
 ·obtain⟨d,aG⟩:∃d,l[k-1]? =some d:=⟨_,cg Ω⟩;have aq:((k:Int)-1).toNat=k-1:=Ω
  have aF:∀h,((eC l)[k-1]'h)= .int .i64 d:=fun b9=>by have:=Ed l (k-1);rw[aG,cg b9]at this;exact eZ this
  have jt:(0:Int)<k:=Ω
  have mS:k-1<l.length:=Ω
  by_cases ad:n<=d
  ·simp[fR,jt,aq,aF,ad,mS];(with_reducible repeat' first|refine ak ?_|simp[fR,jt,aq,aF,ad,mS]);refine bR.whl (k-1) Ω ⟨Ω,fun c ao=>by rw[aG]at ao;cases ao;exact ad⟩ ?_;have bB:((k-1:Nat):Int)=(k:Int)-1:=Ω
   simp[bB];exact b7
  ·refine dG (fun _=>⟨d,aG,Ω⟩) _ fun e=>?_;by_cases ij:k<l.length
   ·obtain⟨c,ao⟩:∃c,l[k]? =some c:=⟨_,cg ij⟩;have hx:=kf c ao;rw[ao]at e;by_cases q:c=n
    ·have gl:(c==n)=true:=by simp[q]
     rw[if_pos (by rw[q])]at e;rw[e];simp[fR,jt,aq,aF,ad,mS,ij];((with_reducible repeat' first|refine ak ?_|simp[fR,jt,aq,aF,ad,mS,ij,hx,gl]|((first|apply bJ|apply bM|apply bL)<;>intro h<;>try simp at h))<;>(try exact ck));all_goals simp[bp,zJ,aV,aY,aU]
    ·have gl:(c==n)=false:=by simp[q]
     rw[if_neg (by simp[q])]at e;rw[e];simp[fR,jt,aq,aF,ad,mS,ij];(with_reducible repeat' first|refine ak ?_|simp[fR,jt,aq,aF,ad,mS,ij,hx,gl]);all_goals simp[bp,zJ,aV,aY,aU]
     all_goals exact HT l n k
   ·rw[rf Ω]at e;simp only[reduceCtorEq,if_false]at e;rw[e];simp[fR,jt,aq,aF,ad,mS,ij];(with_reducible repeat' first|refine ak ?_|simp[fR,jt,aq,aF,ad,mS,ij]);all_goals simp[bp,zJ,aV,aY,aU]
    all_goals exact HT l n k
def iA:T->List Int->List Int
 | .var n,l=>nJ n l
 | .pair a b,l=>iA b (iA a l)
 |_,l=>l
theorem Qt:∀(t:T) {l:List Int},tI l->tI (iA t l)
 | .var _,_,h=>Wz h
 | .pair a b,_,h=>Qt b (Qt a h)
 | .nil,_,h=>h
 | .sym _,_,h=>h
 | .num _,_,h=>h
theorem EF{m:Int}:∀(t:T) {l:List Int},m∈iA t l↔t.occ m=true\/m∈l
 | .var n,l=>by simp only[iA,NZ,T.occ,dM];constructor<;>rintro(h|h)<;>first|exact .inr h|exact .inl h.symm
 | .pair a b,l=>by
  simp only[iA,EF b,EF a,T.occ,lP];constructor
  ·rintro(h|h|h)
   ·exact .inl (.inr h)
   ·exact .inl (.inl h)
   ·exact .inr h
  ·rintro((h|h)|h)
   ·exact .inr (.inl h)
   ·exact .inl h
   ·exact .inr (.inr h)
 | .nil,l=>by simp[iA,T.occ]
 | .sym _,l=>by simp[iA,T.occ]
 | .num _,l=>by simp[iA,T.occ]
theorem CL:∀(t:T) (l:List Int),(iA t l).length<=l.length+t.size
 | .var n,l=>by have:=WB n l;simp only[iA,T.size];omega
 | .pair a b,l=>by have J:=CL a l;have U:=CL b (iA a l);simp only[iA,T.size];omega
 | .nil,l=>by simp[iA]
 | .sym _,l=>by simp[iA]
 | .num _,l=>by simp[iA]
theorem FH:∀(t:T) (l:List Int),l.length+t.size<=1000000->tI l->bK aw 77 [t.e,.slice 1 .no (eC l)] (.slice 1 .no (eC (iA t l)))
 | .var n,l,av,bg=>by
  simp only[T.size]at av;have key:=ap9 l n Ω bg;refine bo eU Dk ER fun aQ=>?_;unfold AE;simp;(with_reducible repeat' first|refine ak ?_|refine aA key ?_|refine aB key ?_|simp);all_goals simp[bp,Cj,aV,aY,aU]
  all_goals simp[iA,z1]
 | .pair a b,l,av,bg=>by
  simp only[T.size]at av;have Nz:=CL a l;have aS:=FH a l Ω bg;have bf:=FH b (iA a l) Ω (Qt a bg);refine bo eU Dk ER fun aQ=>?_;unfold AE;simp;refine eJ [15,16] (fun i (_:Unit)=>[(1,.slice 1 .no (eC (if i=0 then l else if i=1 then iA a l else iA b (iA a l)))),(17,.int .i64 i)]) 2 (fun _ _=>True) () b7 trivial (fun _ _ _=>?_) (fun i _ hi _ _=>?_)
  ·simp;(with_reducible repeat' first|refine ak ?_|simp);simp[bp,Cj,aV,aY,aU];simp[iA,z1]
  ·rcases(by omega:i=0\/i=1)with rfl|rfl
   ·simp;((with_reducible repeat' first|refine ak ?_|refine aA aS ?_|refine aB aS ?_|simp|((first|apply bJ|apply bM|apply bL)<;>intro h<;>try simp at h))<;>(try exact ck));exact bR.rng () hi trivial b7
   ·simp;((with_reducible repeat' first|refine ak ?_|refine aA bf ?_|refine aB bf ?_|simp|((first|apply bJ|apply bM|apply bL)<;>intro h<;>try simp at h))<;>(try exact ck));exact bR.rng () hi trivial b7
 | .nil,l,av,bg=>by refine bo eU Dk ER fun aQ=>?_;unfold AE;simp;refine eJ [15,16] (fun i (_:Unit)=>[(1,.slice 1 .no (eC l)),(17,.int .i64 i)]) 0 (fun _ _=>True) () b7 trivial (fun _ _ _=>?_) (fun i _ hi _ _=>Ω);simp;((with_reducible repeat' first|refine ak ?_|simp|((first|apply bJ|apply bM|apply bL)<;>intro h<;>try simp at h))<;>(try exact ck));simp[bp,Cj,aV,aY,aU];simp[iA,z1]
 | .sym _,l,av,bg=>by refine bo eU Dk ER fun aQ=>?_;unfold AE;simp;refine eJ [15,16] (fun i (_:Unit)=>[(1,.slice 1 .no (eC l)),(17,.int .i64 i)]) 0 (fun _ _=>True) () b7 trivial (fun _ _ _=>?_) (fun i _ hi _ _=>Ω);simp;(with_reducible repeat' first|refine ak ?_|simp);simp[bp,Cj,aV,aY,aU];simp[iA,z1]
 | .num _,l,av,bg=>by refine bo eU Dk ER fun aQ=>?_;unfold AE;simp;refine eJ [15,16] (fun i (_:Unit)=>[(1,.slice 1 .no (eC l)),(17,.int .i64 i)]) 0 (fun _ _=>True) () b7 trivial (fun _ _ _=>?_) (fun i _ hi _ _=>Ω);simp;(with_reducible repeat' first|refine ak ?_|simp);simp[bp,Cj,aV,aY,aU];simp[iA,z1]
def ajR(s:List UInt8)(a b:T)(i:Nat)(_:Unit):Prop:=(1<=i->a.has s=false)/\(2<=i->b.has s=false)
theorem JW(s:List UInt8):∀t:T,bK aw 132 [t.e,.str s] (.bool (t.has s))
 | .pair a b=>by
  have dz:=JW s a;have dA:=JW s b;refine bo nh Dl ES fun aQ=>?_;unfold AF;simp;refine eJ [1,2,8,9] (fun i (_:Unit)=>[(10,.int .i64 i)]) 2 (ajR s a b) () b7 ⟨fun h=>Ω,fun h=>Ω⟩ (fun _ ag _=>?_) (fun i _ hi ag _=>?_)
  ·simp;(with_reducible repeat' first|refine ak ?_|simp);simp[bp,xT,aV,aY,aU];simp[T.has,ag.1,ag.2]
  ·rcases(by omega:i=0\/i=1)with rfl|rfl
   ·cases bg:a.has s
    ·rw[bg]at dz;simp;((with_reducible repeat' first|refine ak ?_|refine aA dz ?_|refine aB dz ?_|simp|((first|apply bJ|apply bM|apply bL)<;>intro h<;>try simp at h))<;>(try exact ck));exact bR.rng () hi ⟨fun _=>bg,fun h=>Ω⟩ b7
    ·rw[bg]at dz;simp;((with_reducible repeat' first|refine ak ?_|refine aA dz ?_|refine aB dz ?_|simp|((first|apply bJ|apply bM|apply bL)<;>intro h<;>try simp at h))<;>(try exact ck));simp[bp,xT,aV,aY,aU];simp[T.has,bg]
   ·cases ad:b.has s
    ·rw[ad]at dA;simp;((with_reducible repeat' first|refine ak ?_|refine aA dA ?_|refine aB dA ?_|simp|((first|apply bJ|apply bM|apply bL)<;>intro h<;>try simp at h))<;>(try exact ck));exact bR.rng () hi ⟨fun _=>ag.1 Ω,fun _=>ad⟩ b7
    ·rw[ad]at dA;simp;((with_reducible repeat' first|refine ak ?_|refine aA dA ?_|refine aB dA ?_|simp|((first|apply bJ|apply bM|apply bL)<;>intro h<;>try simp at h))<;>(try exact ck));simp[bp,xT,aV,aY,aU];simp[T.has,ad]
 | .sym n=>by
  refine bo nh Dl ES fun aQ=>?_;unfold AF;simp;refine eJ [1,2,8,9] (fun i (_:Unit)=>[(10,.int .i64 i)]) 0 (fun i _=>True) () b7 trivial (fun _ ag _=>?_) (fun i _ hi ag _=>Ω);simp;(with_reducible repeat' first|refine ak ?_|simp);all_goals simp[bp,xT,aV,aY,aU]
  all_goals simp[T.has]
 | .num n=>by
  refine bo nh Dl ES fun aQ=>?_;unfold AF;simp;refine eJ [1,2,8,9] (fun i (_:Unit)=>[(10,.int .i64 i)]) 0 (fun i _=>True) () b7 trivial (fun _ ag _=>?_) (fun i _ hi ag _=>Ω);simp;(with_reducible repeat' first|refine ak ?_|simp);all_goals simp[bp,xT,aV,aY,aU]
  all_goals simp[T.has]
 | .var n=>by
  refine bo nh Dl ES fun aQ=>?_;unfold AF;simp;refine eJ [1,2,8,9] (fun i (_:Unit)=>[(10,.int .i64 i)]) 0 (fun i _=>True) () b7 trivial (fun _ ag _=>?_) (fun i _ hi ag _=>Ω);simp;(with_reducible repeat' first|refine ak ?_|simp);all_goals simp[bp,xT,aV,aY,aU]
  all_goals simp[T.has]
 | .nil=>by
  refine bo nh Dl ES fun aQ=>?_;unfold AF;simp;refine eJ [1,2,8,9] (fun i (_:Unit)=>[(10,.int .i64 i)]) 0 (fun i _=>True) () b7 trivial (fun _ ag _=>?_) (fun i _ hi ag _=>Ω);simp;(with_reducible repeat' first|refine ak ?_|simp);all_goals simp[bp,xT,aV,aY,aU]
  all_goals simp[T.has]
def oA(l:List b8)(o:Option (List b8)):aj:= .tuple [.slice 2 .no ((o.getD l).map b8.e),.bool o.isSome]
@[simp]theorem atG(S:aL->Prop)(l:List b8)(o:Option (List b8)):aJ S (oA l o)=True:=by simp[oA]
def xy(l:List b8)(n:Int)(i:Nat):Prop:=i<=l.length/\∀j y,j<i->l[j]? =some y->y.v<n
theorem xy.none{l:List b8}{n:Int}{i:Nat}(h:xy l n i)(bg:l.Pairwise fun x y=>x.v<y.v)(ao:∀c,l[i]? =some c->n<c.v):jd l n=none:=zj.2 fun x ab=>by
 obtain⟨j,ec,rfl⟩:=oI ab;have e:=cg ec;rcases Nat.lt_or_ge j i with J|J
 ·have:=h.2 j _ J e;omega
 ·have Hp:i<l.length:=Ω
  have aF:=cg Hp;have h3:=ao _ aF;rcases Nat.lt_or_ge i j with U|U
  ·have:=pY.1 bg i j Hp ec U;omega
  ·obtain rfl:i=j:=Ω
   omega
theorem xy.ins{l:List b8}{n k:Int}{i:Nat}(h:xy l n i)(ao:∀c,l[i]? =some c->n<c.v):mv ⟨n,k⟩ l=l.take i++⟨n,k⟩::l.drop i:=WC ⟨n,k⟩ l i (fun j y J U=>h.2 j y J U) (fun y aC=>by have:=ao y aC;simp;omega) h.1
theorem xy.step{l:List b8}{n:Int}{i:Nat}{b:b8}(h:xy l n i)(ad:l[i]? =some b)(au:b.v<n):xy l n (i+1):=⟨(fD.1 ad).1,fun j y J U=>by
 rcases(by omega:j<i\/j=i)with h3|rfl
 ·exact h.2 j y h3 U
 ·rw[ad]at U;cases U;exact au⟩
theorem aqm(l:List b8)(av:l.length<=1000000)(bg:l.Pairwise fun x y=>x.v<y.v)(n k:Int):bK aw 103 [.slice 2 .no (l.map b8.e),(T.var n).e,.int .i64 k] (oA l (ib l (.var n) k)):=by
 generalize dn:ib l (.var n) k=O;have dU:(match jd l n with|some bI=>if bI=k then some l else none|none=>some (mv ⟨n,k⟩ l))=O:=by rw[<-dn];rfl
 clear dn;refine bo nh Dm ET fun aQ=>?_;unfold AG;simp;refine wX [0,2,4] (fun(i:Nat)=>[(8,.int .i64 i)]) (fun i=>l.length-i) (xy l n) 0 b7 ⟨Ω,fun j y h=>Ω⟩ (fun i ag _=>?_);have ae:=ag.1;by_cases hi:i<l.length
 ·obtain⟨b,ad,cJ⟩:=eI hi;rcases Int.lt_trichotomy b.v n with h|h|h
  ·have af:=ag.step ad h;clear dU ag ad bg;simp[hi,cJ,h];((with_reducible repeat' first|refine ak ?_|simp[hi,cJ,h]|((first|apply bJ|apply bM|apply bL)<;>intro h<;>try simp at h))<;>(try exact ck));exact bR.whl (i+1) Ω af b7
  ·have aW:jd l n=some b.k:=by rw[<-h];exact Er bg (eF ad)
   have J:¬b.v<n:=Ω
   have U:(b.v==n)=true:=by simp[h]
   rw[aW]at dU;simp only at dU;subst dU;clear ag ad bg aW;simp[hi,cJ,J,U];(with_reducible repeat' first|refine ak ?_|simp[hi,cJ,J,U]);all_goals simp[bp,xU,aV,aY,aU]
   all_goals(by_cases e:b.k=k<;>simp[oA,e])
  ·have J:¬b.v<n:=Ω
   have U:(b.v==n)=false:=by simp;omega
   have ao:∀c,l[i]? =some c->n<c.v:=fun c ao=>by rw[ad]at ao;cases ao;exact h
   rw[ag.none bg ao]at dU;simp only[ag.ins ao]at dU;subst dU;clear ag ad bg ao;simp[hi,cJ,J,U];(with_reducible repeat' first|refine ak ?_|simp[hi,cJ,J,U]);all_goals simp[bp,xU,aV,aY,aU]
   all_goals simp[oA]
   rw[hl (by simp:(l.map b8.e).length<=l.length),<-List.map_take,<-List.map_drop,<-gZ,<-List.map_append];exact PU _
 ·have ao:∀c,l[i]? =some c->n<c.v:=fun c ao=>by rw[rf Ω]at ao;cases ao
  rw[ag.none bg ao]at dU;simp only[ag.ins ao]at dU;have Hp:i=l.length:=Ω
  clear ag bg ao;subst dU;subst Hp;simp;(with_reducible repeat' first|refine ak ?_|simp);all_goals simp[bp,xU,aV,aY,aU]
  all_goals simp[oA]
  rw[hl (by simp:(l.map b8.e).length<=l.length),show [(⟨n,k⟩:b8).e]=[(⟨n,k⟩:b8)].map b8.e from rfl,<-List.map_append];exact PU _
theorem Ql(l:List b8)(av:l.length<=1000000)(bg:l.Pairwise fun x y=>x.v<y.v)(t:T)(k:Int):bK aw 103 [.slice 2 .no (l.map b8.e),t.e,.int .i64 k] (oA l (ib l t k)):=by
 cases t with
 |var n=>exact aqm l av bg n k
 |nil=>
  refine bo nh Dm ET fun aQ=>?_;unfold AG;simp;(with_reducible repeat' first|refine ak ?_|simp);all_goals simp[bp,xU,aV,aY,aU]
  all_goals(by_cases e:0=k<;>simp[oA,ib,e])
 |sym n=>
  refine bo nh Dm ET fun aQ=>?_;unfold AG;simp;(with_reducible repeat' first|refine ak ?_|simp);all_goals simp[bp,xU,aV,aY,aU]
  all_goals(by_cases e:2=k<;>simp[oA,ib,e])
 |num n=>
  refine bo nh Dm ET fun aQ=>?_;unfold AG;simp;(with_reducible repeat' first|refine ak ?_|simp);all_goals simp[bp,xU,aV,aY,aU]
  all_goals(by_cases e:3=k<;>simp[oA,ib,e])
 |pair a b=>
  refine bo nh Dm ET fun aQ=>?_;unfold AG;simp;(with_reducible repeat' first|refine ak ?_|simp);all_goals simp[bp,xU,aV,aY,aU]
  all_goals(by_cases e:4=k<;>simp[oA,ib,e])
theorem abu(s:List ai)(v:Int):hF s (.var v)=aR s v:=rfl
theorem Qm{s:List ai}(af:ev s){l:List b8}(av:hj l):bK aw 121 [.slice 5 .no (s.map ai.e),.slice 2 .no (l.map b8.e)] (gm (fM s l [])):=by
 have y2:=q0 av;refine bo nh af6 amX fun aQ=>?_;unfold Tq;simp;refine eJ [0,11,12] (fun i (a:List b8)=>[(6,.slice 2 .no (a.map b8.e)),(13,.int .i64 i)]) l.length (WG s l) [] b7 ⟨⟨Ψ,Ψ⟩,rfl⟩ (fun a ag _=>?_) (fun i a hi ag _=>?_)
 ·obtain⟨_,ag⟩:=ag;rw[List.drop_length]at ag;simp only[fM]at ag;rw[<-ag];simp;(with_reducible repeat' first|refine ak ?_|simp);simp[bp,O6,aV,aY,aU];simp[gm]
 ·obtain⟨bg,ag⟩:=ag;obtain⟨b,ad,cJ⟩:=eI hi;have pA:=av.at' b (eF ad);rw[lu hi,cJ]at ag;simp only[fM]at ag;have fa:=JV s af.len (.var b.v);rw[abu]at fa;have kA:=Ql a (by have:=q0 bg;omega) bg.asc (aR s b.v) b.k;simp[hi,cJ];cases dU:ib a (aR s b.v) b.k with
  |none=>rw[dU]at ag kA;simp only at ag;rw[<-ag];simp only[oA]at kA;(with_reducible repeat' first|refine ak ?_|refine aA (kM _) ?_|refine aB (kM _) ?_|refine aA fa ?_|refine aB fa ?_|refine aA kA ?_|refine aB kA ?_|simp[cJ,hi]);simp[bp,O6,aV,aY,aU];simp[gm]
  |some bk=>rw[dU]at ag kA;simp only[oA]at kA;(with_reducible repeat' first|refine ak ?_|refine aA (kM _) ?_|refine aB (kM _) ?_|refine aA fa ?_|refine aB fa ?_|refine aA kA ?_|refine aB kA ?_|simp[cJ,hi]);exact bR.rng bk hi ⟨Gc bg (zW af pA.1) pA.2 dU,ag⟩ b7
open Classical in
theorem aqH(l:List bj):bK aw 71 [.slice 2 .no (l.map bj.e)] (.bool (decide (iN l))):=by
 generalize bH:decide (iN l)=R;refine bo nh afA amr fun aQ=>?_;unfold SR;have h7:l.length<=68719476736:=by simp[gQ,gi,gH,lim]at aQ;omega
 simp;refine eJ [0,5,6] (fun i (_:Unit)=>[(7,.int .i64 i)]) l.length (fun i _=> ∀j,j<i->iE kV ll l j) () b7 (fun k ae=>Ω) (fun _ ag _=>?_) (fun i _ hi ag _=>?_)
 ·have:R=true:=by rw[<-bH,eN,Ik];exact ag
  rw[this];exact cz
 ·obtain⟨b,ad⟩:∃b,l[i]? =some b:=⟨_,cg hi⟩;obtain⟨c,ao⟩:∃c,l[i-1]? =some c:=⟨_,cg Ω⟩;have cJ:∀h,(l[i]'h)=b:=fun h=>by rw[cg hi]at ad;exact eZ ad
  have cU:¬iE kV ll l i->R=false:=fun h=>by rw[<-bH,gD];exact fun b9=>h (Ik.1 b9 i hi)
  have dd:iE kV ll l i->∀j,j<i+1->iE kV ll l j:=fun h j jX=>by
   by_cases e:j=i
   ·rw[e];exact h
   ·exact ag j Ω
  have fW:∀p:Prop,(p->ey)->(iE kV ll l i->p)->R=false:=fun p J U=>cU fun h=>J (U h);have qf:iE kV ll l i->kV b:=fun h=>(h b ad).1;have bs:iE kV ll l i->0<i->h8 fx c b=true:=fun h bz=>by simpa[h8,ll]using(h b ad).2 c bz ao
  have eh:kV b->(0<i->h8 fx c b=true)->iE kV ll l i:=fun J U b3 gd=>by rw[ad]at gd;cases gd;exact⟨J,fun cq bz hx=>by rw[ao]at hx;cases hx;simpa[h8,ll]using U bz⟩
  unfold kV at qf eh;by_cases g4:0<i
  ·cases g5:h8 fx c b
   ·rw[fW _ (fun h=>by rw[h]at g5;cases g5) (fun h=>bs h g4)];simp[hi,cJ,ao];(with_reducible repeat' first|refine ak ?_|refine aA (mE _ _) ?_|refine aB (mE _ _) ?_|simp[cJ,ao,hi,g4,g5]);all_goals simp[bp,Ch,aV,aY,aU]
   ·by_cases g1:0<=b.v/\b.v<=100000;rotate_left
    ·rw[fW _ (fun h=>g1 h) (fun h=>(qf h).1)];have lW:decide (0<=b.v/\b.v<=100000)=false:=by simp only[gD];exact g1
     simp[hi,cJ,ao];(with_reducible repeat' first|refine ak ?_|refine aA (mE _ _) ?_|refine aB (mE _ _) ?_|refine aA (dx _ _ _) ?_|refine aB (dx _ _ _) ?_|simp[cJ,ao,hi,g4,g5,lW,g1]);all_goals simp[bp,Ch,aV,aY,aU]
    have lW:decide (0<=b.v/\b.v<=100000)=true:=by simp only[eN];exact g1
    cases g3:iK b.s
    ·rw[fW _ (fun h=>by rw[h]at g3;cases g3) (fun h=>(qf h).2)];have ch:=hs b.s;rw[g3]at ch;simp[hi,cJ,ao];(with_reducible repeat' first|refine ak ?_|refine aA (mE _ _) ?_|refine aB (mE _ _) ?_|refine aA (dx _ _ _) ?_|refine aB (dx _ _ _) ?_|refine aA ch ?_|refine aB ch ?_|simp[cJ,ao,hi,g4,g5,lW,g1]);all_goals simp[bp,Ch,aV,aY,aU]
    have ch:=hs b.s;rw[g3]at ch;have dG:=dd (eh ⟨g1,g3⟩ fun _=>g5);simp[hi,cJ,ao];(with_reducible repeat' first|refine ak ?_|refine aA (mE _ _) ?_|refine aB (mE _ _) ?_|refine aA (dx _ _ _) ?_|refine aB (dx _ _ _) ?_|refine aA ch ?_|refine aB ch ?_|simp[cJ,ao,hi,g4,g5,lW,g1]);all_goals exact bR.rng () hi dG b7
  ·obtain rfl:i=0:=Ω
   by_cases g1:0<=b.v/\b.v<=100000;rotate_left
   ·rw[fW _ (fun h=>g1 h) (fun h=>(qf h).1)];have lW:decide (0<=b.v/\b.v<=100000)=false:=by simp only[gD];exact g1
    simp[hi,cJ,ao];(with_reducible repeat' first|refine ak ?_|refine aA (mE _ _) ?_|refine aB (mE _ _) ?_|refine aA (dx _ _ _) ?_|refine aB (dx _ _ _) ?_|simp[cJ,ao,hi,g4,lW,g1]);all_goals simp[bp,Ch,aV,aY,aU]
   have lW:decide (0<=b.v/\b.v<=100000)=true:=by simp only[eN];exact g1
   cases g3:iK b.s
   ·rw[fW _ (fun h=>by rw[h]at g3;cases g3) (fun h=>(qf h).2)];have ch:=hs b.s;rw[g3]at ch;simp[hi,cJ,ao];(with_reducible repeat' first|refine ak ?_|refine aA (mE _ _) ?_|refine aB (mE _ _) ?_|refine aA (dx _ _ _) ?_|refine aB (dx _ _ _) ?_|refine aA ch ?_|refine aB ch ?_|simp[cJ,ao,hi,g4,lW,g1]);all_goals simp[bp,Ch,aV,aY,aU]
   have ch:=hs b.s;rw[g3]at ch;have dG:=dd (eh ⟨g1,g3⟩ fun h=>absurd h g4);simp[hi,cJ,ao];(with_reducible repeat' first|refine ak ?_|refine aA (mE _ _) ?_|refine aB (mE _ _) ?_|refine aA (dx _ _ _) ?_|refine aB (dx _ _ _) ?_|refine aA ch ?_|refine aB ch ?_|simp[cJ,ao,hi,g4,lW,g1]);all_goals exact bR.rng () hi dG b7
def qe(s:List UInt8)(a7:List Int)(l:List bj):List bj:=a7.foldl (fun a v=>kT fx ⟨v,s⟩ a) l
theorem LV(s:List UInt8):∀(a7:List Int) {l:List bj},hS fx l->hS fx (qe s a7 l)
 |[],_,h=>h
 |v::a7,_,h=>LV s a7 (Nb mz h)
theorem Xz(s:List UInt8){x:bj}:∀(a7:List Int) {l:List bj},x∈qe s a7 l↔x∈l\/(x.s=s/\x.v∈a7)
 |[],l=>by simp[qe]
 |v::a7,l=>by
  have:=Xz s (x:=x) a7 (l:=kT fx ⟨v,s⟩ l);rw[show qe s (v::a7) l=qe s a7 (kT fx ⟨v,s⟩ l)from rfl,this,Io mz,fm];constructor
  ·rintro((rfl|h)|⟨J,U⟩)
   ·exact .inr ⟨rfl,.inl rfl⟩
   ·exact .inl h
   ·exact .inr ⟨J,.inr U⟩
  ·rintro(h|⟨J,U|U⟩)
   ·exact .inl (.inr h)
   ·refine .inl (.inl ?_);cases x;simp_all
   ·exact .inr ⟨J,U⟩
theorem UI(s:List UInt8):∀(a7:List Int) (l:List bj),(qe s a7 l).length<=l.length+a7.length
 |[],l=>by simp[qe]
 |v::a7,l=>by have J:=UI s a7 (kT fx ⟨v,s⟩ l);have U:=Nd (c:=fx) (⟨v,s⟩:bj) l;rw[show qe s (v::a7) l=qe s a7 (kT fx ⟨v,s⟩ l)from rfl];simp only[mG];omega
theorem agp{t:T}{s:List UInt8}(cE:t.has s=false){l:List bj}(bg:hS fx l):iV l t s=some (qe s (iA t []) l):=Kr cE (LV s _ bg) fun x=>by rw[Xz,EF];simp
def Ej(l:List bj)(a7:List Int)(s:List UInt8)(i:Nat)(a:List bj):Prop:=a=qe s (a7.take i) l
def Bz(a:List bj)(m:bj)(k:Nat):Prop:=k<=a.length/\∀j y,j<k->a[j]? =some y->fx y m<0
theorem Bz.step{a:List bj}{m:bj}{k:Nat}{b:bj}(h:Bz a m k)(ad:a[k]? =some b)(au:fx b m<0):Bz a m (k+1):=⟨(fD.1 ad).1,fun j y J U=>by
 rcases(by omega:j<k\/j=k)with h3|rfl
 ·exact h.2 j y h3 U
 ·rw[ad]at U;cases U;exact au⟩
theorem Bz.fin{a:List bj}{m:bj}{k:Nat}(h:Bz a m k)(ao:∀y,a[k]? =some y->0<=fx y m):kT fx m a=if(match a[k]? with|some y=>decide (fx y m=0)|none=>false)=true then a else a.take k++m::a.drop k:=(Nc mz m a k (fun j y J U=>h.2 j y J U) ao h.1).trans (by cases a[k]?<;>rfl)
theorem XS(a:List bj)(k:Nat)(m:bj):pZ k (a.map bj.e)++m.e::List.drop k (a.map bj.e)=(a.take k++m::a.drop k).map bj.e:=by simp
theorem BS(a:List bj)(k:Nat)(m:bj):dq (pZ k (a.map bj.e)++m.e::List.drop k (a.map bj.e))=pZ k (a.map bj.e)++m.e::List.drop k (a.map bj.e):=by rw[XS,PV]
theorem BR(S:aL->Prop)(a:List bj)(k:Nat)(m:bj):aO S (pZ k (a.map bj.e)++m.e::List.drop k (a.map bj.e))=True:=by rw[XS,W9]
theorem XR(a:List bj)(m:bj):a.map bj.e++[m.e]=(a++[m]).map bj.e:=by simp
theorem BQ(a:List bj)(m:bj):dq (a.map bj.e++[m.e])=a.map bj.e++[m.e]:=by rw[XR,PV]
theorem BP(S:aL->Prop)(a:List bj)(m:bj):aO S (a.map bj.e++[m.e])=True:=by rw[XR,W9]
theorem abg(l:List bj)(av:l.length<=68719470000)(t:T)(aI:t.size<=5000)(s:List UInt8)(bg:hS fx l):bK aw 104 [.slice 2 .no (l.map bj.e),t.e,.str s] (jf (iV l t s)):=by
 have jc:=JW s t;cases cE:t.has s;rotate_left
 ·have bz:iV l t s=none:=by simp[iV,cE]
  rw[bz];rw[cE]at jc;refine bo nh Uz Yu fun aQ=>?_;unfold Lb;simp;(with_reducible repeat' first|refine ak ?_|refine aA jc ?_|refine aB jc ?_|simp);all_goals simp[bp,O7,aV,aY,aU]
  all_goals simp[jf]
 ·rw[cE]at jc;have dU:=agp cE bg;have kv:=CL t [];have hd:=FH t [] d7 (by simp[tI]);have A2:eC []=[]:=rfl;rw[A2]at hd;rw[dU];clear dU cE;generalize iA t []=a7 at hd kv⊢;have lf:a7.length<=5000:=by simp at kv;omega
  generalize gy:qe s a7 l=F;refine bo nh Uz Yu fun aQ=>?_;unfold Lb;simp;(with_reducible repeat' first|refine ak ?_|refine aA jc ?_|refine aB jc ?_|refine aA hd ?_|refine aB hd ?_|simp[e9]);refine eJ [2,17,18] (fun i (a:List bj)=>[(0,.slice 2 .no (a.map bj.e)),(19,.int .i64 i)]) a7.length (Ej l a7 s) l ⟨by simp[fresh,aO,aJ,cn,inObs,Pv.look,e9],ek g8,en g9,Ψ⟩ (by simp[Ej,qe]) (fun a ag _=>?_) (fun i a hi ag _=>?_)
  ·rw[Ej,lQ,gy]at ag;subst ag;simp[e9];(with_reducible repeat' first|refine ak ?_|simp[e9]);all_goals simp[bp,O7,aV,aY,aU]
   all_goals simp[jf]
  ·obtain⟨v,az⟩:∃v,a7[i]? =some v:=⟨_,cg hi⟩;have rM:∀h,((eC a7)[i]'h)= .int .i64 v:=fun b9=>by have:=Ed a7 i;rw[az,cg b9]at this;exact eZ this
   have sE:hS fx a:=by rw[ag];exact LV s _ bg
   have mM:a.length<=68719475000:=by have:=UI s (a7.take i) l;rw[ag];simp at this⊢;omega
   have fL:Ej l a7 s (i+1) (kT fx ⟨v,s⟩ a):=by rw[Ej,List.take_succ,az,ag];simp[qe]
   generalize hm:(⟨v,s⟩:bj)=m at fL;have aiB:m.v=v:=by rw[<-hm]
   have vJ:m.s=s:=by rw[<-hm]
   subst aiB;subst vJ;clear ag gy;simp[hi,rM,e9];(with_reducible repeat' first|refine ak ?_|simp[hi,rM,e9]);refine wX [0,2,10,17,18,19] (fun(k:Nat)=>[(11,.int .i64 k)]) (fun k=>a.length-k) (Bz a m) 0 ⟨by simp[fresh,aO,aJ,cn,inObs,Pv.look,e9],ek g8,en g9,Ψ⟩ ⟨Ω,fun j y h=>Ω⟩ (fun k ag _=>?_);have ae:=ag.1;by_cases hJ:k<a.length
   ·obtain⟨b,ad,cJ⟩:=eI hJ;cases bs:h8 fx b m
    ·have xf:0<=fx b m:=by simpa[h8]using bs
     have dG:=ag.fin (fun y aC=>by rw[ad]at aC;cases aC;exact xf);rw[ad]at dG;cases Ho:h8 fx m b
     ·have hle:0<=fx m b:=by simpa[h8]using Ho
      have bz:fx b m=0:=by have:=mz.neg b m;omega
      rw[if_pos (by simp[bz])]at dG;rw[dG]at fL;clear ag ad dG mM sE;simp[hJ,cJ];((with_reducible repeat' first|refine ak ?_|refine aA (mE _ _) ?_|refine aB (mE _ _) ?_|simp[hJ,cJ,bs,Ho]|((first|apply bJ|apply bM|apply bL)<;>intro h<;>try simp at h))<;>(try exact ck));all_goals exact bR.rng a hi fL ⟨by simp[fresh,aO,aJ,cn,inObs,Pv.look,e9],ek g8,en g9,Ψ⟩
     ·have hle:fx m b<0:=by simpa[h8]using Ho
      have bz:¬fx b m=0:=by have:=mz.neg b m;omega
      rw[if_neg (by simp[bz])]at dG;rw[dG]at fL;clear ag ad dG sE;simp[hJ,cJ];((with_reducible repeat' first|refine ak ?_|refine aA (mE _ _) ?_|refine aB (mE _ _) ?_|simp[hJ,cJ,bs,Ho]|((first|apply bJ|apply bM|apply bL)<;>intro h<;>try simp at h))<;>(try exact ck));all_goals first|(refine⟨by unfold lim;omega,?_⟩)|skip
      all_goals(with_reducible repeat' first|refine ak ?_|simp)
      all_goals first|(refine⟨by unfold lim;omega,?_⟩)|skip
      all_goals((with_reducible repeat' first|refine ak ?_|simp|((first|apply bJ|apply bM|apply bL)<;>intro h<;>try simp at h))<;>(try exact ck))
      all_goals exact bR.rng _ hi fL ⟨by simp[fresh,aO,aJ,cn,inObs,Pv.look,e9,hl,BS,BR,BQ,BP],ek (by simp[fresh,aO,aJ,cn,inObs,Pv.look,e9,hl,BS,BR,BQ,BP]),en (by simp[fresh,aO,aJ,dW,inObs,Pv.look,e9,hl,BS,BR,BQ,BP]),Ψ⟩
    ·have xm:fx b m<0:=by simpa[h8]using bs
     have af:=ag.step ad xm;clear ag ad sE fL;simp[hJ,cJ];((with_reducible repeat' first|refine ak ?_|refine aA (mE _ _) ?_|refine aB (mE _ _) ?_|simp[hJ,cJ,bs]|((first|apply bJ|apply bM|apply bL)<;>intro h<;>try simp at h))<;>(try exact ck));all_goals exact bR.whl (k+1) Ω af ⟨by simp[fresh,aO,aJ,cn,inObs,Pv.look,e9],ek g8,en g9,Ψ⟩
   ·have dG:=ag.fin (fun y aC=>by rw[rf Ω]at aC;cases aC);rw[rf Ω]at dG;simp only[hg,if_false]at dG;rw[dG]at fL;have ij:k=a.length:=Ω
    clear ag dG sE;subst ij;simp;(with_reducible repeat' first|refine ak ?_|simp);all_goals first|(refine⟨by unfold lim;omega,?_⟩)|skip
    all_goals(with_reducible repeat' first|refine ak ?_|simp)
    all_goals first|(refine⟨by unfold lim;omega,?_⟩)|skip
    all_goals(with_reducible repeat' first|refine ak ?_|simp)
    all_goals exact bR.rng _ hi fL ⟨by simp[fresh,aO,aJ,cn,inObs,Pv.look,e9,hl,BS,BR,BQ,BP],ek (by simp[fresh,aO,aJ,cn,inObs,Pv.look,e9,hl,BS,BR,BQ,BP]),en (by simp[fresh,aO,aJ,dW,inObs,Pv.look,e9,hl,BS,BR,BQ,BP]),Ψ⟩
theorem Qn{s:List ai}(af:ev s){l:List bj}(av:iN l){G:List (List UInt8)}(iH:G.length<=687000)(aW:kG G l):bK aw 122 [.slice 5 .no (s.map ai.e),.slice 2 .no (l.map bj.e)] (jf (fI s l [])):=by
 have hlen:∀{a:List bj},iN a->kG G a->a.length<=68719470000:=fun J U=>by have:=ED J U;omega
 have y2:=hlen av aW;refine bo nh af7 amY fun aQ=>?_;unfold Tr;simp;refine eJ [0,11,12] (fun i (a:List bj)=>[(6,.slice 2 .no (a.map bj.e)),(13,.int .i64 i)]) l.length (WH s G l) [] b7 ⟨⟨Ψ,by simp[hS]⟩,fun x ab=>by simp at ab,rfl⟩ (fun a ag _=>?_) (fun i a hi ag _=>?_)
 ·obtain⟨_,_,ag⟩:=ag;rw[List.drop_length]at ag;simp only[fI]at ag;rw[<-ag];simp;(with_reducible repeat' first|refine ak ?_|simp);simp[bp,O8,aV,aY,aU];simp[jf]
 ·obtain⟨bg,D6,ag⟩:=ag;obtain⟨b,ad,cJ⟩:=eI hi;have pA:=av.at' b (eF ad);have Mj:=aW b (eF ad);rw[lu hi,cJ]at ag;simp only[fI]at ag;have fa:=JV s af.len (.var b.v);rw[abu]at fa;have kA:=abg a (hlen bg D6) (aR s b.v) (Ft af b.v) b.s bg.asc;simp[hi,cJ];cases dU:iV a (aR s b.v) b.s with
  |none=>rw[dU]at ag kA;simp only at ag;rw[<-ag];simp only[jf]at kA;(with_reducible repeat' first|refine ak ?_|refine aA (kM _) ?_|refine aB (kM _) ?_|refine aA fa ?_|refine aB fa ?_|refine aA kA ?_|refine aB kA ?_|simp[cJ,hi]);simp[bp,O8,aV,aY,aU];simp[jf]
  |some bk=>rw[dU]at ag kA;simp only[jf]at kA;(with_reducible repeat' first|refine ak ?_|refine aA (kM _) ?_|refine aB (kM _) ?_|refine aA fa ?_|refine aB fa ?_|refine aA kA ?_|refine aB kA ?_|simp[cJ,hi]);exact bR.rng bk hi ⟨Gd bg (zW af pA.1) pA.2 dU,CY D6 Mj dU,ag⟩ b7
theorem apj{s:List ai}(ay:kW s)(bg:gO s)(aN:ga s):gL (s.map ai.b)=s.all (nu s):=by
 rw[qz,fV,r5,<-aag bg];constructor
 ·rintro⟨ah,J,U,h3,h4⟩;rw[rr J];exact h3
 ·intro h3;exact⟨s,rfl,ay,h3,aN⟩
theorem acJ{s:List ai}(bg:gO s)(b:ai):nu s b=true↔(∀v∈iA b.t [],cO s v=none)/\(b.t.kind==1&&decide (b.v<=b.t.int))=false:=by unfold nu;rw[cr,UJ bg];simp only[true_and,oG,EF,List.not_mem_nil,or_false]
def Ei(s:List ai)(a7:List Int)(i:Nat)(_:Unit):Prop:= ∀v∈a7.take i,cO s v=none
theorem Ei.step{s:List ai}{a7:List Int}{i:Nat}(h:Ei s a7 i ()){v:Int}(az:a7[i]? =some v)(au:cO s v=none):Ei s a7 (i+1) ():=fun w hw=>by
 rw[List.take_succ,az]at hw;simp only[hQ,Option.toList_some,iS]at hw;rcases hw with hw|rfl
 ·exact h w hw
 ·exact au
theorem Qp(l:List dO):bK aw 68 [.slice 5 .no (l.map dO.e)] (.bool (gL l)):=by
 have az:=abd l;by_cases h:wL l;rotate_left
 ·have bz:gL l=false:=by unfold gL;simp only[gD];rintro⟨s,J,U,h3,h4⟩;exact h (Ae.2 ⟨s,J,U,h3.asc,h4⟩)
  rw[bz];refine bo eU Uv Yq fun aQ=>?_;unfold K7;exact cz
 ·obtain⟨s,rfl,ay,bg,aN⟩:=Ae.1 h;have av:s.length<=1000000:=by have:=aN.1;omega
  rw[apj ay bg aN];rw[uK]at az⊢;simp only[h,decide_true]at az;clear h;generalize bH:s.all (nu s)=R;refine bo eU Uv Yq fun aQ=>?_;unfold K7;simp;(with_reducible repeat' first|refine ak ?_|refine aA az ?_|refine aB az ?_|simp);refine eJ [0,12,13] (fun i (_:Unit)=>[(14,.int .i64 i)]) s.length (mW (nu s) s) () b7 (fun k b ae=>Ω) (fun _ ag _=>?_) (fun i _ hi ag _=>?_)
  ·have:R=true:=by rw[<-bH,fV];intro b ad;obtain⟨k,ae,e⟩:=oI ad;exact ag k b ae (by rw[cg ae,e])
   rw[this];exact cz
  ·obtain⟨b,ad,cJ⟩:=eI hi;have fW:¬nu s b=true->R=false:=fun h=>by rw[<-bH,Bool.eq_false_iff];intro b9;rw[fV]at b9;exact h (b9 b (eF ad))
   have sK:nu s b=true->mW (nu s) s (i+1) ():=fun h=>ag.step ad h;have vF:=acJ bg b;have dS:=aN.2 b (eF ad);have kv:=CL b.t [];have hd:=FH b.t [] d7 (by simp[tI]);have A2:eC []=[]:=rfl;rw[A2]at hd;generalize iA b.t []=a7 at hd kv vF;have lf:a7.length<=5000:=by simp at kv;omega
   rw[vF]at fW sK;clear vF ag kv ad;simp[hi,cJ];cases ae:(b.t.kind==1&&decide (b.v<=b.t.int));rotate_left
   ·rw[fW (by rw[ae];simp)];rw[cr]at ae;have gJ:=ae.1;have jY:b.v<=b.t.int:=of_decide_eq_true ae.2;exact cz
   ·rw[ae]at fW sK;simp only[and_true]at fW sK;cases gJ:(b.t.kind==1)
    ·clear ae;(with_reducible repeat' first|refine ak ?_|refine aA hd ?_|refine aB hd ?_|simp[cJ,hi,e9,gJ]);refine eJ [0,12,13,14,32,33] (fun j (_:Unit)=>[(34,.int .i64 j)]) a7.length (Ei s a7) () ⟨by simp[fresh,aO,aJ,cn,inObs,Pv.look,e9],ek g8,en g9,Ψ⟩ (fun v az=>by simp at az) (fun _ ag _=>?_) (fun j _ ec ag _=>?_)
     ·have aW:=sK (fun v az=>ag v (by rwa[lQ]));simp[e9];(with_reducible repeat' first|refine ak ?_|simp[e9]);exact bR.rng () hi aW ⟨by simp[fresh,aO,aJ,cn,inObs,Pv.look,e9],ek g8,en g9,Ψ⟩
     ·obtain⟨v,az⟩:∃v,a7[j]? =some v:=⟨_,cg ec⟩;have rM:∀h,((eC a7)[j]'h)= .int .i64 v:=fun b9=>by have:=Ed a7 j;rw[az,cg b9]at this;exact eZ this
      have jJ:=sa s v av;cases h6:cO s v with
      |none=>have au:=ag.step az h6;rw[h6]at jJ;simp only[lv,k1]at jJ;clear ag sK fW h6;simp[ec,rM,e9];(with_reducible repeat' first|refine ak ?_|refine aA jJ ?_|refine aB jJ ?_|simp[ec,rM,e9]);exact bR.rng () ec au ⟨by simp[fresh,aO,aJ,cn,inObs,Pv.look,e9],ek g8,en g9,Ψ⟩
      |some x=>rw[fW (fun h=>by have:=h v (eF az);rw[h6]at this;cases this)];rw[h6]at jJ;simp only[iB,oJ]at jJ;clear ag sK fW h6;simp[ec,rM,e9];(with_reducible repeat' first|refine ak ?_|refine aA jJ ?_|refine aB jJ ?_|simp[ec,rM,e9]);simp[bp,OX,aV,aY,aU]
    ·have jY:¬b.v<=b.t.int:=by rw[gJ]at ae;simpa using ae
     clear ae;(with_reducible repeat' first|refine ak ?_|refine aA hd ?_|refine aB hd ?_|simp[cJ,hi,e9,gJ,jY]);refine eJ [0,12,13,14,32,33] (fun j (_:Unit)=>[(34,.int .i64 j)]) a7.length (Ei s a7) () ⟨by simp[fresh,aO,aJ,cn,inObs,Pv.look,e9],ek g8,en g9,Ψ⟩ (fun v az=>by simp at az) (fun _ ag _=>?_) (fun j _ ec ag _=>?_)
     ·have aW:=sK (fun v az=>ag v (by rwa[lQ]));simp[e9];(with_reducible repeat' first|refine ak ?_|simp[e9]);exact bR.rng () hi aW ⟨by simp[fresh,aO,aJ,cn,inObs,Pv.look,e9],ek g8,en g9,Ψ⟩
     ·obtain⟨v,az⟩:∃v,a7[j]? =some v:=⟨_,cg ec⟩;have rM:∀h,((eC a7)[j]'h)= .int .i64 v:=fun b9=>by have:=Ed a7 j;rw[az,cg b9]at this;exact eZ this
      have jJ:=sa s v av;cases h6:cO s v with
      |none=>have au:=ag.step az h6;rw[h6]at jJ;simp only[lv,k1]at jJ;clear ag sK fW h6;simp[ec,rM,e9];(with_reducible repeat' first|refine ak ?_|refine aA jJ ?_|refine aB jJ ?_|simp[ec,rM,e9]);exact bR.rng () ec au ⟨by simp[fresh,aO,aJ,cn,inObs,Pv.look,e9],ek g8,en g9,Ψ⟩
      |some x=>rw[fW (fun h=>by have:=h v (eF az);rw[h6]at this;cases this)];rw[h6]at jJ;simp only[iB,oJ]at jJ;clear ag sK fW h6;simp[ec,rM,e9];(with_reducible repeat' first|refine ak ?_|refine aA jJ ?_|refine aB jJ ?_|simp[ec,rM,e9]);simp[bp,OX,aV,aY,aU]
theorem Qq{s:List ai}(h:ev s):bK aw 68 [.slice 5 .no (s.map ai.e)] (.bool true):=by have:=Qp (s.map ai.b);rw[uK,r5.2 ⟨s,rfl,h.ok,h.sol,h.fits⟩]at this;exact this
def Tm:C:=(aa [bq 2 false] (.seq (aa [I 5 0,cD 6 5,cf 7 0] (ff 8 7 6 (.seq (.block 1 (aa [cC 9 1 5 7,ax 10 1 9,I 4 10] (aa [I 11 4,cH 12 68 11,cx 13 12] (aZ 13 (aa [bq 2 false] .ret) .skip)))) (.region [aT 14 .add 7 1,I 7 14])))) (aa [bq 2 true] .ret)))
@[simp] def aob:List bV:=[.tmp 2]
def Tu:C:=(aa [bq 4 false] (.seq (aa [I 7 0,cD 8 7,cf 9 0] (ff 10 9 8 (.seq (.block 1 (aa [cC 11 5 7 9,aX 12 5 11,cR 6 iM,bD 5 6 12] (aa [aK 13 0 1 6,ax 14 1 13,I 15 1,bt 16 .geq 14 15,I 17 16,ar 17 false (hZ 18 1 4 6),ar 17 false (aX 19 4 18),bT 17 false 20 1,ar 17 false (cc 21 120 19 20),ar 17 false (cx 22 21),c3 23 17 22] (aZ 23 (aa [bq 4 false] .ret) .skip)))) (.region [aT 24 .add 9 1,I 9 24])))) (aa [bq 4 true] .ret)))
@[simp] def aog:List bV:=[.tmp 4]
def Tl:C:=(aa [eM 4 5] (aa [dV 10 5 54 [],I 5 10] (.seq (aa [I 11 1,cD 12 11,cf 13 0] (ff 14 13 12 (.seq (.block 1 (aa [cC 15 5 11 13,aX 16 5 15,cR 7 iM,bD 5 7 16] (aa [I 18 0,aK 19 0 1 7,ax 20 1 19,cc 21 78 18 20,I 17 21,cp 22 0 17,cp 23 1 17,cR 8 da,bD 4 8 22,I 9 23] (aa [I 24 9,cx 25 24] (aZ 25 (.region [I 26 5,aX 27 5 7,dV 28 5 54 [.t 27],gN 29 5 54 26 28,I 5 29]) .skip))))) (.region [aT 30 .add 13 1,I 13 30])))) (aa [I 31 5,I 4 31] .ret))))
@[simp] def aoa:List bV:=[.tmp 4]
def AH:C:=(aa [cW 2 0,bq 4 false] (.seq (aa [aK 7 3 1 2,ax 8 1 7,cD 9 8,cf 10 0] (ff 11 10 9 (.seq (.block 1 (aa [cC 12 4 8 10,aX 13 4 12,cR 6 da,bD 4 6 13] (aa [aX 14 4 6,I 15 1,cc 16 120 14 15,cx 17 16] (aZ 17 (aa [bq 4 false] .ret) .skip)))) (.region [aT 18 .add 10 1,I 10 18])))) (aa [aK 19 0 1 2,ax 20 1 19,aT 21 .neq 20 1,I 22 21,ar 22 false (aK 23 1 1 2),ar 22 false (ax 24 1 23),bT 22 false 25 1,ar 22 false (bt 26 .lss 24 25),c3 27 22 26,I 4 27] .ret)))
@[simp] def xV:List bV:=[.tmp 4]
def Tp:C:=(aa [eM 2 1] (aa [dV 11 1 23 [],I 3 11] (.seq (.seq (.fg false 3 (.region [I 12 0,cD 13 12,cf 14 0])) (ff 15 14 13 (.seq (.block 1 (aa [cC 16 1 12 14,ax 17 1 16,I 5 17] (aa [bq 6 true] (.seq (aa [I 18 0,cD 19 18,cf 20 0] (.block 2 (.loop (aa [bt 21 .lss 20 19] (.seq (aZ 21 .skip (.exit 2)) (.seq (.block 3 (aa [cC 22 1 18 20,ax 23 1 22,I 8 23] (.region [I 24 6,I 25 24,bT 25 true 26 8,bT 25 true 27 5,ar 25 true (cc 28 125 26 27),ar 25 true (aT 29 .eql 28 0),bT 25 true 30 29,bT 30 false 31 8,bT 30 false 32 5,ar 30 false (cc 33 157 31 32),ar 30 false (cx 34 33),ar 25 true (c3 35 30 34),dh 36 25 35,I 6 36]))) (.region [aT 37 .add 20 1,I 20 37]))))))) (aa [I 38 3,cD 39 38,I 9 39] (.seq (.block 4 (.loop (.seq (aa [I 40 9,aT 41 .gtr 40 0,I 42 41,bT 42 true 43 3,bT 42 true 44 9,ar 42 true (aT 45 .sub 44 1),ar 42 true (cC 46 1 43 45),ar 42 true (ax 47 1 46),bT 42 true 48 5,ar 42 true (cc 49 125 47 48),ar 42 true (aT 50 .geq 49 0),dh 51 42 50] (aZ 51 .skip (.exit 4))) (.block 5 (.region [I 52 9,aT 53 .sub 52 1,I 9 53]))))) (aa [I 54 6,I 55 54,bT 55 true 56 9,bT 55 true 57 3,ar 55 true (cD 58 57),ar 55 true (bt 59 .eql 56 58),bT 55 true 60 59,bT 60 false 61 3,bT 60 false 62 9,ar 60 false (cC 63 1 61 62),ar 60 false (ax 64 1 63),bT 60 false 65 5,ar 60 false (cc 66 125 64 65),ar 60 false (aT 67 .neq 66 0),ar 55 true (c3 68 60 67),dh 69 55 68] (aZ 69 (aa [dV 70 1 23 [],I 71 3,I 72 9,bS 73 (.lsl 1 (.t 71) none (some (.t 72))),gN 74 1 23 70 73,I 10 74] (aa [I 75 10,I 76 5,dV 77 1 23 [.t 76],gN 78 1 23 75 77,I 10 78] (.region [I 79 10,I 80 3,I 81 9,bS 82 (.lsl 1 (.t 80) (some (.t 81)) none),gN 83 1 23 79 82,I 3 83]))) .skip)))))))) (.fg false 3 (.region [aT 84 .add 14 1,I 14 84]))))) (aa [I 85 3,I 2 85] .ret))))
@[simp] def aod:List bV:=[.tmp 2]
def Tn:C:=(aa [cf 4 0] (.seq (aa [cf 5 0] (.block 0 (.loop (.seq (aa [I 7 5,I 8 0,cD 9 8,bt 10 .lss 7 9,I 11 10,bT 11 true 12 5,bT 11 true 13 1,ar 11 true (cD 14 13),ar 11 true (bt 15 .lss 12 14),dh 16 11 15] (aZ 16 .skip (.exit 0))) (.seq (.block 1 (.seq (.seq (.drawn true 67 [I 19 0,I 20 5,cC 21 5 19 20,aK 22 0 1 21,ax 23 1 22,I 24 1,I 25 5,cC 26 5 24 25,aK 27 0 1 26,ax 28 1 27,bt 29 .neq 23 28]) (aZ 29 (.seq (.drawn true 67 [I 30 0,I 31 5,cC 32 5 30 31,aK 33 0 1 32,ax 34 1 33,I 35 1,I 36 5,cC 37 5 35 36,aK 38 0 1 37,ax 39 1 38,bt 40 .lss 34 39,cH 41 158 40,I 4 41]) .ret) .skip)) (.seq (.drawn true 67 [I 42 0,I 43 5,cC 44 5 42 43,hZ 45 1 4 44,aX 46 4 45,I 47 1,I 48 5,cC 49 5 47 48,hZ 50 1 4 49,aX 51 4 50,cc 52 130 46 51,I 6 52]) (aa [I 53 6,aT 54 .neq 53 0] (aZ 54 (aa [I 55 6,I 4 55] .ret) .skip))))) (.region [I 17 5,aT 18 .add 17 1,I 5 18])))))) (.seq (aa [I 56 0,cD 57 56,I 58 1,cD 59 58,bt 60 .neq 57 59] (aZ 60 (aa [I 61 0,cD 62 61,I 63 1,cD 64 63,bt 65 .lss 62 64,cH 66 158 65,I 4 66] .ret) .skip)) (aa [cf 4 0] .ret))))
@[simp] def Fa:List bV:=[.tmp 4]
def SU:C:=(aa [bq 4 false] (.seq (aa [I 11 0,cH 12 68 11,cx 13 12,I 14 13,bT 14 false 15 1,ar 14 false (cH 16 68 15),ar 14 false (cx 17 16),c3 18 14 17] (aZ 18 (aa [bq 4 false] .ret) .skip)) (.seq (aa [I 19 0,cD 20 19,cf 21 0] (ff 22 21 20 (.seq (.block 1 (aa [cC 23 5 19 21,aX 24 5 23,cR 6 iM,bD 5 6 24] (aa [I 26 1,aK 27 0 1 6,ax 28 1 27,cH 29 84 28,cc 30 79 26 29,I 25 30,cp 31 0 25,cp 32 1 25,cR 7 da,bD 4 7 31,I 8 32] (aa [I 34 1,hZ 35 1 4 6,aX 36 4 35,cc 37 79 34 36,I 33 37,cp 38 0 33,cp 39 1 33,cR 9 da,bD 4 9 38,I 10 39] (aa [I 40 8,cx 41 40,I 42 41,bT 42 false 43 10,ar 42 false (cx 44 43),c3 45 42 44,I 46 45,ar 46 false (aX 47 4 7),ar 46 false (aX 48 4 9),ar 46 false (cc 49 80 47 48),ar 46 false (cx 50 49),c3 51 46 50] (aZ 51 (aa [bq 4 false] .ret) .skip)))))) (.region [aT 52 .add 21 1,I 21 52])))) (aa [bq 4 true] .ret))))
@[simp] def OW:List bV:=[.tmp 4]
def yb:List (Nat×dy):=[
 (3,⟨1,8,.int .i64,.int .i64 0⟩),
 (23,⟨1,24,.slice 54,.slice 5 .nil []⟩),
 (24,⟨1,24,.slice 23,.slice 1 .nil []⟩),
 (34,⟨1,24,.slice 36,.slice 4 .nil []⟩),
 (36,⟨4,56,.struct [(0,3),(1,3),(2,9),(3,34)],.agg [.int .i64 0,.int .i64 0,.str [],.slice 4 .nil []]⟩),
 (54,⟨5,64,.struct [(0,3),(1,36)],.agg [.int .i64 0,.int .i64 0,.int .i64 0,.str [],.slice 4 .nil []]⟩)]
theorem tz:fJ aw yb=true:=by kernel_rfl
theorem amT:b6 yb Tm aob 1 Tryz.f69=true:=by kernel_rfl
theorem af2:aw.funcs[(69:Nat)]? =some Tryz.f69:=Tryz.func69
theorem am1:b6 yb Tu aog 2 Tryz.f72=true:=by kernel_rfl
theorem aga:aw.funcs[(72:Nat)]? =some Tryz.f72:=Tryz.func72
theorem amS:b6 yb Tl aoa 2 Tryz.f102=true:=by kernel_rfl
theorem af1:aw.funcs[(102:Nat)]? =some Tryz.f102:=Tryz.func102
theorem EU:b6 yb AH xV 2 Tryz.f120=true:=by kernel_rfl
theorem Dn:aw.funcs[(120:Nat)]? =some Tryz.f120:=Tryz.func120
theorem amW:b6 yb Tp aod 1 Tryz.f124=true:=by kernel_rfl
theorem af5:aw.funcs[(124:Nat)]? =some Tryz.f124:=Tryz.func124
theorem amU:b6 yb Tn Fa 2 Tryz.f125=true:=by kernel_rfl
theorem af3:aw.funcs[(125:Nat)]? =some Tryz.f125:=Tryz.func125
theorem ams:b6 yb SU OW 2 Tryz.f157=true:=by kernel_rfl
theorem afB:aw.funcs[(157:Nat)]? =some Tryz.f157:=Tryz.func157
def Tb:C:=(aa [cW 2 0,cW 3 1,bq 4 false] (aa [aX 5 4 2,aX 6 4 3,cc 7 130 5 6,aT 8 .eql 7 0,I 4 8] .ret))
@[simp] def Zx:List bV:=[.tmp 4]
def C8:C:=(aa [cW 2 0,cW 3 1,cf 4 0] (.seq (aa [aK 7 0 1 2,ax 8 1 7,aK 9 0 1 3,ax 10 1 9,bt 11 .neq 8 10] (aZ 11 (aa [aK 12 0 1 2,ax 13 1 12,aK 14 0 1 3,ax 15 1 14,bt 16 .lss 13 15,cH 17 158 16,I 4 17] .ret) .skip)) (.seq (aa [aK 18 1 1 2,ax 19 1 18,aK 20 1 1 3,ax 21 1 20,bt 22 .neq 19 21] (aZ 22 (aa [aK 23 1 1 2,ax 24 1 23,aK 25 1 1 3,ax 26 1 25,bt 27 .lss 24 26,cH 28 158 27,I 4 28] .ret) .skip)) (.seq (aa [aK 29 2 1 2,ax 30 1 29,aK 31 2 1 3,ax 32 1 31,bt 33 .neq 30 32] (aZ 33 (aa [aK 34 2 1 2,ax 35 1 34,aK 36 2 1 3,ax 37 1 36,bt 38 .lss 35 37,cH 39 158 38,I 4 39] .ret) .skip)) (.seq (aa [cf 5 0] (.block 0 (.loop (.seq (aa [I 40 5,aK 41 3 1 2,ax 42 1 41,cD 43 42,bt 44 .lss 40 43,I 45 44,bT 45 true 46 5,ar 45 true (aK 47 3 1 3),ar 45 true (ax 48 1 47),ar 45 true (cD 49 48),ar 45 true (bt 50 .lss 46 49),dh 51 45 50] (aZ 51 .skip (.exit 0))) (.seq (.block 1 (.seq (.drawn true 68 [aK 54 3 1 2,ax 55 1 54,I 56 5,cC 57 4 55 56,aX 58 4 57,aK 59 3 1 3,ax 60 1 59,I 61 5,cC 62 4 60 61,aX 63 4 62,cc 64 130 58 63,I 6 64]) (aa [I 65 6,aT 66 .neq 65 0] (aZ 66 (aa [I 67 6,I 4 67] .ret) .skip)))) (.region [I 52 5,aT 53 .add 52 1,I 5 53])))))) (aa [cf 4 0] .ret))))))
@[simp] def Ci:List bV:=[.tmp 4]
def Tc:C:=(aa [cf 2 0] (.seq (aa [I 3 0] (aZ 3 (aa [cf 2 (-1)] .ret) .skip)) (aa [cf 2 1] .ret)))
@[simp] def Zy:List bV:=[.tmp 2]
def JL:List (Nat×dy):=[
 (3,⟨1,8,.int .i64,.int .i64 0⟩),
 (4,⟨1,1,.bool,.bool false⟩),
 (9,⟨1,16,.str,.str []⟩),
 (34,⟨1,24,.slice 36,.slice 4 .nil []⟩),
 (36,⟨4,56,.struct [(0,3),(1,3),(2,9),(3,34)],.agg [.int .i64 0,.int .i64 0,.str [],.slice 4 .nil []]⟩)]
theorem CA:fJ aw JL=true:=by kernel_rfl
theorem amI:b6 JL Tb Zx 2 Tryz.f80=true:=by kernel_rfl
theorem afR:aw.funcs[(80:Nat)]? =some Tryz.f80:=Tryz.func80
theorem IB:b6 JL C8 Ci 2 Tryz.f130=true:=by kernel_rfl
theorem GU:aw.funcs[(130:Nat)]? =some Tryz.f130:=Tryz.func130
theorem amJ:b6 JL Tc Zy 1 Tryz.f158=true:=by kernel_rfl
theorem afS:aw.funcs[(158:Nat)]? =some Tryz.f158:=Tryz.func158
theorem QU{t u:T}(J:t.kind=u.kind)(U:t.int=u.int)(h3:t.name=u.name)(h4:t.args=u.args):t=u:=by cases t<;>cases u<;>simp_all
theorem r9(b:Bool):bK aw 158 [.bool b] (.int .i64 (if b then-1 else 1)):=by
 refine bo CA afS amJ fun aQ=>?_;unfold Tc;simp;((with_reducible repeat' first|refine ak ?_|simp|((first|apply bJ|apply bM|apply bL)<;>intro h<;>try simp at h))<;>(try exact ck));all_goals simp[bp,Zy,aV,aY,aU]
 all_goals simp_all
theorem am7{a b:T}(bg:a.args=[]\/b.args=[])(J:a.kind=b.kind)(U:a.int=b.int):eK a b=ln a.name b.name:=by cases a<;>cases b<;>simp_all[eK]
def Eh(a b:T)(i:Nat)(_:Unit):Prop:=a.args.take i=b.args.take i
theorem aa6(a:T)(bN:∀x∈a.args,∀b:T,bK aw 130 [x.e,b.e] (.int .i64 (eK x b)))(b:T):bK aw 130 [a.e,b.e] (.int .i64 (eK a b)):=by
 have hle:a.args.length<=2:=by cases a<;>simp
 by_cases ae:a.kind=b.kind
 ·by_cases hi:a.int=b.int
  ·by_cases au:a.name=b.name
   ·have hlen:a.args.length=b.args.length:=by cases a<;>cases b<;>simp at ae⊢
    refine bo CA GU IB fun aQ=>?_;unfold C8;simp[ae,hi,au];refine eJ [2,3] (fun i (_:Unit)=>[(5,.int .i64 i)]) a.args.length (Eh a b) () b7 (by simp[Eh]) (fun _ ag _=>?_) (fun i _ bs ag _=>?_)
    ·simp;(with_reducible repeat' first|refine ak ?_|simp);simp[bp,Ci,aV,aY,aU];unfold Eh at ag;rw[hl Ω,hl Ω]at ag;exact((rW a b).2 (QU ae hi au ag)).symm
    ·have rI:i<b.args.length:=Ω
     obtain⟨x,ab⟩:∃x,x=a.args[i]:=⟨_,rfl⟩;obtain⟨y,aC⟩:∃y,y=b.args[i]:=⟨_,rfl⟩;have qk:=bN x (by rw[ab];exact List.getElem_mem bs) y;simp[bs,rI,<-ab,<-aC];(with_reducible repeat' first|((first|apply bJ|apply bM|apply bL)<;>intro h<;>try simp at h)|refine ak ?_|refine aA qk ?_|refine aB qk ?_|simp)
     ·simp[bp,Ci,aV,aY,aU];unfold Eh at ag;cases a with
      |pair bA a2=>
       cases b with
       |pair b1 b2=>
        simp at bs ag ab aC;rcases(by omega:i=0\/i=1)with rfl|rfl
        ·simp at ab aC;subst ab aC;simp[eK,h]
        ·simp at ag ab aC;subst ab aC ag;simp[eK,(rW bA bA).2 rfl]
       |_=>simp at ae
      |_=>simp at bs
     ·refine bR.rng () bs ?_ b7;unfold Eh at ag⊢;rw[List.take_succ,List.take_succ,ag,cg bs,cg rI,<-ab,<-aC,(rW x y).1 h]
   ·refine bo CA GU IB fun aQ=>?_;unfold C8;simp[ae,hi,au];((with_reducible repeat' first|refine ak ?_|refine aA (r9 _) ?_|refine aB (r9 _) ?_|simp|((first|apply bJ|apply bM|apply bL)<;>intro h<;>try simp at h))<;>(try exact ck));simp[bp,Ci,aV,aY,aU];have:a.args=[]\/b.args=[]:=by cases a<;>cases b<;>simp at ae au⊢
    rw[am7 this ae hi,ln,if_neg au]
  ·refine bo CA GU IB fun aQ=>?_;unfold C8;simp[ae,hi];((with_reducible repeat' first|refine ak ?_|refine aA (r9 _) ?_|refine aB (r9 _) ?_|simp|((first|apply bJ|apply bM|apply bL)<;>intro h<;>try simp at h))<;>(try exact ck));simp[bp,Ci,aV,aY,aU];cases a<;>cases b<;>simp at ae hi
   ·rw[YA];simp[eL];split<;>(try split)<;>omega
   ·rw[Yz];simp[eL];split<;>(try split)<;>omega
 ·refine bo CA GU IB fun aQ=>?_;unfold C8;simp[ae];((with_reducible repeat' first|refine ak ?_|refine aA (r9 _) ?_|refine aB (r9 _) ?_|simp|((first|apply bJ|apply bM|apply bL)<;>intro h<;>try simp at h))<;>(try exact ck));simp[bp,Ci,aV,aY,aU];rw[tj ae];simp[eL];split<;>(try split)<;>omega
theorem JS(a:T):∀b:T,bK aw 130 [a.e,b.e] (.int .i64 (eK a b)):=by
 induction a with
 |pair x y qk s5=>
  refine aa6 _ fun z bd=>?_;simp at bd;rcases bd with rfl|rfl
  ·exact qk
  ·exact s5
 |_=>exact aa6 _ fun x ab=>by simp at ab
theorem JU(a b:T):bK aw 80 [a.e,b.e] (.bool (decide (a=b))):=by refine bo CA afR amI fun aQ=>?_;unfold Tb;simp;(with_reducible repeat' first|refine ak ?_|refine aA (JS _ _) ?_|refine aB (JS _ _) ?_|simp);simp[bp,Zx,aV,aY,aU];have:=rW a b;by_cases h:eK a b=0<;>simp_all
theorem aqg{s t:List ai}(af:ev s)(aI:ev t):bK aw 102 [.slice 5 .no (s.map ai.e),.slice 5 .no (t.map ai.e)] (.slice 5 .no ((dN s t).map ai.e)):=by
 have ai6:=aI.len;generalize bH:dN s t=R;refine bo tz af1 amS fun aQ=>?_;unfold Tl;simp;refine hI (α:=List ai) (fun i out=>⟨[(0,.slice 5 .no (s.map ai.e)),(11,.slice 5 .no (t.map ai.e)),(12,.int .i64 t.length),(5,.slice 5 (.own (.loc 0)) (out.map ai.e)),(13,.int .i64 i)],[],[(.loc 0,⟨out.length,54,5,none⟩)],1,[]⟩) t.length (rN s t) [] b7 (by simp[rN,dN]) (fun out ag _=>?_) (fun i out hi ag _=>?_)
 ·rw[rN,hl (dZ _),bH]at ag;rw[<-ag];exact cz
 ·obtain⟨b,az,gr⟩:=eI hi;have Bh:out.length<=1000000:=by
   have:out.length<=(t.take i).length:=by rw[ag];exact List.length_filter_le _ _
   simp at this;omega
  have jJ:=sa s b.v af.len;cases ad:cO s b.v with
  |none=>
   have au:rN s t (i+1) (out++[b]):=by rw[rN,mC az,dN,List.filter_append,ag];simp[dN,ad]
   rw[ad]at jJ;simp only[lv,k1]at jJ;clear ag az ad;simp[hi,gr];(with_reducible repeat' first|refine ak ?_|refine aA jJ ?_|refine aB jJ ?_|simp[gr,hi]);all_goals first|(refine⟨by unfold lim;omega,?_⟩)|skip
   (with_reducible repeat' first|refine ak ?_|simp);refine bR.rng (out++[b]) hi au ?_;simp;exact⟨by simp[fresh,aO,aJ,cn,inObs,Pv.look,jK],ek (by simp[fresh,aO,aJ,cn,inObs,Pv.look,jK]),en (by simp[fresh,aO,aJ,dW,inObs,Pv.look,jK]),Ψ⟩
  |some x=>
   have au:rN s t (i+1) out:=by rw[rN,mC az,dN,List.filter_append,ag];simp[dN,ad]
   rw[ad]at jJ;simp only[iB,oJ]at jJ;clear ag az ad;simp[hi,gr];(with_reducible repeat' first|refine ak ?_|refine aA jJ ?_|refine aB jJ ?_|simp[gr,hi]);refine bR.rng out hi au ?_;exact b7
theorem ap0{s t:List ai}(af:ev s)(aI:ev t):bK aw 157 [.slice 5 .no (s.map ai.e),.slice 5 .no (t.map ai.e)] (.bool (kE s t)):=by
 have qT:=af.len;generalize bH:kE s t=R;have kS:=Qq af;have dt:=Qq aI;refine bo tz afB ams fun aQ=>?_;unfold SU;simp;(with_reducible repeat' first|refine ak ?_|refine aA kS ?_|refine aB kS ?_|refine aA dt ?_|refine aB dt ?_|simp);refine eJ [1,19,20] (fun i (_:Unit)=>[(21,.int .i64 i)]) s.length (mW (rS t) s) () b7 (fun k b ae=>Ω) (fun _ ag _=>?_) (fun i _ hi ag _=>?_)
 ·have:R=true:=by rw[<-bH,kE,fV];intro b ad;obtain⟨k,ae,e⟩:=oI ad;exact ag k b ae (by rw[cg ae,e])
  rw[this];exact cz
 ·obtain⟨b,az,gr⟩:=eI hi;have fW:rS t b=false->R=false:=fun h=>by rw[<-bH,Bool.eq_false_iff];intro b9;rw[kE,fV]at b9;rw[b9 b (eF az)]at h;cases h
  have aS:=Ad t aI.len (.var b.v);have bf:=Ad t aI.len b.t;have zd:=Ft aI b.v;have HO:((T.var b.v).ap (aR t)).size<=5000:=zd;rw[hb HO]at aS;rw[show(T.var b.v).ap (aR t)=aR t b.v from rfl]at aS;by_cases bd:(b.t.ap (aR t)).size<=5000
  ·rw[hb bd]at bf;by_cases he:aR t b.v=b.t.ap (aR t)
   ·have au:=ag.step az (by simp[rS,he]);have fS:=JU (aR t b.v) (b.t.ap (aR t));rw[hb he]at fS;clear ag az;simp[hi,gr];(with_reducible repeat' first|refine ak ?_|refine aA (kM _) ?_|refine aB (kM _) ?_|refine aA aS ?_|refine aB aS ?_|refine aA bf ?_|refine aB bf ?_|refine aA fS ?_|refine aB fS ?_|simp[gr,hi]);exact bR.rng () hi au b7
   ·rw[fW (by simp[rS,he])];have fS:=JU (aR t b.v) (b.t.ap (aR t));rw[h0 he]at fS;clear ag az;simp[hi,gr];(with_reducible repeat' first|refine ak ?_|refine aA (kM _) ?_|refine aB (kM _) ?_|refine aA aS ?_|refine aB aS ?_|refine aA bf ?_|refine aB bf ?_|refine aA fS ?_|refine aB fS ?_|simp[gr,hi]);simp[bp,OW,aV,aY,aU]
  ·rw[h0 bd]at bf;rw[fW (by simp only[rS,gD];intro e;rw[<-e]at bd;exact bd zd)];clear ag az;simp[hi,gr];(with_reducible repeat' first|refine ak ?_|refine aA (kM _) ?_|refine aB (kM _) ?_|refine aA aS ?_|refine aB aS ?_|refine aA bf ?_|refine aB bf ?_|simp[gr,hi]);simp[bp,OW,aV,aY,aU]
theorem Qk(d e:List ai):bK aw 125 [.slice 5 .no (d.map ai.e),.slice 5 .no (e.map ai.e)] (.int .i64 (eE d e)):=by
 generalize bH:eE d e=R;refine bo tz af3 amU fun aQ=>?_;unfold Tn;have aG:d.length<=68719476736:=by simp[gQ,gi,gH,lim]at aQ;omega
 have he:e.length<=68719476736:=by simp[gQ,gi,gH,lim]at aQ;omega
 simp;refine wX [0,1] (fun(i:Nat)=>[(5,.int .i64 i)]) (fun i=>d.length-i) (Ni d e) 0 b7 ⟨Ω,Ω,Ψ⟩ (fun i ag _=>?_);obtain⟨J,U,h3⟩:=ag;rw[bH]at h3;by_cases hi:i<d.length
 ·by_cases hX:i<e.length
  ·obtain⟨x,ab⟩:∃x,d[i]? =some x:=⟨_,cg hi⟩;obtain⟨y,aC⟩:∃y,e[i]? =some y:=⟨_,cg hX⟩;have cY:∀h,(d[i]'h)=x:=fun h=>by rw[cg hi]at ab;exact eZ ab
   have eP:∀h,(e[i]'h)=y:=fun h=>by rw[cg hX]at aC;exact eZ aC
   have A7:d.drop i=x::d.drop (i+1):=by rw[lu hi,cY]
   have A8:e.drop i=y::e.drop (i+1):=by rw[lu hX,eP]
   rw[A7,A8]at h3;rw[Yx]at h3;by_cases a1:x.v=y.v
   ·have nQ:eL x.v y.v=0:=(kX.zero _ _).2 a1;have uS:(x.v !=y.v)=false:=by simp[a1]
    rw[if_pos nQ]at h3;by_cases bm:eK x.t y.t=0
    ·rw[if_pos bm]at h3;have au:Ni d e (i+1):=⟨Ω,Ω,by rw[bH];exact h3⟩;have jc:=JS x.t y.t;rw[bm]at jc;clear A7 A8 ab aC h3 nQ;simp[hi,hX,cY,eP];((with_reducible repeat' first|refine ak ?_|refine aA jc ?_|refine aB jc ?_|simp[cY,eP,hi,hX,a1,uS]|((first|apply bJ|apply bM|apply bL)<;>intro h<;>try simp at h))<;>(try exact ck));all_goals exact bR.whl (i+1) Ω au b7
    ·rw[if_neg bm]at h3;have jc:=JS x.t y.t;have zE:(eK x.t y.t !=0)=true:=by simp[bm]
     clear A7 A8 ab aC nQ;simp[hi,hX,cY,eP];(with_reducible repeat' first|refine ak ?_|refine aA jc ?_|refine aB jc ?_|simp[cY,eP,hi,hX,a1,uS,bm,zE]);all_goals simp[bp,Fa,aV,aY,aU]
     all_goals exact h3
   ·have nQ:¬eL x.v y.v=0:=fun h=>a1 ((kX.zero _ _).1 h);have uS:(x.v !=y.v)=true:=by simp[a1]
    rw[if_neg nQ]at h3;have dp:R=if decide (x.v<y.v)=true then-1 else 1:=by rw[<-h3];unfold eL;simp only[eN];(repeat' split)<;>omega
    clear A7 A8 ab aC h3 nQ;rw[dp];simp[hi,hX,cY,eP];(with_reducible repeat' first|refine ak ?_|refine aA (r9 _) ?_|refine aB (r9 _) ?_|simp[cY,eP,hi,hX,a1,uS]);all_goals simp[bp,Fa,aV,aY,aU]
  ·have hle:e.length<d.length:=Ω
   have:(1:Int)=R:=by rw[<-h3,eE,Ew _ _ _ (.inr (List.drop_eq_nil_of_le Ω))];simp only[tG];unfold eL;(repeat' split)<;>omega
   have cA:¬(d.length:Int)=e.length:=Ω
   have MH:((d.length:Int) !=e.length)=true:=by simp;omega
   have kg:¬(d.length:Int)<e.length:=Ω
   have DX:¬d.length<e.length:=Ω
   have aiF:¬d.length=e.length:=Ω
   clear h3;rw[<-this];simp[hi,hX];(with_reducible repeat' first|refine ak ?_|refine aA (r9 _) ?_|refine aB (r9 _) ?_|simp[hi,hX,cA,MH,kg,DX,aiF]);all_goals simp[bp,Fa,aV,aY,aU]
   all_goals(try simp[DX])
 ·have e8:i=d.length:=Ω
  by_cases av:d.length=e.length
  ·have:(0:Int)=R:=by rw[<-h3,eE,Ew _ _ _ (.inl (List.drop_eq_nil_of_le Ω))];simp only[tG];unfold eL;(repeat' split)<;>omega
   clear h3;rw[<-this];exact cz
  ·have:(-1:Int)=R:=by rw[<-h3,eE,Ew _ _ _ (.inl (List.drop_eq_nil_of_le Ω))];simp only[tG];unfold eL;(repeat' split)<;>omega
   have cA:¬(d.length:Int)=e.length:=Ω
   have MH:((d.length:Int) !=e.length)=true:=by simp;omega
   have kg:(d.length:Int)<e.length:=Ω
   have DX:d.length<e.length:=Ω
   clear h3;rw[<-this];simp[hi];(with_reducible repeat' first|refine ak ?_|refine aA (r9 _) ?_|refine aB (r9 _) ?_|simp[hi,cA,MH,kg,DX,av]);all_goals simp[bp,Fa,aV,aY,aU]
   all_goals(try simp[DX])
def ajQ(n:Int)(a b:T)(i:Nat)(_:Unit):Prop:=(1<=i->dK n a=true)/\(2<=i->dK n b=true)
theorem Qo(n:Int):∀t:T,bK aw 120 [t.e,.int .i64 n] (.bool (dK n t))
 | .pair a b=>by
  have dz:=Qo n a;have dA:=Qo n b;refine bo tz Dn EU fun aQ=>?_;unfold AH;simp;refine eJ [1,2,8,9] (fun i (_:Unit)=>[(10,.int .i64 i)]) 2 (ajQ n a b) () b7 ⟨fun h=>Ω,fun h=>Ω⟩ (fun _ ag _=>?_) (fun i _ hi ag _=>?_)
  ·simp;(with_reducible repeat' first|refine ak ?_|simp);simp[bp,xV,aV,aY,aU];simp[dK,ag.1,ag.2]
  ·rcases(by omega:i=0\/i=1)with rfl|rfl
   ·cases bg:dK n a
    ·rw[bg]at dz;simp;(with_reducible repeat' first|refine ak ?_|refine aA dz ?_|refine aB dz ?_|simp);simp[bp,xV,aV,aY,aU];simp[dK,bg]
    ·rw[bg]at dz;simp;((with_reducible repeat' first|refine ak ?_|refine aA dz ?_|refine aB dz ?_|simp|((first|apply bJ|apply bM|apply bL)<;>intro h<;>try simp at h))<;>(try exact ck));exact bR.rng () hi ⟨fun _=>bg,fun h=>Ω⟩ b7
   ·cases ad:dK n b
    ·rw[ad]at dA;simp;((with_reducible repeat' first|refine ak ?_|refine aA dA ?_|refine aB dA ?_|simp|((first|apply bJ|apply bM|apply bL)<;>intro h<;>try simp at h))<;>(try exact ck));simp[bp,xV,aV,aY,aU];simp[dK,ad]
    ·rw[ad]at dA;simp;((with_reducible repeat' first|refine ak ?_|refine aA dA ?_|refine aB dA ?_|simp|((first|apply bJ|apply bM|apply bL)<;>intro h<;>try simp at h))<;>(try exact ck));exact bR.rng () hi ⟨fun _=>ag.1 Ω,fun _=>ad⟩ b7
 | .sym v=>by
  refine bo tz Dn EU fun aQ=>?_;unfold AH;simp;refine eJ [1,2,8,9] (fun i (_:Unit)=>[(10,.int .i64 i)]) 0 (fun i _=>True) () b7 trivial (fun _ ag _=>?_) (fun i _ hi ag _=>Ω);simp;((with_reducible repeat' first|refine ak ?_|simp|((first|apply bJ|apply bM|apply bL)<;>intro h<;>try simp at h))<;>(try exact ck));all_goals simp[bp,xV,aV,aY,aU]
  all_goals simp[dK]
 | .num v=>by
  refine bo tz Dn EU fun aQ=>?_;unfold AH;simp;refine eJ [1,2,8,9] (fun i (_:Unit)=>[(10,.int .i64 i)]) 0 (fun i _=>True) () b7 trivial (fun _ ag _=>?_) (fun i _ hi ag _=>Ω);simp;(with_reducible repeat' first|refine ak ?_|simp);all_goals simp[bp,xV,aV,aY,aU]
  all_goals simp[dK]
 | .var v=>by
  refine bo tz Dn EU fun aQ=>?_;unfold AH;simp;refine eJ [1,2,8,9] (fun i (_:Unit)=>[(10,.int .i64 i)]) 0 (fun i _=>True) () b7 trivial (fun _ ag _=>?_) (fun i _ hi ag _=>Ω);simp;(with_reducible repeat' first|refine ak ?_|simp);all_goals simp[bp,xV,aV,aY,aU]
  all_goals simp[dK]
 | .nil=>by
  refine bo tz Dn EU fun aQ=>?_;unfold AH;simp;refine eJ [1,2,8,9] (fun i (_:Unit)=>[(10,.int .i64 i)]) 0 (fun i _=>True) () b7 trivial (fun _ ag _=>?_) (fun i _ hi ag _=>Ω);simp;(with_reducible repeat' first|refine ak ?_|simp);all_goals simp[bp,xV,aV,aY,aU]
  all_goals simp[dK]
theorem abh(s:List ai)(n:Int):bK aw 72 [.slice 5 .no (s.map ai.e),.int .i64 n] (.bool (s.all (lA n))):=by
 generalize bH:s.all (lA n)=R;refine bo tz aga am1 fun aQ=>?_;unfold Tu;have h7:s.length<=68719476736:=by simp[gQ,gi,gH,lim]at aQ;omega
 simp;refine eJ [1,7,8] (fun i (_:Unit)=>[(9,.int .i64 i)]) s.length (mW (lA n) s) () b7 (fun k b ae=>Ω) (fun _ ag _=>?_) (fun i _ hi ag _=>?_)
 ·have:R=true:=by rw[<-bH,fV];intro b ad;obtain⟨k,ae,e⟩:=oI ad;exact ag k b ae (by rw[cg ae,e])
  rw[this];exact cz
 ·obtain⟨b,az,gr⟩:=eI hi;have fW:lA n b=false->R=false:=fun h=>by rw[<-bH,Bool.eq_false_iff];intro b9;rw[fV]at b9;rw[b9 b (eF az)]at h;cases h
  have kB:=Qo n b.t;by_cases J:b.v<n
  ·have oT:¬n<=b.v:=Ω
   cases U:dK n b.t
   ·rw[fW (by simp[lA,U])];rw[U]at kB;clear ag az;exact cz
   ·have au:=ag.step az (by simp[lA,J,U]);rw[U]at kB;clear ag az;exact hN
  ·have oT:n<=b.v:=Ω
   rw[fW (by simp[lA,J])];clear ag az;exact cz
theorem aqi(l:List (List dO)):bK aw 69 [.slice 1 .no (l.map mh)] (.bool (l.all gL)):=by
 generalize bH:l.all gL=R;refine bo tz af2 amT fun aQ=>?_;unfold Tm;have h7:l.length<=68719476736:=by simp[gQ,gi,gH,lim]at aQ;omega
 simp;refine eJ [5,6] (fun i (_:Unit)=>[(7,.int .i64 i)]) l.length (mW gL l) () b7 (fun k b ae=>Ω) (fun _ ag _=>?_) (fun i _ hi ag _=>?_)
 ·have:R=true:=by rw[<-bH,fV];intro b ad;obtain⟨k,ae,e⟩:=oI ad;exact ag k b ae (by rw[cg ae,e])
  rw[this];exact cz
 ·obtain⟨b,az,gr⟩:=eI hi;have kS:bK aw 68 [mh b] (.bool (gL b)):=Qp b;cases ad:gL b
  ·have:R=false:=by rw[<-bH,Bool.eq_false_iff];intro b9;rw[fV]at b9;rw[b9 b (eF az)]at ad;cases ad
   rw[this];rw[ad]at kS;clear ag az;exact cz
  ·have au:=ag.step az ad;rw[ad]at kS;clear ag az;exact hN
theorem TN(a:List (List ai))(k:Nat)(m:List ai):pZ k (a.map cF)++cF m::List.drop k (a.map cF)=(a.take k++m::a.drop k).map cF:=by simp
theorem rA(a:List (List ai))(k:Nat)(m:List ai):dq (pZ k (a.map cF)++cF m::List.drop k (a.map cF))=pZ k (a.map cF)++cF m::List.drop k (a.map cF):=by rw[TN,PW]
theorem rz(S:aL->Prop)(a:List (List ai))(k:Nat)(m:List ai):aO S (pZ k (a.map cF)++cF m::List.drop k (a.map cF))=True:=by rw[TN,Xa]
theorem GJ(a:List (List ai))(m:List ai):a.map cF++[cF m]=(a++[m]).map cF:=by simp
theorem p8(a:List (List ai))(m:List ai):dq (a.map cF++[cF m])=a.map cF++[cF m]:=by rw[GJ,PW]
theorem ry(S:aL->Prop)(a:List (List ai))(m:List ai):aO S (a.map cF++[cF m])=True:=by rw[GJ,Xa]
theorem abf(L:List (List ai))(ft:∀d∈L,ev d):bK aw 124 [.slice 1 .no (L.map cF)] (.slice 1 .no ((jL L).map cF)):=by
 generalize bH:jL L=R;rw[akN]at bH;refine bo tz af5 amW fun aQ=>?_;unfold Tp;have h7:L.length<=68719476736:=by simp[gQ,gi,gH,lim]at aQ;omega
 simp;refine eJ [0,12,13] (fun i (a:List (List ai))=>[(3,.slice 1 .no (a.map cF)),(14,.int .i64 i)]) L.length (zh L) [] b7 (by simp[zh]) (fun a ag _=>?_) (fun i a hi ag _=>?_)
 ·rw[zh,lQ,bH]at ag;subst ag;exact cz
 ·obtain⟨e,he,Mq⟩:=eI hi;have sE:hS eE a:=by rw[ag];exact N5 _ (by simp[hS])
  have mM:a.length<=i:=by have:=XO (L:=L) (L.take i) [];rw[ag];simp at this⊢;omega
  have fL:=ag.step he;have kR:=ft e (eF he);have bf:∀d,bK aw 125 [cF d,cF e] (.int .i64 (eE d e)):=fun d=>Qk d e;clear ag he;simp[hi,Mq];(with_reducible repeat' first|refine ak ?_|simp[hi,Mq]);refine eJ [0,3,5,12,13,14,18,19] (fun j (b:Bool)=>[(6,.bool b),(20,.int .i64 j)]) L.length (qX L e) true b7 (by simp[qX]) (fun keep ag _=>?_) (fun j keep ec ag _=>?_)
  ·rw[qX,lQ]at ag;have VP:keep=iL L e:=ag;rw[q6,<-VP]at fL;clear ag VP;simp;(with_reducible repeat' first|refine ak ?_|simp);refine wX [0,3,5,6,12,13,14] (fun(k:Nat)=>[(9,.int .i64 k)]) (fun k=>k) (HX a e) a.length b7 ⟨Ω,fun c h=>by simp at h⟩ (fun k ag _=>?_);have ae:=ag.1;rcases Nat.eq_zero_or_pos k with bz|fR
   ·have bd:decide ((0:Int)<k)=false:=by simp;omega
    have sZ:¬(0:Int)<k:=Ω
    have dG:=ag.fin sE fun d h=>Ω
    clear ag sE;cases keep with
    |false=>simp only[hg,if_false]at fL;clear dG;exact hN
    |true=>
     simp only[if_true]at fL;by_cases hJ:k<a.length
     ·obtain⟨c,ao,jq⟩:=eI hJ;rw[ao]at dG;by_cases q:eE c e=0
      ·rw[if_pos (by simp[q])]at dG;rw[dG]at fL;clear dG ao;simp[hJ,jq,bd,sZ];((with_reducible repeat' first|refine ak ?_|refine aA (bf _) ?_|refine aB (bf _) ?_|simp[hJ,jq,q,bd,sZ]|((first|apply bJ|apply bM|apply bL)<;>intro h<;>try simp at h))<;>(try exact ck));all_goals exact bR.rng a hi fL b7
      ·rw[if_neg (by simp[q])]at dG;have gl:(eE c e !=0)=true:=by simp[q]
       rw[dG]at fL;clear dG ao;simp[hJ,jq,bd,sZ];((with_reducible repeat' first|refine ak ?_|refine aA (bf _) ?_|refine aB (bf _) ?_|simp[hJ,jq,q,gl,bd,sZ]|((first|apply bJ|apply bM|apply bL)<;>intro h<;>try simp at h))<;>(try exact ck));all_goals first|(refine⟨by unfold lim;omega,?_⟩)|skip
       all_goals(with_reducible repeat' first|refine ak ?_|simp)
       all_goals first|(refine⟨by unfold lim;omega,?_⟩)|skip
       all_goals((with_reducible repeat' first|refine ak ?_|simp|((first|apply bJ|apply bM|apply bL)<;>intro h<;>try simp at h))<;>(try exact ck))
       all_goals exact bR.rng _ hi fL ⟨by simp[fresh,aO,aJ,cn,inObs,Pv.look,hl,rA,rz,p8,ry],ek (by simp[fresh,aO,aJ,cn,inObs,Pv.look,hl,rA,rz,p8,ry]),en (by simp[fresh,aO,aJ,dW,inObs,Pv.look,hl,rA,rz,p8,ry]),Ψ⟩
     ·rw[rf Ω]at dG;simp only[hg,if_false]at dG;rw[dG]at fL;have ij:k=a.length:=Ω
      have qN:a.take k++e::a.drop k=a++[e]:=by rw[ij];simp
      rw[qN]at fL;clear dG qN;simp[hJ,bd,sZ];((with_reducible repeat' first|refine ak ?_|refine aA (bf _) ?_|refine aB (bf _) ?_|simp[hJ,ij,bd,sZ]|((first|apply bJ|apply bM|apply bL)<;>intro h<;>try simp at h))<;>(try exact ck));all_goals first|(refine⟨by unfold lim;omega,?_⟩)|skip
      all_goals(with_reducible repeat' first|refine ak ?_|simp)
      all_goals first|(refine⟨by unfold lim;omega,?_⟩)|skip
      all_goals((with_reducible repeat' first|refine ak ?_|simp|((first|apply bJ|apply bM|apply bL)<;>intro h<;>try simp at h))<;>(try exact ck))
      all_goals exact bR.rng _ hi fL ⟨by simp[fresh,aO,aJ,cn,inObs,Pv.look,hl,rA,rz,p8,ry],ek (by simp[fresh,aO,aJ,cn,inObs,Pv.look,hl,rA,rz,p8,ry]),en (by simp[fresh,aO,aJ,dW,inObs,Pv.look,hl,rA,rz,p8,ry]),Ψ⟩
   ·obtain⟨d,aG⟩:∃d,a[k-1]? =some d:=⟨_,cg Ω⟩;have aq:((k:Int)-1).toNat=k-1:=Ω
    have aF:∀h,(a[k-1]'h)=d:=fun h=>by rw[cg h]at aG;exact eZ aG
    have jt:(0:Int)<k:=Ω
    have mS:k-1<a.length:=Ω
    by_cases ad:0<=eE d e
    ·have af:HX a e (k-1):=⟨Ω,fun c ao=>by rw[aG]at ao;cases ao;exact ad⟩;clear ag sE fL aG;simp[fR,jt,aq,aF,ad,mS];((with_reducible repeat' first|refine ak ?_|refine aA (bf _) ?_|refine aB (bf _) ?_|simp[fR,jt,aq,aF,ad,mS]|((first|apply bJ|apply bM|apply bL)<;>intro h<;>try simp at h))<;>(try exact ck));refine bR.whl (k-1) Ω af ?_;have bB:((k-1:Nat):Int)=(k:Int)-1:=Ω
     simp[bB];exact b7
    ·have dG:=ag.fin sE fun cm _ lZ=>by rw[aG]at lZ;cases lZ;omega
     clear ag sE aG;cases keep with
     |false=>simp only[hg,if_false]at fL;clear dG;simp[fR,jt,aq,aF,ad,mS];(with_reducible repeat' first|refine ak ?_|refine aA (bf _) ?_|refine aB (bf _) ?_|simp[fR,jt,aq,aF,ad,mS]);all_goals exact bR.rng a hi fL b7
     |true=>
      simp only[if_true]at fL;by_cases hJ:k<a.length
      ·obtain⟨c,ao,jq⟩:=eI hJ;rw[ao]at dG;by_cases q:eE c e=0
       ·rw[if_pos (by simp[q])]at dG;rw[dG]at fL;clear dG ao;simp[hJ,jq,fR,jt,aq,aF,ad,mS];((with_reducible repeat' first|refine ak ?_|refine aA (bf _) ?_|refine aB (bf _) ?_|simp[hJ,jq,q,fR,jt,aq,aF,ad,mS]|((first|apply bJ|apply bM|apply bL)<;>intro h<;>try simp at h))<;>(try exact ck));all_goals exact bR.rng a hi fL b7
       ·rw[if_neg (by simp[q])]at dG;have gl:(eE c e !=0)=true:=by simp[q]
        rw[dG]at fL;clear dG ao;simp[hJ,jq,fR,jt,aq,aF,ad,mS];((with_reducible repeat' first|refine ak ?_|refine aA (bf _) ?_|refine aB (bf _) ?_|simp[hJ,jq,q,gl,fR,jt,aq,aF,ad,mS]|((first|apply bJ|apply bM|apply bL)<;>intro h<;>try simp at h))<;>(try exact ck));all_goals first|(refine⟨by unfold lim;omega,?_⟩)|skip
        all_goals(with_reducible repeat' first|refine ak ?_|simp)
        all_goals first|(refine⟨by unfold lim;omega,?_⟩)|skip
        all_goals((with_reducible repeat' first|refine ak ?_|simp|((first|apply bJ|apply bM|apply bL)<;>intro h<;>try simp at h))<;>(try exact ck))
        all_goals exact bR.rng _ hi fL ⟨by simp[fresh,aO,aJ,cn,inObs,Pv.look,hl,rA,rz,p8,ry],ek (by simp[fresh,aO,aJ,cn,inObs,Pv.look,hl,rA,rz,p8,ry]),en (by simp[fresh,aO,aJ,dW,inObs,Pv.look,hl,rA,rz,p8,ry]),Ψ⟩
      ·rw[rf Ω]at dG;simp only[hg,if_false]at dG;rw[dG]at fL;have ij:k=a.length:=Ω
       have qN:a.take k++e::a.drop k=a++[e]:=by rw[ij];simp
       rw[qN]at fL;clear dG qN;simp[hJ,fR,jt,aq,aF,ad,mS];((with_reducible repeat' first|refine ak ?_|refine aA (bf _) ?_|refine aB (bf _) ?_|simp[hJ,ij,fR,jt,aq,aF,ad,mS]|((first|apply bJ|apply bM|apply bL)<;>intro h<;>try simp at h))<;>(try exact ck));all_goals first|(refine⟨by unfold lim;omega,?_⟩)|skip
       all_goals(with_reducible repeat' first|refine ak ?_|simp)
       all_goals first|(refine⟨by unfold lim;omega,?_⟩)|skip
       all_goals(with_reducible repeat' first|refine ak ?_|simp)
       all_goals exact bR.rng _ hi fL ⟨by simp[fresh,aO,aJ,cn,inObs,Pv.look,hl,rA,rz,p8,ry],ek (by simp[fresh,aO,aJ,cn,inObs,Pv.look,hl,rA,rz,p8,ry]),en (by simp[fresh,aO,aJ,dW,inObs,Pv.look,hl,rA,rz,p8,ry]),Ψ⟩
  ·obtain⟨d,aG,hdi⟩:=eI ec;have au:=ag.step aG;have jG:=ft d (eF aG);have ed:bK aw 157 [cF d,cF e] (.bool (kE d e)):=ap0 jG kR;clear ag aG fL sE;cases keep with
   |false=>simp only[Bool.false_and]at au;exact hN
   |true=>
    simp only[Bool.true_and,xD]at au;by_cases q:eE d e=0
    ·rw[hb ((lJ.zero _ _).1 q),Bool.true_or]at au;simp[ec,hdi];(with_reducible repeat' first|refine ak ?_|refine aA (bf _) ?_|refine aB (bf _) ?_|simp[ec,hdi,q]);all_goals exact bR.rng true ec au b7
    ·rw[h0 (fun h=>q ((lJ.zero _ _).2 h)),Bool.false_or]at au;have gl:(eE d e==0)=false:=by simp[q]
     cases aW:kE d e
     ·rw[aW]at au ed;simp[ec,hdi];(with_reducible repeat' first|refine ak ?_|refine aA (bf _) ?_|refine aB (bf _) ?_|refine aA ed ?_|refine aB ed ?_|simp[ec,hdi,q,gl]);all_goals exact bR.rng true ec au b7
     ·rw[aW]at au ed;simp[ec,hdi];(with_reducible repeat' first|refine ak ?_|refine aA (bf _) ?_|refine aB (bf _) ?_|refine aA ed ?_|refine aB ed ?_|simp[ec,hdi,q,gl]);all_goals exact bR.rng false ec au b7
def wT:C:=(aa [cW 1 0,bq 2 false] (.seq (aa [aK 11 0 1 1,ax 12 1 11,c0 13 67 [.t 12,(ef 0),(ef 100000)],cx 14 13,I 15 14,ar 15 false (aK 16 1 1 1),ar 15 false (ax 17 1 16),ar 15 false (cH 18 68 17),ar 15 false (cx 19 18),c3 20 15 19,I 21 20,ar 21 false (aK 22 2 1 1),ar 21 false (ax 23 1 22),ar 21 false (cH 24 69 23),ar 21 false (cx 25 24),c3 26 21 25,I 27 26,ar 27 false (aK 28 3 1 1),ar 27 false (ax 29 1 28),ar 27 false (cH 30 70 29),ar 27 false (cx 31 30),c3 32 27 31,I 33 32,ar 33 false (aK 34 4 1 1),ar 33 false (ax 35 1 34),ar 33 false (cH 36 71 35),ar 33 false (cx 37 36),c3 38 33 37,I 39 38,ar 39 false (aK 40 1 1 1),ar 39 false (ax 41 1 40),ar 39 false (aK 42 0 1 1),ar 39 false (ax 43 1 42),ar 39 false (cc 44 72 41 43),ar 39 false (cx 45 44),c3 46 39 45] (aZ 46 (aa [bq 2 false] .ret) .skip)) (.seq (aa [aK 47 2 1 1,ax 48 1 47,cD 49 48,cf 50 0] (ff 51 50 49 (.seq (.block 1 (aa [cC 52 1 48 50,ax 53 1 52,I 4 53] (aa [I 54 4,aK 55 0 1 1,ax 56 1 55,cc 57 72 54 56,cx 58 57] (aZ 58 (aa [bq 2 false] .ret) .skip)))) (.region [aT 59 .add 50 1,I 50 59])))) (.seq (aa [aK 60 3 1 1,ax 61 1 60,cD 62 61,cf 63 0] (.block 2 (.loop (aa [bt 64 .lss 63 62] (.seq (aZ 64 .skip (.exit 2)) (.seq (.block 3 (aa [cC 65 2 61 63,aX 66 2 65,cS (.alloc 6 none (.agg [.int .i64 0,.int .i64 0])),bD 2 6 66] (aa [aK 67 0 1 6,ax 68 1 67,aK 69 0 1 1,ax 70 1 69,bt 71 .geq 68 70] (aZ 71 (aa [bq 2 false] .ret) .skip)))) (.region [aT 72 .add 63 1,I 63 72]))))))) (.seq (aa [aK 73 4 1 1,ax 74 1 73,cD 75 74,cf 76 0] (.block 4 (.loop (aa [bt 77 .lss 76 75] (.seq (aZ 77 .skip (.exit 4)) (.seq (.block 5 (aa [cC 78 2 74 76,aX 79 2 78,cS (.alloc 8 none (.agg [.int .i64 0,.str []])),bD 2 8 79] (aa [aK 80 0 1 8,ax 81 1 80,aK 82 0 1 1,ax 83 1 82,bt 84 .geq 81 83] (aZ 84 (aa [bq 2 false] .ret) .skip)))) (.region [aT 85 .add 76 1,I 76 85]))))))) (aa [aX 87 5 1,cH 88 73 87,I 86 88,cp 89 0 86,cp 90 1 86,cR 9 hf,bD 5 9 89,I 10 90] (aa [I 91 10,I 92 91,ar 92 true (aX 93 5 9),ar 92 true (aX 94 5 1),ar 92 true (cc 95 74 93 94),dh 96 92 95,I 2 96] .ret)))))))
@[simp] def an5:List bV:=[.tmp 2]
def GD:C:=(aa [cW 1 0,cR 2 hf,bq 3 false] (aa [aK 20 1 1 1,ax 21 1 20,aK 22 3 1 1,ax 23 1 22,cc 24 121 21 23,I 19 24,cp 25 0 19,cp 26 1 19,I 4 25,I 5 26] (aa [aK 28 1 1 1,ax 29 1 28,aK 30 4 1 1,ax 31 1 30,cc 32 122 29 31,I 27 32,cp 33 0 27,cp 34 1 27,I 6 33,I 7 34] (.seq (aa [I 35 5,cx 36 35,I 37 36,bT 37 false 38 7,ar 37 false (cx 39 38),c3 40 37 39] (aZ 40 (aa [gY 41 hf [],bD 5 2 41,bq 3 false] .ret) .skip)) (aa [aK 42 0 1 1,ax 43 1 42,aK 44 1 1 1,ax 45 1 44,I 46 4,gY 47 hf [(0,1,(.t 43)),(1,1,(.t 45)),(3,1,(.t 46))],cR 8 hf,bD 5 8 47] (.seq (aa [I 48 6,cD 49 48,cf 50 0] (ff 51 50 49 (.seq (.block 1 (aa [cC 52 2 48 50,aX 53 2 52,cS (.alloc 10 none (.agg [.int .i64 0,.str []])),bD 2 10 53] (aa [I 55 4,aK 56 0 1 10,ax 57 1 56,cH 58 84 57,c0 59 103 [.t 55,.t 58,(ef 2)],I 54 59,cp 60 0 54,cp 61 1 54,I 11 60,I 12 61] (aa [I 62 12] (aZ 62 (.region [aK 63 4 1 8,ax 64 1 63,aX 65 2 10,dV 66 2 56 [.t 65],gN 67 2 56 64 66,aK 68 4 1 8,bD 1 68 67]) .skip))))) (.region [aT 69 .add 50 1,I 50 69])))) (aa [dV 70 1 23 [],I 13 70] (.seq (aa [aK 71 2 1 1,ax 72 1 71,cD 73 72,cf 74 0] (.block 2 (.loop (aa [bt 75 .lss 74 73] (.seq (aZ 75 .skip (.exit 2)) (.seq (.block 3 (aa [cC 76 1 72 74,ax 77 1 76,I 15 77] (aa [aK 79 1 1 1,ax 80 1 79,I 81 15,cc 82 123 80 81,I 78 82,cp 83 0 78,cp 84 1 78,I 16 83,I 17 84] (.seq (aa [I 85 17] (aZ 85 (aa [I 87 16,aK 88 3 1 8,ax 89 1 88,cc 90 121 87 89,I 86 90,cp 91 0 86,cp 92 1 86,I 5 92] (.region [I 94 16,aK 95 4 1 8,ax 96 1 95,cc 97 122 94 96,I 93 97,cp 98 0 93,cp 99 1 93,I 7 99])) .skip)) (.seq (aa [I 100 17,cx 101 100,I 102 101,bT 102 false 103 5,ar 102 false (cx 104 103),c3 105 102 104,I 106 105,bT 106 false 107 7,ar 106 false (cx 108 107),c3 109 106 108] (aZ 109 (aa [bq 5 true] (aa [bq 7 true] (.exit 3))) .skip)) (aa [aK 110 1 1 1,ax 111 1 110,I 112 16,cc 113 102 111 112,I 18 113] (.seq (aa [I 114 18,cD 115 114,aT 116 .eql 115 0] (aZ 116 (aa [gY 117 hf [],bD 5 2 117,bq 3 false] .ret) .skip)) (.region [I 118 13,I 119 18,dV 120 1 23 [.t 119],gN 121 1 23 118 120,I 13 121])))))))) (.region [aT 122 .add 74 1,I 74 122]))))))) (aa [I 123 13,cH 124 124 123,aK 125 2 1 8,bD 1 125 124] (.seq (.fz true 8 (.drawn true 131 [bS 126 (.loadZ true 5 (.t 8)),aK 127 2 1 8,bS 128 (.loadZ false 1 (.t 127)),cD 129 128,aT 130 .leq 129 30,bD 5 2 126,I 3 130])) .ret))))))))))
@[simp] def wu:List bV:=[.cell 2 true 5,.tmp 3]
def yC:C:=(aa [cW 2 0,cW 3 1,bq 4 false] (.seq (aa [aK 11 0 1 2,ax 12 1 11,aK 13 0 1 3,ax 14 1 13,bt 15 .neq 12 14,I 16 15,ar 16 false (aK 17 1 1 2),ar 16 false (ax 18 1 17),ar 16 false (aK 19 1 1 3),ar 16 false (ax 20 1 19),ar 16 false (cc 21 125 18 20),ar 16 false (aT 22 .neq 21 0),c3 23 16 22,I 24 23,ar 24 false (aK 25 2 1 2),ar 24 false (ax 26 1 25),ar 24 false (cD 27 26),ar 24 false (aK 28 2 1 3),ar 24 false (ax 29 1 28),ar 24 false (cD 30 29),ar 24 false (bt 31 .neq 27 30),c3 32 24 31,I 33 32,ar 33 false (aK 34 3 1 2),ar 33 false (ax 35 1 34),ar 33 false (cD 36 35),ar 33 false (aK 37 3 1 3),ar 33 false (ax 38 1 37),ar 33 false (cD 39 38),ar 33 false (bt 40 .neq 36 39),c3 41 33 40,I 42 41,ar 42 false (aK 43 4 1 2),ar 42 false (ax 44 1 43),ar 42 false (cD 45 44),ar 42 false (aK 46 4 1 3),ar 42 false (ax 47 1 46),ar 42 false (cD 48 47),ar 42 false (bt 49 .neq 45 48),c3 50 42 49] (aZ 50 (aa [bq 4 false] .ret) .skip)) (.seq (aa [aK 51 2 1 2,ax 52 1 51,cD 53 52,cf 54 0] (ff 55 54 53 (.seq (.block 1 (aa [I 56 54,cC 57 1 52 54,ax 58 1 57,I 5 56,I 6 58] (aa [I 59 6,aK 60 2 1 3,ax 61 1 60,I 62 5,cC 63 1 61 62,ax 64 1 63,cc 65 125 59 64,aT 66 .neq 65 0] (aZ 66 (aa [bq 4 false] .ret) .skip)))) (.region [aT 67 .add 54 1,I 54 67])))) (.seq (aa [aK 68 3 1 2,ax 69 1 68,cD 70 69,cf 71 0] (.block 2 (.loop (aa [bt 72 .lss 71 70] (.seq (aZ 72 .skip (.exit 2)) (.seq (.block 3 (aa [I 73 71,cC 74 2 69 71,aX 75 2 74,cS (.alloc 8 none (.agg [.int .i64 0,.int .i64 0])),I 7 73,bD 2 8 75] (.seq (.drawn true 100 [aX 76 2 8,aK 77 3 1 3,ax 78 1 77,I 79 7,cC 80 2 78 79,aX 81 2 80,bS 82 (.beq true (some [false,false]) (.t 76) (.t 81))]) (aZ 82 (aa [bq 4 false] .ret) .skip)))) (.region [aT 83 .add 71 1,I 71 83]))))))) (.seq (aa [aK 84 4 1 2,ax 85 1 84,cD 86 85,cf 87 0] (.block 4 (.loop (aa [bt 88 .lss 87 86] (.seq (aZ 88 .skip (.exit 4)) (.seq (.block 5 (aa [I 89 87,cC 90 2 85 87,aX 91 2 90,cS (.alloc 10 none (.agg [.int .i64 0,.str []])),I 9 89,bD 2 10 91] (.seq (.drawn true 100 [aX 92 2 10,aK 93 4 1 3,ax 94 1 93,I 95 9,cC 96 2 94 95,aX 97 2 96,bS 98 (.beq true (some [false,true]) (.t 92) (.t 97))]) (aZ 98 (aa [bq 4 false] .ret) .skip)))) (.region [aT 99 .add 87 1,I 87 99]))))))) (aa [bq 4 true] .ret))))))
@[simp] def I9:List bV:=[.tmp 4]
def JN:List (Nat×dy):=[
 (3,⟨1,8,.int .i64,.int .i64 0⟩),
 (9,⟨1,16,.str,.str []⟩),
 (23,⟨1,24,.slice 54,.slice 5 .nil []⟩),
 (24,⟨1,24,.slice 23,.slice 1 .nil []⟩),
 (25,⟨1,24,.slice 59,.slice 2 .nil []⟩),
 (26,⟨1,24,.slice 56,.slice 2 .nil []⟩),
 (28,⟨5,104,.struct [(0,3),(1,23),(2,24),(3,25),(4,26)],.agg [.int .i64 0,.slice 5 .nil [],.slice 1 .nil [],.slice 2 .nil [],.slice 2 .nil []]⟩),
 (56,⟨2,24,.struct [(0,3),(1,9)],.agg [.int .i64 0,.str []]⟩),
 (59,⟨2,16,.struct [(0,3),(1,3)],.agg [.int .i64 0,.int .i64 0]⟩)]
theorem o8:fJ aw JN=true:=by kernel_rfl
theorem zB:b6 JN wT an5 1 Tryz.f31=true:=by kernel_rfl
theorem yI:aw.funcs[(31:Nat)]? =some Tryz.f31:=Tryz.func31
theorem Ox:b6 JN GD wu 1 Tryz.f73=true:=by kernel_rfl
theorem LO:aw.funcs[(73:Nat)]? =some Tryz.f73:=Tryz.func73
theorem B3:b6 JN yC I9 2 Tryz.f74=true:=by kernel_rfl
theorem AR:aw.funcs[(74:Nat)]? =some Tryz.f74:=Tryz.func74
noncomputable def qv(s:br):aj:= .tuple [(tt s).e,.bool (fy s).isSome]
theorem aql{k:List b8}(ae:hj k)(v:Int):bK aw 103 [.slice 2 .no (k.map b8.e),(T.var v).e,.int .i64 2] (oA k (ib k (.var v) 2)):=Ql k (by have:=q0 ae;omega) ae.asc (.var v) 2
theorem Qi{b y:List ai}(ad:ev b)(aC:ev y):bK aw 102 [.slice 5 .no (b.map ai.e),.slice 5 .no (y.map ai.e)] (cF (dN b y)):=aqg ad aC
theorem abe{b x:List ai}(ad:ev b)(ab:ev x):bK aw 123 [.slice 5 .no (b.map ai.e),cF x] (fk (mgu b (gf x))):=aqf b x ad.sol ad.fits ab.len
def NQ(a:List bj):aj:=match a with
 |[]=>.slice 2 .nil []
 |_::_=>.slice 2 (.own (.loc 5)) (a.map bj.e)
def NP(a:List bj):List (aL×fP):=match a with
 |[]=>[]
 |_::_=>[(.loc 5,⟨a.length,56,2,none⟩)]
def NO(a:List bj):Nat:=match a with
 |[]=>3
 |_::_=>6
@[simp]theorem at1:NQ []= .slice 2 .nil []:=rfl
@[simp]theorem at0(x:bj)(a:List bj):NQ (x::a)= .slice 2 (.own (.loc 5)) (x.e::a.map bj.e):=rfl
@[simp]theorem atZ:NP []=[]:=rfl
@[simp]theorem atY(x:bj)(a:List bj):NP (x::a)=[(.loc 5,⟨a.length+1,56,2,none⟩)]:=rfl
@[simp]theorem atX:NO []=3:=rfl
@[simp]theorem atW(x:bj)(a:List bj):NO (x::a)=6:=rfl
theorem CI{s:br}(h:gX s){G:List (List UInt8)}(iH:G.length<=687000)(aW:kG G s.m):bK aw 73 [s.e] (qv s):=by
 unfold qv;generalize dn:fy s=O;generalize dp:tt s=SS;have lh:=Qm h.b h.k;have lj:=Qn h.b h.m iH aW;have kU:=fun k=>Jc (acc:=[]) (a:=k) h.b h.k.at' ⟨Ψ,Ψ⟩;have q7:=fun m=>Fb (acc:=[]) (a:=m) h.b h.m.at' ⟨Ψ,by simp[hS]⟩;have n4:=fun m=>Jg (acc:=[]) (a:=m) (s:=s.b) aW (fun x ab=>by simp at ab);have ad:=h.b;have aG:=h.d;clear h aW;unfold fy at dn;unfold tt at dp;obtain⟨n,b,d,hp,m0⟩:=s;simp only at lh lj kU q7 n4 ad aG dn dp;have fB:=ad.len;simp only[br.e];generalize fM b hp []=ok at lh dn dp kU;generalize fI b m0 []=om at lj dn dp q7 n4;cases ok with
 |none=>
  simp only at dn dp;subst dn;subst dp;simp only[gm]at lh;simp only[jf]at lj;clear kU q7 n4;refine bo o8 LO Ox fun aQ=>?_;unfold GD;simp;(with_reducible repeat' first|refine ak ?_|refine aA lh ?_|refine aB lh ?_|refine aA lj ?_|refine aB lj ?_|simp);all_goals simp[bp,wu,aV,aY,aU]
  all_goals simp[dY,br.e]
 |some k=>
  simp only at dn dp;cases om with
  |none=>
   simp only at dn dp;subst dn;subst dp;simp only[gm]at lh;simp only[jf]at lj;clear kU q7 n4;refine bo o8 LO Ox fun aQ=>?_;unfold GD;simp;(with_reducible repeat' first|refine ak ?_|refine aA lh ?_|refine aB lh ?_|refine aA lj ?_|refine aB lj ?_|simp);all_goals simp[bp,wu,aV,aY,aU]
   all_goals simp[dY,br.e]
  |some m=>
   simp only at dn dp;have xh:=kU k rfl;have y3:=q7 m rfl;have yW:=n4 m rfl;have mm:m.length<=68719470000:=by have:=ED y3 yW;omega
   have Be:=Xt (k:=k) y3;have A9:=P0 (k:=k) yW;simp only[gm,iB,oJ]at lh;simp only[jf,iB,oJ]at lj;clear kU q7 n4;refine bo o8 LO Ox fun aQ=>?_;unfold GD;have xc:d.length<=68719476736:=by simp[gQ,gi,gH,lim]at aQ;omega
   clear aQ;simp;(with_reducible repeat' first|refine ak ?_|refine aA lh ?_|refine aB lh ?_|refine aA lj ?_|refine aB lj ?_|simp);refine hI (fun i (a:List bj)=>⟨[(1,.ptr (.loc 0) 0),(2,.ptr (.loc 1) 0),(4,.slice 2 .no (k.map b8.e)),(8,.ptr (.loc 2) 0),(48,.slice 2 .no (m.map bj.e)),(49,.int .i64 m.length),(50,.int .i64 i)],[(.loc 0,[.int .i64 n,.slice 5 .no (b.map ai.e),.slice 1 .no (d.map cF),.slice 2 .no (hp.map b8.e),.slice 2 .no (m0.map bj.e)]),(.loc 1,[.int .i64 0,.slice 5 .nil [],.slice 1 .nil [],.slice 2 .nil [],.slice 2 .nil []]),(.loc 2,[.int .i64 n,.slice 5 .no (b.map ai.e),.slice 1 .nil [],.slice 2 .no (k.map b8.e),NQ a])],NP a,NO a,[]⟩) m.length (uw k m) [] b7 (by simp[uw]) (fun a ag _=>?_) (fun i a hi ag _=>?_);rotate_left
   ·obtain⟨x,ab,cY⟩:=eI hi;have mM:a.length<=68719470000:=by
     have:a.length<=(m.take i).length:=by rw[ag];exact List.length_filter_le _ _
     simp at this;omega
    have au:=ag.step ab;have j1:=aql xh x.v;have bE:(ib k (.var x.v) 2).isSome=iO k x:=ace xh x.v;simp only[oA,bE]at j1;clear bE;generalize (ib k (.var x.v) 2).getD k=kz at j1;cases aN:iO k x
    ·rw[aN]at au j1;simp only[hg,if_false]at au;clear ag ab aN;cases a with
     |nil=>simp[hi,cY];(with_reducible repeat' first|refine ak ?_|refine aA (kM _) ?_|refine aB (kM _) ?_|refine aA j1 ?_|refine aB j1 ?_|simp[hi,cY]);all_goals exact bR.rng [] hi au b7
     |cons y ys=>simp[hi,cY];(with_reducible repeat' first|refine ak ?_|refine aA (kM _) ?_|refine aB (kM _) ?_|refine aA j1 ?_|refine aB j1 ?_|simp[hi,cY]);all_goals exact bR.rng (y::ys) hi au b7
    ·rw[aN]at au j1;simp only[if_true]at au;clear ag ab aN;cases a with
     |nil=>
      simp[hi,cY];(with_reducible repeat' first|refine ak ?_|refine aA (kM _) ?_|refine aB (kM _) ?_|refine aA j1 ?_|refine aB j1 ?_|simp[hi,cY]);all_goals first|(refine⟨by unfold lim;omega,?_⟩)|skip
      all_goals(with_reducible repeat' first|refine ak ?_|simp)
      all_goals exact bR.rng [x] hi au b7
     |cons y ys=>
      simp only[mG]at mM;simp[hi,cY];(with_reducible repeat' first|refine ak ?_|refine aA (kM _) ?_|refine aB (kM _) ?_|refine aA j1 ?_|refine aB j1 ?_|simp[hi,cY]);all_goals first|(refine⟨by unfold lim;omega,?_⟩)|skip
      all_goals(with_reducible repeat' first|refine ak ?_|simp)
      all_goals exact bR.rng (y::ys++[x]) hi au ⟨by simp[fresh,aO,aJ,cn,inObs,Pv.look,BF],ek (by simp[fresh,aO,aJ,cn,inObs,Pv.look,BF]),en (by simp[fresh,aO,aJ,dW,inObs,Pv.look,BF]),Ψ⟩
   rw[uw,lQ]at ag;rw[<-ag]at Be A9 dn dp;clear ag y3 yW;cases a with
   |nil=>
    simp;(with_reducible repeat' first|refine ak ?_|simp);refine hI (fun i (L:List (List ai))=>⟨[(1,.ptr (.loc 0) 0),(2,.ptr (.loc 1) 0),(8,.ptr (.loc 2) 0),(13,.slice 1 (.own (.loc 3)) (L.map cF)),(72,.slice 1 .no (d.map cF)),(73,.int .i64 d.length),(74,.int .i64 i)],[(.loc 0,[.int .i64 n,.slice 5 .no (b.map ai.e),.slice 1 .no (d.map cF),.slice 2 .no (hp.map b8.e),.slice 2 .no (m0.map bj.e)]),(.loc 1,[.int .i64 0,.slice 5 .nil [],.slice 1 .nil [],.slice 2 .nil [],.slice 2 .nil []]),(.loc 2,[.int .i64 n,.slice 5 .no (b.map ai.e),.slice 1 .nil [],.slice 2 .no (k.map b8.e),.slice 2 .nil []])],[(.loc 3,⟨L.length,23,1,none⟩)],3+1,[]⟩) d.length (qY b k [] d) [] b7 ⟨Ψ,Ψ,Ψ⟩ (fun L ag _=>?_) (fun i L hi ag _=>?_)
    ·have ft:=ag.fin;have sD:=ag.2.1;rw[ft]at dn dp;simp only at dn dp;have lg:=abf L sD;clear ag ft sD;generalize jL L=M at lg dn dp;subst dp;by_cases lX:M.length<=30
     ·have pz:(M.length:Int)<=30:=Ω
      rw[if_pos lX]at dn;subst dn;simp;(with_reducible repeat' first|refine ak ?_|refine aA lg ?_|refine aB lg ?_|simp[lX,pz]);all_goals simp[bp,wu,aV,aY,aU]
      all_goals try simp[br.e,lX,pz]
      all_goals first|exact⟨_,rfl,rfl⟩|skip
     ·have pz:¬(M.length:Int)<=30:=Ω
      rw[if_neg lX]at dn;subst dn;simp;(with_reducible repeat' first|refine ak ?_|refine aA lg ?_|refine aB lg ?_|simp[lX,pz]);all_goals simp[bp,wu,aV,aY,aU]
      all_goals try simp[br.e,lX,pz]
      all_goals first|exact⟨_,rfl,rfl⟩|skip
    ·obtain⟨x,ab,cY⟩:=eI hi;have gA:=aG x (eF ab);have Vk:=ag.1;have hz:=abe ad gA;simp only[fk]at hz;cases hu:mgu b (gf x)with
     |none=>have au:=ag.skip ab fun r=>NC hu;rw[hu]at hz;simp only[lv,k1]at hz;clear ag ab dn dp;exact hN
     |some y=>
      have jH:=ad.mgu (Df gA) hu;rw[hu]at hz;simp only[iB,oJ]at hz;have dg:=Qm jH xh;have ed:=Qn jH Be iH A9;have il:=Qi ad jH;simp only[gm]at dg;simp only[jf,nn,gZ]at ed;by_cases ja:fM y k []=none\/fI y [] []=none
      ·have au:=ag.skip ab fun r=>NB hu ja;clear ag ab dn dp hu il;rcases ja with e|e
       ·rw[e]at dg;simp only[lv,k1]at dg;exact hN
       ·rw[e]at ed;simp only[lv,k1]at ed;generalize (fM y k []).isSome=a1 at dg;cases a1
        ·exact hN
        ·exact hN
      ·have aq:(fM y k []).isSome=true:=by cases e:fM y k []with|none=>exact absurd (.inl e) ja|some _=>rfl
       have aF:(fI y [] []).isSome=true:=by cases e:fI y [] []with|none=>exact absurd (.inr e) ja|some _=>rfl
       rw[aq]at dg;rw[aF]at ed;by_cases cA:dN b y=[]
       ·have af:=ag.stop ab fun r=>NA hu ja cA;rw[af]at dn dp;simp only at dn dp;subst dn;subst dp;rw[cA]at il;simp only[cF,nn]at il;clear ag ab hu ja;simp[hi,cY];(with_reducible repeat' first|refine ak ?_|refine aA hz ?_|refine aB hz ?_|refine aA dg ?_|refine aB dg ?_|refine aA ed ?_|refine aB ed ?_|refine aA il ?_|refine aB il ?_|simp[hi,cY]);all_goals simp[bp,wu,aV,aY,aU]
        all_goals try simp[dY,br.e]
       ·have au:=ag.snoc ab (EJ (b:=b) jH) fun r=>ND hu ja cA;have xk:¬((dN b y).length:Int)=0:=by have:(dN b y).length≠0:=fun h=>cA (List.length_eq_zero_iff.1 h);omega
        have xl:(((dN b y).length:Int)==0)=false:=by simp[cA]
        clear ag ab hu ja dn dp;generalize dN b y=z at il au xk xl cA;simp only[cF]at il;simp[hi,cY];(with_reducible repeat' first|refine ak ?_|refine aA hz ?_|refine aB hz ?_|refine aA dg ?_|refine aB dg ?_|refine aA ed ?_|refine aB ed ?_|refine aA il ?_|refine aB il ?_|simp[hi,cY,xk,xl,cA]);all_goals first|(refine⟨by unfold lim;omega,?_⟩)|skip
        all_goals(with_reducible repeat' first|refine ak ?_|simp)
        all_goals exact bR.rng (L++[z]) hi au ⟨by simp[fresh,aO,aJ,cn,inObs,Pv.look,uE,cF],ek (by simp[fresh,aO,aJ,cn,inObs,Pv.look,uE,cF]),en (by simp[fresh,aO,aJ,dW,inObs,Pv.look,uE,cF]),Ψ⟩
   |cons FR FT=>
    simp;(with_reducible repeat' first|refine ak ?_|simp);refine hI (fun i (L:List (List ai))=>⟨[(1,.ptr (.loc 0) 0),(2,.ptr (.loc 1) 0),(8,.ptr (.loc 2) 0),(13,.slice 1 (.own (.loc 6)) (L.map cF)),(72,.slice 1 .no (d.map cF)),(73,.int .i64 d.length),(74,.int .i64 i)],[(.loc 0,[.int .i64 n,.slice 5 .no (b.map ai.e),.slice 1 .no (d.map cF),.slice 2 .no (hp.map b8.e),.slice 2 .no (m0.map bj.e)]),(.loc 1,[.int .i64 0,.slice 5 .nil [],.slice 1 .nil [],.slice 2 .nil [],.slice 2 .nil []]),(.loc 2,[.int .i64 n,.slice 5 .no (b.map ai.e),.slice 1 .nil [],.slice 2 .no (k.map b8.e),.slice 2 (.own (.loc 5)) (FR.e::FT.map bj.e)])],[(.loc 6,⟨L.length,23,1,none⟩)],6+1,[]⟩) d.length (qY b k (FR::FT) d) [] b7 ⟨Ψ,Ψ,Ψ⟩ (fun L ag _=>?_) (fun i L hi ag _=>?_)
    ·have ft:=ag.fin;have sD:=ag.2.1;rw[ft]at dn dp;simp only at dn dp;have lg:=abf L sD;clear ag ft sD;generalize jL L=M at lg dn dp;subst dp;by_cases lX:M.length<=30
     ·have pz:(M.length:Int)<=30:=Ω
      rw[if_pos lX]at dn;subst dn;simp;(with_reducible repeat' first|refine ak ?_|refine aA lg ?_|refine aB lg ?_|simp[lX,pz]);all_goals simp[bp,wu,aV,aY,aU]
      all_goals try simp[br.e,lX,pz]
      all_goals first|exact⟨_,rfl,rfl⟩|skip
     ·have pz:¬(M.length:Int)<=30:=Ω
      rw[if_neg lX]at dn;subst dn;simp;(with_reducible repeat' first|refine ak ?_|refine aA lg ?_|refine aB lg ?_|simp[lX,pz]);all_goals simp[bp,wu,aV,aY,aU]
      all_goals try simp[br.e,lX,pz]
      all_goals first|exact⟨_,rfl,rfl⟩|skip
    ·obtain⟨x,ab,cY⟩:=eI hi;have gA:=aG x (eF ab);have Vk:=ag.1;have hz:=abe ad gA;simp only[fk]at hz;cases hu:mgu b (gf x)with
     |none=>have au:=ag.skip ab fun r=>NC hu;rw[hu]at hz;simp only[lv,k1]at hz;clear ag ab dn dp;exact hN
     |some y=>
      have jH:=ad.mgu (Df gA) hu;rw[hu]at hz;simp only[iB,oJ]at hz;have dg:=Qm jH xh;have ed:=Qn jH Be iH A9;have il:=Qi ad jH;simp only[gm]at dg;simp only[jf,nn,gZ]at ed;by_cases ja:fM y k []=none\/fI y (FR::FT) []=none
      ·have au:=ag.skip ab fun r=>NB hu ja;clear ag ab dn dp hu il;rcases ja with e|e
       ·rw[e]at dg;simp only[lv,k1]at dg;exact hN
       ·rw[e]at ed;simp only[lv,k1]at ed;generalize (fM y k []).isSome=a1 at dg;cases a1
        ·exact hN
        ·exact hN
      ·have aq:(fM y k []).isSome=true:=by cases e:fM y k []with|none=>exact absurd (.inl e) ja|some _=>rfl
       have aF:(fI y (FR::FT) []).isSome=true:=by cases e:fI y (FR::FT) []with|none=>exact absurd (.inr e) ja|some _=>rfl
       rw[aq]at dg;rw[aF]at ed;by_cases cA:dN b y=[]
       ·have af:=ag.stop ab fun r=>NA hu ja cA;rw[af]at dn dp;simp only at dn dp;subst dn;subst dp;rw[cA]at il;simp only[cF,nn]at il;clear ag ab hu ja;simp[hi,cY];(with_reducible repeat' first|refine ak ?_|refine aA hz ?_|refine aB hz ?_|refine aA dg ?_|refine aB dg ?_|refine aA ed ?_|refine aB ed ?_|refine aA il ?_|refine aB il ?_|simp[hi,cY]);all_goals simp[bp,wu,aV,aY,aU]
        all_goals try simp[dY,br.e]
       ·have au:=ag.snoc ab (EJ (b:=b) jH) fun r=>ND hu ja cA;have xk:¬((dN b y).length:Int)=0:=by have:(dN b y).length≠0:=fun h=>cA (List.length_eq_zero_iff.1 h);omega
        have xl:(((dN b y).length:Int)==0)=false:=by simp[cA]
        clear ag ab hu ja dn dp;generalize dN b y=z at il au xk xl cA;simp only[cF]at il;simp[hi,cY];(with_reducible repeat' first|refine ak ?_|refine aA hz ?_|refine aB hz ?_|refine aA dg ?_|refine aB dg ?_|refine aA ed ?_|refine aB ed ?_|refine aA il ?_|refine aB il ?_|simp[hi,cY,xk,xl,cA]);all_goals first|(refine⟨by unfold lim;omega,?_⟩)|skip
        all_goals(with_reducible repeat' first|refine ak ?_|simp)
        all_goals exact bR.rng (L++[z]) hi au ⟨by simp[fresh,aO,aJ,cn,inObs,Pv.look,uE,cF],ek (by simp[fresh,aO,aJ,cn,inObs,Pv.look,uE,cF]),en (by simp[fresh,aO,aJ,dW,inObs,Pv.look,uE,cF]),Ψ⟩
theorem aqj(x y:List ai):bK aw 125 [cF x,cF y] (.int .i64 (eE x y)):=Qk x y
theorem aqv{x y:List ai}(h:¬x=y):(eE x y !=0)=true:=by have:¬eE x y=0:=fun e=>h ((lJ.zero _ _).1 e);simp[this]
theorem aqt(a c:br):bK aw 74 [a.e,c.e] (.bool (decide (a=c))):=by
 obtain⟨n,b,d,k,m⟩:=a;obtain⟨n',b3,cm,bI,hM⟩:=c;generalize bH:decide ((⟨n,b,d,k,m⟩:br)=⟨n',b3,cm,bI,hM⟩)=R;simp only[br.mk.injEq,br.e]at bH⊢;by_cases a1:n=n';rotate_left
 ·have gk:R=false:=by rw[<-bH];simp[a1]
  have uS:(n !=n')=true:=by simp[a1]
  rw[gk];clear bH gk;refine bo o8 AR B3 fun aQ=>?_;unfold yC;exact cz
 subst a1;have fS:=Qk b b3;by_cases bm:b=b3;rotate_left
 ·have gk:R=false:=by rw[<-bH];simp[bm]
  have nQ:¬eE b b3=0:=fun h=>bm ((lJ.zero _ _).1 h);have YK:(eE b b3 !=0)=true:=by simp[nQ]
  rw[gk];clear bH gk;refine bo o8 AR B3 fun aQ=>?_;unfold yC;exact cz
 subst bm;rw[(lJ.zero b b).2 rfl]at fS;by_cases bW:d.length=cm.length;rotate_left
 ·have gk:R=false:=by rw[<-bH];simp only[gD];rintro⟨_,_,rfl,_⟩;exact bW rfl
  have tk:((d.length:Int) !=cm.length)=true:=by simp;omega
  rw[gk];clear bH gk;refine bo o8 AR B3 fun aQ=>?_;unfold yC;exact cz
 by_cases cZ:k.length=bI.length;rotate_left
 ·have gk:R=false:=by rw[<-bH];simp only[gD];rintro⟨_,_,_,rfl,_⟩;exact cZ rfl
  have anr:((k.length:Int) !=bI.length)=true:=by simp;omega
  rw[gk];clear bH gk;refine bo o8 AR B3 fun aQ=>?_;unfold yC;exact cz
 by_cases c6:m.length=hM.length;rotate_left
 ·have gk:R=false:=by rw[<-bH];simp only[gD];rintro⟨_,_,_,_,rfl⟩;exact c6 rfl
  have ans:((m.length:Int) !=hM.length)=true:=by simp;omega
  rw[gk];clear bH gk;refine bo o8 AR B3 fun aQ=>?_;unfold yC;exact cz
 have y7:d≠cm->R=false:=fun h=>by rw[<-bH];simp[h]
 have y8:k≠bI->R=false:=fun h=>by rw[<-bH];simp[h]
 have MI:m≠hM->R=false:=fun h=>by rw[<-bH];simp[h]
 refine bo o8 AR B3 fun aQ=>?_;unfold yC;have aio:cm.length<=68719476736:=by simp[gQ,gi,gH,lim]at aQ;omega
 have aip:bI.length<=68719476736:=by simp[gQ,gi,gH,lim]at aQ;omega
 have aiq:hM.length<=68719476736:=by simp[gQ,gi,gH,lim]at aQ;omega
 clear aQ;simp;(with_reducible repeat' first|refine ak ?_|refine aA fS ?_|refine aB fS ?_|simp[bW,cZ,c6]);have cU:=y7;refine eJ [2,3,52,53] (fun i (_:Unit)=>[(54,.int .i64 i)]) cm.length (sp d cm) () b7 (fun k ae=>Ω) (fun _ ag _=>?_) (fun i _ hi ag _=>?_);rotate_left
 ·obtain⟨x,ab⟩:∃x,d[i]? =some x:=⟨_,cg Ω⟩;obtain⟨y,aC⟩:∃y,cm[i]? =some y:=⟨_,cg hi⟩;have gz:i<d.length:=Ω
  have cY:∀h,(d[i]'h)=x:=fun h=>by rw[cg gz]at ab;exact eZ ab
  have eP:∀h,(cm[i]'h)=y:=fun h=>by rw[cg hi]at aC;exact eZ aC
  have fS:=aqj x y;by_cases q:x=y
  ·subst q;have au:=ag.step ab aC;rw[(lJ.zero _ _).2 rfl]at fS;clear ag ab aC;simp[hi,gz,cY,eP,-iW];(with_reducible repeat' first|refine ak ?_|refine aA fS ?_|refine aB fS ?_|simp[cY,eP,hi,gz,-iW]);all_goals exact bR.rng () hi au b7
  ·rw[cU (fun h=>q (by rw[h]at ab;rw[ab]at aC;exact eZ aC))];have nQ:=aqv q;clear ag ab aC;simp[hi,gz,cY,eP,-iW];(with_reducible repeat' first|refine ak ?_|refine aA fS ?_|refine aB fS ?_|simp[cY,eP,hi,gz,q,nQ,-iW]);all_goals simp[bp,I9,aV,aY,aU]
 have c1:=ag.fin bW;subst c1;clear ag cU y7 bW;simp;(with_reducible repeat' first|refine ak ?_|simp[cZ]);have cU:=y8;refine eJ [2,3,69,70] (fun i (_:Unit)=>[(71,.int .i64 i)]) bI.length (sp k bI) () b7 (fun k ae=>Ω) (fun _ ag _=>?_) (fun i _ hi ag _=>?_);rotate_left
 ·obtain⟨x,ab⟩:∃x,k[i]? =some x:=⟨_,cg Ω⟩;obtain⟨y,aC⟩:∃y,bI[i]? =some y:=⟨_,cg hi⟩;have gz:i<k.length:=Ω
  have cY:∀h,(k[i]'h)=x:=fun h=>by rw[cg gz]at ab;exact eZ ab
  have eP:∀h,(bI[i]'h)=y:=fun h=>by rw[cg hi]at aC;exact eZ aC
  have fS:=True.intro;by_cases q:x=y
  ·subst q;have au:=ag.step ab aC;skip;clear ag ab aC;simp[hi,gz,cY,eP,-iW];(with_reducible repeat' first|refine ak ?_|refine aA fS ?_|refine aB fS ?_|simp[cY,eP,hi,gz,-iW]);all_goals exact bR.rng () hi au b7
  ·rw[cU (fun h=>q (by rw[h]at ab;rw[ab]at aC;exact eZ aC))];skip;clear ag ab aC;simp[hi,gz,cY,eP,-iW];(with_reducible repeat' first|refine ak ?_|refine aA fS ?_|refine aB fS ?_|simp[cY,eP,hi,gz,q,q,-iW]);all_goals simp[bp,I9,aV,aY,aU]
 have c1:=ag.fin cZ;subst c1;clear ag cU y8 cZ;simp;(with_reducible repeat' first|refine ak ?_|simp[c6]);have cU:=MI;refine eJ [3,85,86] (fun i (_:Unit)=>[(87,.int .i64 i)]) hM.length (sp m hM) () b7 (fun k ae=>Ω) (fun _ ag _=>?_) (fun i _ hi ag _=>?_);rotate_left
 ·obtain⟨x,ab⟩:∃x,m[i]? =some x:=⟨_,cg Ω⟩;obtain⟨y,aC⟩:∃y,hM[i]? =some y:=⟨_,cg hi⟩;have gz:i<m.length:=Ω
  have cY:∀h,(m[i]'h)=x:=fun h=>by rw[cg gz]at ab;exact eZ ab
  have eP:∀h,(hM[i]'h)=y:=fun h=>by rw[cg hi]at aC;exact eZ aC
  have fS:=True.intro;by_cases q:x=y
  ·subst q;have au:=ag.step ab aC;skip;clear ag ab aC;simp[hi,gz,cY,eP,-iW];(with_reducible repeat' first|refine ak ?_|refine aA fS ?_|refine aB fS ?_|simp[cY,eP,hi,gz,-iW]);all_goals exact bR.rng () hi au b7
  ·rw[cU (fun h=>q (by rw[h]at ab;rw[ab]at aC;exact eZ aC))];skip;clear ag ab aC;simp[hi,gz,cY,eP,-iW];(with_reducible repeat' first|refine ak ?_|refine aA fS ?_|refine aB fS ?_|simp[cY,eP,hi,gz,q,q,-iW]);all_goals simp[bp,I9,aV,aY,aU]
 have c1:=ag.fin c6;subst c1;have gk:R=true:=by rw[<-bH];simp
 rw[gk];exact cz
@[simp]theorem api:∀l:List (List dO),dq (l.map mh)=l.map mh
 |[]=>rfl
 |x::xs=>by simp[dq,api xs]
theorem aap:∀{d:List (List dO)},d.all gL=true->∃D:List (List ai),d=(D.map fun x=>x.map ai.b)/\∀x∈D,ev x
 |[],_=>⟨[],rfl,Ψ⟩
 |x::d,h=>by
  rw[List.all_cons,cr]at h;obtain⟨D,J,U⟩:=aap h.2;obtain⟨s,aq,aF⟩:=x2.1 (r5.1 h.1);refine⟨s::D,by rw[J,aq];rfl,fun y aC=>?_⟩;rcases fm.1 aC with rfl|aC
  ·exact aF
  ·exact U y aC
open Classical in
theorem aqI(r:jU)(fu:iN r.m->kZ r.m):bK aw 31 [r.e] (.bool (decide (ng r))):=by
 generalize bH:decide (ng r)=R;have cU:¬Pa r->R=false:=fun h=>by rw[<-bH,gD];exact fun b9=>h b9.raw
 obtain⟨n,b,d,k,m⟩:=r;simp only[jU.e]at fu⊢;have kI:=dx n 0 100000;by_cases g1:0<=n/\n<=100000;rotate_left
 ·rw[cU fun h=>g1 h.n];rw[h0 g1]at kI;refine bo o8 yI zB fun aQ=>?_;unfold wT;exact cz
 rw[hb g1]at kI;have kB:bK aw 68 [.slice 5 .no (b.map dO.e)] (.bool (gL b)):=Qp b;cases g3:gL b
 ·rw[cU fun h=>by obtain⟨s,aq,aF,_⟩:=h.b;have:=r5.2 (x2.2 ⟨s,aq,aF⟩);simp only at this;rw[g3]at this;cases this]
  rw[g3]at kB;refine bo o8 yI zB fun aQ=>?_;unfold wT;exact cz
 rw[g3]at kB;obtain⟨s,rfl,af⟩:=x2.1 (r5.1 g3);clear g3;rw[uK]at kB⊢;have kA:=aqi d;cases w4:d.all gL
 ·rw[cU fun h=>by
   have:d.all gL=true:=by rw[fV];intro x ab;obtain⟨s,aq,aF,_⟩:=h.d x ab;exact r5.2 (x2.2 ⟨s,aq,aF⟩)
   rw[w4]at this;cases this]
  rw[w4]at kA;refine bo o8 yI zB fun aQ=>?_;unfold wT;exact cz
 rw[w4]at kA;obtain⟨D,rfl,sC⟩:=aap w4;clear w4;rw[Lo]at kA⊢;have dg:=aqG k;by_cases g4:hj k;rotate_left
 ·rw[cU fun h=>g4 h.k];rw[h0 g4]at dg;refine bo o8 yI zB fun aQ=>?_;unfold wT;exact cz
 rw[hb g4]at dg;have ed:=aqH m;by_cases g5:iN m;rotate_left
 ·rw[cU fun h=>g5 h.m];rw[h0 g5]at ed;refine bo o8 yI zB fun aQ=>?_;unfold wT;exact cz
 rw[hb g5]at ed;have fa:=abh s n;cases g6:s.all (lA n)
 ·rw[cU fun h=>by obtain⟨ah,aq,_,bB⟩:=h.b;have ds:=rr aq;subst ds;rw[wP.2 bB]at g6;cases g6]
  rw[g6]at fa;refine bo o8 yI zB fun aQ=>?_;unfold wT;have Ny:=fa;exact cz
 rw[g6]at fa;have cI:=wP.1 g6;clear g6;have uj:=fu g5;have mm:=uj.len g5;refine bo o8 yI zB fun aQ=>?_;unfold wT;have xc:D.length<=68719476736:=by simp[gQ,gi,gH,lim]at aQ;omega
 have ij:=q0 g4;clear aQ fu;simp;(with_reducible repeat' first|refine ak ?_|refine aA kI ?_|refine aB kI ?_|refine aA kB ?_|refine aB kB ?_|refine aA kA ?_|refine aB kA ?_|refine aA dg ?_|refine aB dg ?_|refine aA ed ?_|refine aB ed ?_|refine aA fa ?_|refine aB fa ?_|simp);refine eJ [1,48,49] (fun i (_:Unit)=>[(50,.int .i64 i)]) D.length (s7 (fun x=>oO x n) D) () b7 (fun k b ae=>Ω) (fun _ ag _=>?_) (fun i _ hi ag _=>?_);rotate_left
 ·obtain⟨y,aC,eP⟩:=eI hi;have M6:=eF aC;have j1:bK aw 72 [cF y,.int .i64 n] (.bool (y.all (lA n))):=abh y n;cases sy:y.all (lA n)
  ·rw[cU fun h=>by obtain⟨ah,aq,_,bB⟩:=h.d _ (List.mem_map_of_mem M6);have ds:=rr aq;subst ds;rw[wP.2 bB]at sy;cases sy]
   rw[sy]at j1;clear ag aC M6;exact cz
  ·rw[sy]at j1;have au:=ag.step aC (wP.1 sy);clear ag aC M6;exact hN
 have Mb:=ag.fin;clear ag;simp;(with_reducible repeat' first|refine ak ?_|simp);refine eJ [1,61,62] (fun i (_:Unit)=>[(63,.int .i64 i)]) k.length (s7 (fun x=>x.v<n) k) () b7 (fun k b ae=>Ω) (fun _ ag _=>?_) (fun i _ hi ag _=>?_);rotate_left
 ·obtain⟨x,ab,cY⟩:=eI hi;by_cases nA:x.v<n
  ·have yO:¬n<=x.v:=Ω
   have au:=ag.step ab nA;clear ag ab;exact hN
  ·have yO:n<=x.v:=Ω
   rw[cU fun h=>nA (h.kb x (eF ab))];clear ag ab;exact cz
 have yX:=ag.fin;clear ag;simp;(with_reducible repeat' first|refine ak ?_|simp);have uh:=yX;refine eJ [1,74,75] (fun i (_:Unit)=>[(76,.int .i64 i)]) m.length (s7 (fun x=>x.v<n) m) () b7 (fun k b ae=>Ω) (fun _ ag _=>?_) (fun i _ hi ag _=>?_);rotate_left
 ·obtain⟨x,ab,cY⟩:=eI hi;by_cases nA:x.v<n
  ·have yO:¬n<=x.v:=Ω
   have au:=ag.step ab nA;clear ag ab;exact hN
  ·have yO:n<=x.v:=Ω
   rw[cU fun h=>nA (h.mb x (eF ab))];clear ag ab;exact cz
 have yX:=ag.fin;clear ag;simp;(with_reducible repeat' first|refine ak ?_|simp);have qR:=yX;have dd:gX ⟨n,s,D,k,m⟩:=⟨g1,af,sC,g4,g5,cI,Mb,uh,qR⟩;have vF:=aam dd;obtain⟨G,iH,aW⟩:=uj;have dt:=CI dd iH aW;have l0:ng ⟨n,s.map ai.b,D.map fun x=>x.map ai.b,k,m⟩↔fy ⟨n,s,D,k,m⟩=some ⟨n,s,D,k,m⟩:=vF;clear vF cU;simp only[qv]at dt;generalize Me:tt ⟨n,s,D,k,m⟩=t at dt;have xz:=aqt t ⟨n,s,D,k,m⟩;cases kR:fy ⟨n,s,D,k,m⟩with
 |none=>
  rw[kR]at dt l0;have gk:R=false:=by rw[<-bH,gD,l0];simp
  rw[gk];obtain⟨x9,x6,x7,x8,tm⟩:=t;simp only[k1,br.e]at dt;clear bH gk l0 Me xz;exact cz
 |some du=>
  have aq:=PD kR;rw[Me]at aq;subst aq;rw[kR]at dt l0;have gk:R=decide (t=⟨n,s,D,k,m⟩):=by rw[<-bH,decide_eq_decide,l0];simp
  rw[gk];simp only[oJ]at dt;simp only[br.e]at dt xz;clear bH gk l0 kR;generalize decide (t=(⟨n,s,D,k,m⟩:br))=Q at xz⊢;clear Me;obtain⟨x9,x6,x7,x8,tm⟩:=t;simp only at dt xz;exact cz
def qI(n:Int)(l:List bX):Prop:= ∃x:List T,l=x.map T.tm/\(∀t∈x,t.fit=true)/\∀t∈x,dK n t=true
theorem aat{x y:List T}(h:x.map T.tm=y.map T.tm):x=y:=(List.map_inj_right fun _ _=>z7).1 h
theorem adg(l:List T):(l.map T.tm).map enc=l.map T.e:=by rw[List.map_map];exact List.map_congr_left fun t _=>kn t
theorem UC:∀{l:List bX},l.all bX.fits=true->∃x:List T,l=x.map T.tm/\∀t∈x,t.fit=true
 |[],_=>⟨[],rfl,Ψ⟩
 |t::l,h=>by rw[List.all_cons,cr]at h;obtain⟨x,rfl,U⟩:=UC h.2;obtain⟨y,rfl,h4⟩:=bX.fits_ex h.1;exact⟨y::x,rfl,fun z bd=>(fm.1 bd).elim (fun e=>by rw[e];exact h4) (U z)⟩
theorem G0{n:Int}{l:List bX}(h:qI n l):∀t∈l,t.fits=true:=fun t aI=>by obtain⟨x,rfl,U,_⟩:=h;obtain⟨y,aC,rfl⟩:=hR.1 aI;rw[bX.fits_T];exact U y aC
theorem LQ{n:Int}{x y:T}(ab:x.fit=true)(aC:y.fit=true)(J:dK n x=true)(U:dK n y=true):qI n [x.tm,y.tm]:=⟨[x,y],rfl,by simp[ab,aC],by simp[J,U]⟩
theorem UB{n:Int}{x y:T}(h:qI n [x.tm,y.tm]):(x.fit=true/\y.fit=true)/\dK n x=true/\dK n y=true:=by obtain⟨l,e,J,U⟩:=h;have:=aat (x:=[x,y]) e;subst this;exact⟨⟨J x Ψ,J y Ψ⟩,U x Ψ,U y Ψ⟩
theorem TS{p:Prop}[Decidable p]{b:Bool}:decide p=b↔(p↔b=true):=by cases b<;>simp
theorem abp{n:Int}:∀(l:List T) (m:Int),l.foldl (fun m t=>t.fold sb m) m<=n↔m<=n/\∀t∈l,dK n t=true
 |[],m=>by simp
 |t::l,m=>by rw[List.foldl_cons,abp l,J0];simp[and_assoc]
theorem mW.fin{α:Type}{p:α->Bool}{s:List α}(h:mW p s s.length ()):∀b∈s,p b=true:=fun b ad=>by obtain⟨i,hi⟩:=List.mem_iff_getElem?.1 ad;exact h i b (by have:=(fD.1 hi).1;omega) hi
theorem aqN(l:List bX):bK aw 87 [.slice 4 .no (l.map enc)] (.bool (l.all bX.fits)):=by
 generalize bH:l.all bX.fits=R;refine bo fT Uq Yk fun aQ=>?_;unfold KV;have h7:l.length<=68719476736:=by simp[gQ,gi,gH,lim]at aQ;omega
 simp;refine eJ [5,6] (fun i (_:Unit)=>[(7,.int .i64 i)]) l.length (mW bX.fits l) () b7 (fun k b ae=>Ω) (fun _ ag _=>?_) (fun i _ hi ag _=>?_)
 ·have:R=true:=by rw[<-bH,fV];exact ag.fin
  subst this;clear ag bH;exact cz
 ·obtain⟨t,aI,rJ⟩:=eI hi;have dt:=JR t;cases g:t.fits
  ·rw[g]at dt;have:R=false:=by rw[<-bH,List.all_eq_false];exact⟨t,eF aI,by rw[g];simp⟩
   subst this;clear aI ag bH;exact cz
  ·rw[g]at dt;have au:=ag.step aI g;clear aI ag bH;exact hN
open Classical in
theorem Qg(r:jU)(fu:iN r.m->kZ r.m)(l:List bX):bK aw 39 [r.e,.slice 4 .no (l.map enc)] (.bool (decide (ng r/\qI r.n l))):=by
 generalize bH:decide (ng r/\qI r.n l)=R;have kS:=aaZ r fu;have dt:=aqN l;have au:=fun h:ng r=>(ng.raw h).n;by_cases g1:ng r;rotate_left
 ·rw[h0 g1]at kS;have:R=false:=by rw[<-bH];exact h0 fun h=>g1 h.1
  subst this;obtain⟨n,b,d,k,m⟩:=r;simp only[jU.e]at kS⊢;clear bH au fu g1;refine bo gg LF Ol fun aQ=>?_;unfold Gs;exact cz
 rw[hb g1]at kS;cases g2:l.all bX.fits
 ·rw[g2]at dt;have:R=false:=by rw[<-bH];refine h0 fun h=>?_;obtain⟨x,rfl,U,_⟩:=h.2;rw[List.all_eq_false]at g2;obtain⟨t,aI,aN⟩:=g2;obtain⟨y,aC,rfl⟩:=hR.1 aI;rw[bX.fits_T]at aN;exact aN (U y aC)
  subst this;obtain⟨n,b,d,k,m⟩:=r;simp only[jU.e]at kS⊢;clear bH au fu g1 g2;refine bo gg LF Ol fun aQ=>?_;unfold Gs;exact cz
 rw[g2]at dt;obtain⟨x,rfl,ab⟩:=UC g2;rw[adg]at dt⊢;have hd:=aa1 x ab;have az:decide (yg x<=r.n)=R:=by rw[<-bH,yg];refine decide_eq_decide.2 ?_;rw[abp];refine⟨fun h=>⟨g1,x,rfl,ab,h.2⟩,fun h=>⟨(au g1).1,?_⟩⟩;obtain⟨y,e,_,U⟩:=h.2;rw[aat e];exact U
 generalize yg x=q at hd az;obtain⟨n,b,d,k,m⟩:=r;simp only[jU.e]at kS az⊢;clear bH au fu g1 g2 ab;subst az;refine bo gg LF Ol fun aQ=>?_;unfold Gs;exact cz
noncomputable def jC(s:br)(x y:T):Option br:=(mgu s.b [(x,y)]).bind fun b=>fy {s with b:=b}
theorem aa0{b:List ai}(ad:ev b){x y:T}(ab:x.fit=true)(aC:y.fit=true):bK aw 43 [.slice 5 .no (b.map ai.e),x.e,y.e] (fk (mgu b [(x,y)])):=by have kS:=pT ad;have aS:=Ac ab;have bf:=Ac aC;have key:=abo b [x] [y] rfl ad.sol ad.fits ad.ok Ψ (by simp only[T.fit,cr]at ab;simpa using ab.1) (by simp only[T.fit,cr]at aC;simpa using aC.1);simp only[gZ,nn,List.zip_cons_cons,List.zip_nil_left]at key;unfold fk at key⊢;generalize mgu b [(x,y)]=O at key;refine bo gg aev alk fun aQ=>?_;unfold RJ;exact cz
theorem vW(S:aL->Prop)(l:List (List ai))(d:List ai):aO S (l.map cF++[cF d])=True:=uE S l d
theorem aa4{x:List ai}(h:x.length<=1000000):bK aw 91 [cF x] (cF x):=FF x h
theorem ap5(s:br)(ad:s.b.length<=1000000)(aG:∀x∈s.d,x.length<=1000000)(ae:s.k.length<=1000000)(hm:s.m.length<=68719470000):bK aw 41 [s.e] s.e:=by
 obtain⟨n,b,d,k,m⟩:=s;simp only[br.e]at ad aG ae hm⊢;have kB:=FF b ad;refine bo gg Un Yh fun aQ=>?_;unfold KS;have h7:d.length<=68719476736:=by simp[gQ,gi,gH,lim]at aQ;omega
 clear aQ;simp;(with_reducible repeat' first|refine ak ?_|refine aA kB ?_|refine aB kB ?_|simp);refine hI (fun i (L:List (List ai))=>⟨[(1,.ptr (.loc 0) 0),(2,.ptr (.loc 1) 0),(3,.ptr (.loc 5) 0),(14,.slice 1 .no (d.map cF)),(15,.int .i64 d.length),(16,.int .i64 i)],[(.loc 0,[.int .i64 n,.slice 5 .no (b.map ai.e),.slice 1 .no (d.map cF),.slice 2 .no (k.map b8.e),.slice 2 .no (m.map bj.e)]),(.loc 1,[.int .i64 0,.slice 5 .nil [],.slice 1 .nil [],.slice 2 .nil [],.slice 2 .nil []]),(.loc 5,[.int .i64 n,.slice 5 .no (b.map ai.e),.slice 1 (.own (.loc 13)) (L.map cF),.slice 2 .nil [],.slice 2 .nil []])],[(.loc 13,⟨L.length,23,1,none⟩)],41,[]⟩) d.length (fun i L=>L=d.take i) [] b7 Ψ (fun L ag _=>?_) (fun i L hi ag _=>?_)
 ·rw[lQ]at ag;subst ag;simp;(with_reducible repeat' first|refine ak ?_|simp);all_goals first|(refine⟨by unfold lim;omega,?_⟩)|skip
  exact cz
 ·obtain⟨x,ab,cY⟩:=eI hi;have uD:=aa4 (aG x (eF ab));have av:L.length<=i:=by rw[ag];simp;omega
  simp[hi,cY];(with_reducible repeat' first|refine ak ?_|refine aA uD ?_|refine aB uD ?_|simp[cY,hi]);all_goals first|(refine⟨by unfold lim;omega,?_⟩)|skip
  (with_reducible repeat' first|refine ak ?_|simp);refine bR.rng (L++[x]) hi (by rw[mC ab,ag]) ?_;simp;exact⟨by simp[fresh,aO,aJ,cn,inObs,Pv.look,vW],ek (by simp[fresh,aO,aJ,cn,inObs,Pv.look,vW]),en (by simp[fresh,aO,aJ,dW,inObs,Pv.look,vW]),Ψ⟩
theorem T.fit_ok{x:T}(h:x.fit=true):x.ok=true:=by simp only[T.fit,cr]at h;exact h.1
theorem gX.bind{s:br}(h:gX s){x y:T}(ab:x.fit=true)(aC:y.fit=true)(bx:dK s.n x=true)(fi:dK s.n y=true){b:List ai}(hm:mgu s.b [(x,y)]=some b):gX {s with b:=b}:=⟨h.n,h.b.mgu (by simp[T.fit_ok ab,T.fit_ok aC]) hm,h.d,h.k,h.m,XH (fun v=>v<s.n) h.b.sol h.b.fits h.bb (fun e he=>by simp only[iS]at he;subst he;exact⟨sj.1 bx,sj.1 fi⟩) hm,h.db,h.kb,h.mb⟩
open Classical in
theorem aa5{s:br}(h:j3 s)(hm:kZ s.m){x y:T}(ab:x.fit=true)(aC:y.fit=true)(bx:dK s.n x=true)(fi:dK s.n y=true):bK aw 39 [s.e,.slice 4 .no [x.e,y.e]] (.bool true):=by have:=Qg s.r (fun _=>hm) [x.tm,y.tm];rw[hb ⟨⟨s,rfl,h⟩,LQ ab aC bx fi⟩,uZ]at this;simpa[kn]using this
theorem aaQ{s:br}(h:j3 s)(hm:kZ s.m){x y:T}(ab:x.fit=true)(aC:y.fit=true)(bx:dK s.n x=true)(fi:dK s.n y=true):bK aw 17 [s.e,x.e,y.e] (na (jC s x y)):=by
 have aS:=aa5 h hm ab aC bx fi;have bf:=aa0 h.1.b ab aC;have b4:=ap5 s h.1.b.len (fun z bd=>(h.1.d z bd).len) (by have:=q0 h.1.k;omega) (hm.len h.1.m);unfold jC;cases hu:mgu s.b [(x,y)]with
 |none=>rw[hu]at bf;clear h hu b4;obtain⟨n,b,d,k,m⟩:=s;simp only[br.e,fk,na,Option.bind_none,lv,k1,dY]at aS bf⊢;refine bo gg Ui Yc fun aQ=>?_;unfold KN;simp;((with_reducible repeat' first|refine ak ?_|refine aA aS ?_|refine aB aS ?_|refine aA bf ?_|refine aB bf ?_|simp|((first|apply bJ|apply bM|apply bL)<;>intro h<;>try simp at h))<;>(try exact ck));all_goals simp[bp,OI,aV,aY,aU]
 |some b3=>rw[hu]at bf;obtain⟨G,iH,aW⟩:=hm;have ep:=JZ (h.1.bind ab aC bx fi hu) iH aW;rw[jy];generalize fy {s with b:=b3}=O at ep;clear h hu;obtain⟨n,b,d,k,m⟩:=s;simp only[br.e,fk,na]at aS bf b4 ep⊢;refine bo gg Ui Yc fun aQ=>?_;unfold KN;simp;(with_reducible repeat' first|refine ak ?_|refine aA aS ?_|refine aB aS ?_|refine aA bf ?_|refine aB bf ?_|refine aA b4 ?_|refine aB b4 ?_|refine aA ep ?_|refine aB ep ?_|simp);all_goals simp[bp,OI,aV,aY,aU]
open Classical in
noncomputable def FY(r:jU)(a b:bX):Bool:=decide (∃s x y,r=s.r/\j3 s/\qI s.n [a,b]/\a=T.tm x/\b=T.tm y/\jC s x y=none)
open Classical in
theorem abQ{r:jU}{a b:bX}(h:¬(ng r/\qI r.n [a,b])):FY r a b=false:=h0 fun⟨s,_,_,J,U,h3,_⟩=>h ⟨⟨s,J,U⟩,by rw[J];exact h3⟩
open Classical in
theorem QL{s:br}(h:j3 s){x y:T}(aN:qI s.n [x.tm,y.tm]):FY s.r x.tm y.tm=(jC s x y).isNone:=by unfold FY;rw[TS,Option.isNone_iff_eq_none];refine⟨fun⟨ah,J5,J7,J,_,_,h4,h5,c9⟩=>?_,fun b9=>⟨s,x,y,rfl,h,aN,rfl,rfl,b9⟩⟩;rw[br.r_inj J,z7 h4,z7 h5];exact c9
open Classical in
theorem apN(r:jU)(fu:iN r.m->kZ r.m)(a b:bX):bK aw 15 [r.e,enc a,enc b] (.bool (FY r a b)):=by
 have aS:=Qg r fu [a,b];simp only[gZ,nn]at aS;by_cases g:ng r/\qI r.n [a,b];rotate_left
 ·rw[abQ g];rw[h0 g]at aS;clear g fu;obtain⟨n,b3,d,k,m⟩:=r;simp only[jU.e]at aS⊢;refine bo gg Ug Ya fun aQ=>?_;unfold KL;exact cz
 rw[hb g]at aS;obtain⟨⟨s,rfl,af⟩,aN⟩:=g;obtain⟨x,rfl,_⟩:=bX.fits_ex (G0 aN a Ψ);obtain⟨y,rfl,_⟩:=bX.fits_ex (G0 aN b Ψ);obtain⟨⟨ab,aC⟩,bx,fi⟩:=UB aN;have hm:kZ s.m:=fu af.1.m;have bf:=aaQ af hm ab aC bx fi;rw[QL af aN];generalize jC s x y=O at bf;rw[uZ,kn,kn]at aS;rw[uZ,kn,kn];clear fu aN af ab aC bx fi;obtain⟨n,b,d,k,m⟩:=s;cases O<;>simp only[br.e,na,Option.isSome,Option.isNone]at aS bf⊢;all_goals refine bo gg Ug Ya fun aQ=>?_;unfold KL
 all_goals simp
 all_goals(with_reducible repeat' first|refine ak ?_|refine aA aS ?_|refine aB aS ?_|refine aA bf ?_|refine aB bf ?_|simp)
 all_goals simp[bp,YP,aV,aY,aU]
noncomputable def Jq(s:br)(x y:T):aj:=match mgu s.b [(x,y)]with
 |none=>.tuple [dY.e,.bool false]
 |some b=>qv {s with b:=b}
theorem aol(s:br)(x y:T):∃t:br,∃q:Bool,Jq s x y= .tuple [t.e,.bool q]/\(q=true->jC s x y=some t)/\(q=false->jC s x y=none):=by
 unfold Jq jC;cases mgu s.b [(x,y)]with
 |none=>exact⟨dY,false,rfl,(fun h=>by cases h),fun _=>rfl⟩
 |some b=>
  refine⟨_,_,rfl,(fun h=>?_),fun h=>?_⟩
  ·obtain⟨t,aI⟩:=fo.1 h;rw[PD aI];exact aI
  ·rw[jy];cases e:fy {s with b:=b}with
   |none=>rfl
   |some t=>rw[e]at h;cases h
theorem aqn{s:br}(h:gX s)(hm:kZ s.m){x y:T}(ab:x.fit=true)(aC:y.fit=true)(bx:dK s.n x=true)(fi:dK s.n y=true)(kU:Int)(tag:List UInt8):bK aw 49 [s.e,.int .i64 0,x.e,y.e,.int .i64 kU,.str tag] (Jq s x y):=by
 have aS:=Qj s.b x y h.b.sol h.b.fits;unfold Jq;cases hu:mgu s.b [(x,y)]with
 |none=>rw[hu]at aS;clear h hu;obtain⟨n,b,d,k,m⟩:=s;simp only[br.e,fk,dY]at aS⊢;refine bo gg su ti fun aQ=>?_;unfold rv;exact cz
 |some b3=>rw[hu]at aS;obtain⟨G,iH,aW⟩:=hm;have bf:=CI (h.bind ab aC bx fi hu) iH aW;simp only[qv]at bf⊢;generalize tt {s with b:=b3}=t at bf;generalize (fy {s with b:=b3}).isSome=q at bf;clear h hu;obtain⟨n,b,d,k,m⟩:=s;obtain⟨x9,x6,x7,x8,tm⟩:=t;simp only[br.e,fk]at aS bf⊢;refine bo gg su ti fun aQ=>?_;unfold rv;exact cz
theorem aqb{x:List ai}(h:x.length<=1000000):bK aw 105 [cF x] (cF x):=abb x h
theorem aqk(t:List (List ai))(aI:∀x∈t,x.length<=1000000):bK aw 106 [.slice 1 .no (t.map cF)] (.slice 1 .no (t.map cF)):=by
 refine bo gg af4 amV fun aQ=>?_;unfold To;have h7:t.length<=68719476736:=by simp[gQ,gi,gH,lim]at aQ;omega
 clear aQ;have dg:=fun x ab=>aqb (aI x ab);simp;(with_reducible repeat' first|refine ak ?_|simp);refine hI (fun i (L:List (List ai))=>⟨[(7,.slice 1 .no (t.map cF)),(8,.int .i64 t.length),(3,.slice 1 (.own (.loc 0)) (L.map cF)),(9,.int .i64 i)],[],[(.loc 0,⟨L.length,23,1,none⟩)],1,[]⟩) t.length (fun i L=>L=t.take i) [] b7 Ψ (fun L ag _=>?_) (fun i L hi ag _=>?_)
 ·rw[lQ]at ag;subst ag;exact cz
 ·obtain⟨x,ab,cY⟩:=eI hi;have uD:=dg x (eF ab);have av:L.length<=i:=by rw[ag];simp;omega
  clear dg;simp[hi,cY];(with_reducible repeat' first|refine ak ?_|refine aA uD ?_|refine aB uD ?_|simp[cY,hi]);all_goals first|(refine⟨by unfold lim;omega,?_⟩)|skip
  all_goals(with_reducible repeat' first|refine ak ?_|simp)
  all_goals refine bR.rng (L++[x]) hi (by rw[mC ab,ag]) ?_
  all_goals simp
  all_goals exact⟨by simp[fresh,aO,aJ,cn,inObs,Pv.look,vW],ek (by simp[fresh,aO,aJ,cn,inObs,Pv.look,vW]),en (by simp[fresh,aO,aJ,dW,inObs,Pv.look,vW]),Ψ⟩
theorem aqs(s:br)(ad:s.b.length<=1000000)(aG:∀x∈s.d,x.length<=1000000)(ae:s.k.length<=1000000)(hm:s.m.length<=68719470000):bK aw 51 [s.e] s.e:=by
 have aS:=abb s.b ad;have bf:=aqk s.d aG;obtain⟨n,b,d,k,m⟩:=s;simp only[br.e]at aS bf ae hm⊢;refine bo gg af8 amZ fun aQ=>?_;unfold Ts;simp;(with_reducible repeat' first|refine ak ?_|refine aA aS ?_|refine aB aS ?_|refine aA bf ?_|refine aB bf ?_|simp);all_goals first|(refine⟨by unfold lim;omega,?_⟩)|skip
 exact cz
theorem adm{s t:br}(h:gX s){x y:T}(ab:x.fit=true)(aC:y.fit=true)(bx:dK s.n x=true)(fi:dK s.n y=true)(he:jC s x y=some t):j3 t:=by unfold jC at he;obtain⟨b,J,U⟩:=ji.1 he;exact(zV (h.bind ab aC bx fi J) U).1
def BV(s:List ai):Option (List ai)->List ai
 |none=>[]
 |some b=>dN s b
open Classical in
noncomputable def wW(s:List ai):Option (List ai)->Int
 |none=>1
 |some b=>if dN s b=[]then 2 else 0
noncomputable def jV(s:br)(x y:T):Option br:=match mgu s.b [(x,y)]with
 |none=>fy s
 |some b=>if dN s.b b=[]then none else fy {s with d:=s.d++[dN s.b b]}
theorem N8{s b:List ai}(af:ev s){E:List (T×T)}(hm:mgu s E=some b):dN s b=[]↔s=b:=by
 constructor
 ·intro h;have J:=EG af.sol af.fits hm;rw[h,show gf []=[]from rfl,EH af.sol af.fits]at J;exact eZ J
 ·rintro rfl;unfold dN;rw[List.filter_eq_nil_iff];intro c ao;rw[pn af.sol.asc ao];simp
theorem gX.dif{s:br}(h:gX s){x y:T}(ab:x.fit=true)(aC:y.fit=true)(bx:dK s.n x=true)(fi:dK s.n y=true){b:List ai}(hm:mgu s.b [(x,y)]=some b):gX {s with d:=s.d++[dN s.b b]}:=by
 have ad:=h.bind ab aC bx fi hm;refine⟨h.n,h.b,fun z bd=>?_,h.k,h.m,h.bb,fun z bd=>?_,h.kb,h.mb⟩
 ·rcases hQ.1 bd with bd|bd
  ·exact h.d z bd
  ·rw[iS.1 bd];exact EJ ad.b
 ·rcases hQ.1 bd with bd|bd
  ·exact h.db z bd
  ·rw[iS.1 bd];exact fun c ao=>ad.bb c (ia.1 ao).1
theorem ac2{s t:br}(h:gX s){x y:T}(ab:x.fit=true)(aC:y.fit=true)(bx:dK s.n x=true)(fi:dK s.n y=true)(he:jV s x y=some t):j3 t:=by
 unfold jV at he;cases hm:mgu s.b [(x,y)]with
 |none=>rw[hm]at he;exact(zV h he).1
 |some b=>
  rw[hm]at he;simp only at he;split at he
  ·cases he
  ·exact(zV (h.dif ab aC bx fi hm) he).1
theorem Z9{s t:br}(he:fy s=some t):t.d.length<=30:=by
 unfold fy at he;split at he
 ·cases he
 split at he
 ·cases he
 split at he
 ·cases he
 split at he
 ·rename_i h;have:=eZ he;rw[<-this];exact h
 ·cases he
open Classical in
noncomputable def FZ(r:jU)(a b:bX):Bool:=decide (∃s x y,r=s.r/\j3 s/\qI s.n [a,b]/\a=T.tm x/\b=T.tm y/\jV s x y=none)
open Classical in
theorem abR{r:jU}{a b:bX}(h:¬(ng r/\qI r.n [a,b])):FZ r a b=false:=h0 fun⟨s,_,_,J,U,h3,_⟩=>h ⟨⟨s,J,U⟩,by rw[J];exact h3⟩
open Classical in
theorem QM{s:br}(h:j3 s){x y:T}(aN:qI s.n [x.tm,y.tm]):FZ s.r x.tm y.tm=(jV s x y).isNone:=by unfold FZ;rw[TS,Option.isNone_iff_eq_none];refine⟨fun⟨ah,J5,J7,J,_,_,h4,h5,c9⟩=>?_,fun b9=>⟨s,x,y,rfl,h,aN,rfl,rfl,b9⟩⟩;rw[br.r_inj J,z7 h4,z7 h5];exact c9
open Classical in
noncomputable def uG(s:br)(t:T)(k:Int):Option br:=if(k=2\/k=3)/\(t.ap (aR s.b)).size<=5000 then(ib s.k (t.ap (aR s.b)) k).bind fun l=>fy {s with k:=l}else none
open Classical in
noncomputable def uN(s:br)(t:T)(g:List UInt8):Option br:=if(t.ap (aR s.b)).size<=5000 then(iV s.m (t.ap (aR s.b)) g).bind fun l=>fy {s with m:=l}else none
def Cx(m:List bj):Prop:= ∃G:List (List UInt8),G.length<=686999/\kG G m
theorem Cx.w{m:List bj}(h:Cx m):kZ m:=by obtain⟨G,J,U⟩:=h;exact⟨G,Ω,U⟩
theorem gX.apb{s:br}(h:gX s){t:T}(vm:dK s.n t=true){w:Int}(hw:(t.ap (aR s.b)).occ w=true):w<s.n:=by obtain⟨v,J,U⟩:=BY.1 hw;exact Nq h.b h.bb (sj.1 vm v J) U
theorem gX.apo{s:br}(h:gX s){t:T}(aI:t.fit=true):(t.ap (aR s.b)).ok=true:=Fs h.b.ok (T.fit_ok aI)
theorem gX.knd{s:br}(h:gX s){t:T}(aI:t.fit=true)(vm:dK s.n t=true){k:Int}(ae:k=2\/k=3){l:List b8}(he:ib s.k (t.ap (aR s.b)) k=some l):gX {s with k:=l}:=⟨h.n,h.b,h.d,Gc h.k (h.apo aI) ae he,h.m,h.bb,h.db,fun x ab=>(Kq he x ab).elim (h.kb x) fun e=>h.apb vm (by rw[e];simp[T.occ]),h.mb⟩
theorem gX.mrk{s:br}(h:gX s){t:T}(aI:t.fit=true)(vm:dK s.n t=true){g:List UInt8}(aW:iK g=true){l:List bj}(he:iV s.m (t.ap (aR s.b)) g=some l):gX {s with m:=l}:=⟨h.n,h.b,h.d,h.k,Gd h.m (h.apo aI) aW he,h.bb,h.db,h.kb,fun x ab=>((zp he x).1 ab).elim (h.mb x) fun e=>h.apb vm e.2⟩
theorem Cx.mrk{m l:List bj}(h:Cx m){t:T}{g:List UInt8}(he:iV m t g=some l):kZ l:=by obtain⟨G,J,U⟩:=h;exact⟨g::G,by simp only[mG];omega,CY (fun x ab=>pd _ (U x ab)) Ψ he⟩
theorem akb{s u:br}(h:gX s){t:T}(aI:t.fit=true)(vm:dK s.n t=true){k:Int}(he:uG s t k=some u):j3 u:=by
 unfold uG at he;split at he
 ·rename_i g;obtain⟨l,J,U⟩:=ji.1 he;exact(zV (h.knd aI vm g.1 J) U).1
 ·cases he
theorem akR{s u:br}(h:gX s){t:T}(aI:t.fit=true)(vm:dK s.n t=true){g:List UInt8}(aW:iK g=true)(he:uN s t g=some u):j3 u:=by
 unfold uN at he;split at he
 ·obtain⟨l,J,U⟩:=ji.1 he;exact(zV (h.mrk aI vm aW J) U).1
 ·cases he
structure aoJ (s:br):Prop where
 k:fM s.b s.k []=some s.k
 m:fI s.b s.m []=some s.m
 f:s.m.filter (iO s.k)=s.m
 l:fw s.b s.k s.m s.d=some s.d
 st:∀d∈s.d,x1 s.b s.k s.m d
 n:jL s.d=s.d
 c:s.d.length<=30
theorem j3.self{s:br}(h:j3 s):aoJ s:=by
 have ao:=Z9 h.2;have J:=h.2;unfold fy at J;split at J
 ·cases J
 rename_i k ae;split at J
 ·cases J
 rename_i m hm;split at J
 ·cases J
 rename_i L ft;split at J;rotate_left
 ·cases J
 have J:=eZ J;have nD:k=s.k:=eW br.k J;have MC:m.filter (iO k)=s.m:=eW br.m J;have lZ:jL L=s.d:=eW br.d J;subst nD;have m1:=Fb h.1.b h.1.m.at' ⟨Ψ,by simp[hS]⟩ hm;have aF:fI s.b (m.filter (iO s.k)) []=some (m.filter (iO s.k)):=Pc (acc:=[]) (QH _ m1.asc) fun x ab=>Je h.1.b.sol Ψ hm x (ia.1 ab).1;rw[MC]at aF ft;have y6:m=s.m:=by rw[hm]at aF;exact eZ aF
 rw[y6]at MC;have dd:=Ev h.1.b ft;have af:∀d∈s.d,x1 s.b s.k s.m d:=fun d aG=>dd d (rT.1 (by rw[lZ];exact aG)).1;exact⟨ae,aF,MC,NF af,af,by rw[<-lZ,XM],ao⟩
theorem Et{b:List ai}{k:List b8}{m:List bj}:∀{l L:List (List ai)},fw b k m l=some L->L.length<=l.length
 |[],L,h=>by simp only[fw,dE]at h;rw[<-h];simp
 |d::l,L,h=>by
  simp only[fw]at h;split at h
  ·have:=Et h;simp only[mG];omega
  ·split at h
   ·have:=Et h;simp only[mG];omega
   ·split at h
    ·cases h
    ·rw[gv]at h;obtain⟨tJ,J,rfl⟩:=h;have:=Et J;simp only[mG];omega
def _root_.Go.Pv.T.gnd:T->Bool
 | .var _=>false
 | .pair a b=>a.gnd&&b.gnd
 |_=>true
structure k0 (n:Int) (v:List ai):Prop where
 ok:kW v
 asc:gO v
 fits:ga v
 len:(v.length:Int)=n
 at':∀(i:Nat) b,v[i]? =some b->b.v=(i:Int)
 gnd:∀b∈v,b.t.gnd=true
theorem k0.get{n:Int}{v:List ai}(h:k0 n v){w:Int}(bz:0<=w)(J:w<n):∃b:ai,v[w.toNat]? =some b/\cO v w=some b.t/\aR v w=b.t:=by
 have av:=h.len;have hi:w.toNat<v.length:=Ω
 have e:=cg hi;have aF:=h.at' _ _ e;have bB:=pn h.asc (List.getElem_mem hi);rw[aF,Int.toNat_of_nonneg bz]at bB;exact⟨_,e,bB,by rw[aR,bB];rfl⟩
theorem PG{v:List ai}(h:ga v)(w:Int):(aR v w).size<=5000:=by
 unfold aR;cases e:cO v w with
 |none=>simp[T.size]
 |some x=>exact h.2 _ (iG e)
theorem kW.fit{v:List ai}(h:kW v)(aN:ga v):wY v:=fun b ad=>by simp[T.fit,(h b ad).2,aN.2 b ad]
def um(v:List ai)(b:ai):Bool:=decide ((b.t.ap (aR v)).size<=5000)&& !decide (aR v b.v=b.t.ap (aR v))
def pq(v:List ai)(d:List ai):Bool:=d.any (um v)
def rU(v:List ai)(b:ai):Bool:=decide ((b.t.ap (aR v)).size<=5000)&&decide (b.t.ap (aR v)=aR v b.v)
structure nc (s:br) (v:List ai):Prop where
 b:s.b.all (rU v)=true
 d:s.d.all (pq v)=true
 k:s.k.all (fun k=>decide ((aR v k.v).kind=k.k))=true
 m:s.m.all (fun m=> !(aR v m.v).has m.s)=true
def Eg(s:br)(l:List dO):Prop:= ∃v:List ai,l=v.map ai.b/\k0 s.n v/\nc s v
def HZ(v:List ai)(i:Nat)(_:Unit):Prop:= ∀k b,k<i->v[k]? =some b->b.v=(k:Int)/\b.t.gnd=true
theorem HZ.step{v:List ai}{i:Nat}(h:HZ v i ()){b:ai}(ad:v[i]? =some b)(bF:b.v=(i:Int)/\b.t.gnd=true):HZ v (i+1) ():=fun k c ae ao=>by
 rcases Nat.lt_or_ge k i with J|J
 ·exact h k c J ao
 ·have:k=i:=Ω
  subst this;rw[ad]at ao;cases ao;exact bF
def Ef(t:T):Prop:=(∃k,t= .num k)\/ ∃s,t= .sym s
theorem Ef.size{t:T}(h:Ef t):t.size=1:=by rcases h with⟨k,rfl⟩|⟨s,rfl⟩<;>rfl
theorem Ef.gnd{t:T}(h:Ef t):t.gnd=true:=by rcases h with⟨k,rfl⟩|⟨s,rfl⟩<;>rfl
structure abx (s:br) (f:Int->T):Prop where
 a:∀v,Ef (f v)
 ok:∀v,(f v).ok=true
 inj:∀u v,0<=u->u<s.n->0<=v->v<s.n->cO s.b u=none->cO s.b v=none->f u=f v->u=v
 d:∀d∈s.d,∀c∈d,∀v,c.t≠f v
 k:∀k∈s.k,(f k.v).kind=k.k
 m:∀m∈s.m,(f m.v).has m.s=false
theorem Gg{f:Int->T}(aN:∀v,(f v).size=1):∀t:T,(t.ap f).size=t.size
 | .var n=>by simp[T.ap,T.size,aN]
 | .pair a b=>by simp[T.ap,T.size,Gg aN a,Gg aN b]
 | .nil=>rfl
 | .sym _=>rfl
 | .num _=>rfl
theorem Kz{f:Int->T}(aN:∀v,(f v).gnd=true):∀t:T,(t.ap f).gnd=true
 | .var n=>aN n
 | .pair a b=>by simp[T.ap,T.gnd,Kz aN a,Kz aN b]
 | .nil=>rfl
 | .sym _=>rfl
 | .num _=>rfl
theorem Ym{t:T}(aI:t.ok=true){v:Int}(az:t.occ v=true):0<=v:=by
 induction t with
 |var n=>simp only[T.ok,T.occ,eN,dM]at aI az;omega
 |pair a b dz dA=>simp only[T.ok,T.occ,cr,lP]at aI az;exact az.elim (dz aI.1) (dA aI.2)
 |_=>simp[T.occ]at az
theorem aqV{s:br}(h:j3 s){f:Int->T}(aN:abx s f)(asS:s.n<=400){w:List ai}(av:(w.length:Int)=s.n)(hw:∀(i:Nat) b,w[i]? =some b->b.v=(i:Int)/\b.t=(aR s.b i).ap f):k0 s.n w/\nc s w:=by
 have dp:=h.self;have J:=fun v=>(aN.a v).size;have dS:=Gg J;have Hn:=Kz fun v=>(aN.a v).gnd;have kt:∀v,(aR s.b v).size<=5000:=fun v=>PG h.1.b.fits v;have hL:∀b∈w,∃i:Nat,w[i]? =some b/\(i:Int)<s.n:=fun b ad=>by obtain⟨i,hi⟩:=List.mem_iff_getElem?.1 ad;have:=(fD.1 hi).1;exact⟨i,hi,Ω⟩
 have az:k0 s.n w:=by
  refine⟨fun b ad=>?_,?_,⟨Ω,fun b ad=>?_⟩,av,fun i b hi=>(hw i b hi).1,fun b ad=>?_⟩
  ·obtain⟨i,hi,gU⟩:=hL b ad;obtain⟨aq,aF⟩:=hw i b hi;have:=h.1.n;refine⟨Ω,?_⟩;rw[aF];exact KB (zW h.1.b ⟨Ω,Ω⟩) fun v _=>aN.ok v
  ·refine pY.2 fun i j hi ag mj=>?_;rw[(hw i _ (cg hi)).1,(hw j _ (cg ag)).1];omega
  ·obtain⟨i,hi,_⟩:=hL b ad;rw[(hw i b hi).2,dS];exact kt _
  ·obtain⟨i,hi,_⟩:=hL b ad;rw[(hw i b hi).2];exact Hn _
 have HJ:∀v,0<=v->v<s.n->aR w v=(aR s.b v).ap f:=fun v bz U=>by obtain⟨c,ao,_,e⟩:=az.get bz U;have:=(hw _ c ao).2;rw[Int.toNat_of_nonneg bz]at this;rw[e,this]
 have qO:∀v,0<=v->v<s.n->cO s.b v=none->aR w v=f v:=fun v bz U h3=>by
  rw[HJ v bz U];have:aR s.b v= .var v:=by unfold aR;rw[h3];rfl
  rw[this];rfl
 have V5:∀{t:T},t.ok=true->∀v,t.occ v=true->0<=v:=fun{t} aI v az=>(Ym aI az);refine⟨az,⟨?_,?_,?_,?_⟩⟩
 ·rw[fV];intro c ao;have Mk:=h.1.bb c ao;have DI:=h.1.b.ok c ao;have aq:c.t.ap (aR w)=c.t.ap f:=nY fun u hu=>qO u (V5 DI.2 u hu) (Mk.2 u hu) (h.1.b.sol.free c ao u hu);have aF:aR s.b c.v=c.t:=by unfold aR;rw[pn h.1.b.sol.asc ao];rfl
  rw[rU,aq,HJ c.v DI.1.1 Mk.1,aF,hb rfl,Bool.and_true,eN,dS];exact h.1.b.fits.2 c ao
 ·rw[fV];intro d aG;obtain⟨x,a1,_,bW,cZ⟩:=dp.st d aG;obtain⟨c,ao⟩:=List.exists_mem_of_ne_nil d cZ;have kf:=ao;rw[<-bW]at kf;obtain⟨bY,cw⟩:=ia.1 kf;have cw:cO s.b c.v=none:=by simpa using cw
  have gA:=(q5 h.1.b.sol h.1.b.fits a1).1;have TU:∀{v},cO x v=none->cO s.b v=none:=fun b9=>Ir h.1.b.sol gA (fun θ fY=>((pN h.1.b.sol h.1.b.fits a1 θ).1 fY).1) b9;have Mm:=h.1.db d aG c ao;have Mo:=(h.1.d d aG).ok c ao;have qU:∀u,c.t.occ u=true->0<=u/\u<s.n/\cO s.b u=none:=fun u hu=>⟨V5 Mo.2 u hu,Mm.2 u hu,TU (gA.free c bY u hu)⟩;have aq:c.t.ap (aR w)=c.t.ap f:=nY fun u hu=>qO u (qU u hu).1 (qU u hu).2.1 (qU u hu).2.2;have aF:=qO c.v Mo.1.1 Mm.1 cw;rw[pq,List.any_eq_true];refine⟨c,ao,?_⟩;rw[um,aq,aF,dS,hb ((h.1.d d aG).fits.2 c ao),Bool.true_and,oG,gD];intro e;have cA:=aN.d d aG c ao c.v;cases aI:c.t with
  |var u=>rw[aI]at e qU;have hu:=qU u (by simp[T.occ]);have:u=c.v:=aN.inj u c.v hu.1 hu.2.1 Mo.1.1 Mm.1 hu.2.2 cw (by rw[e];rfl);have:=gA.ori c bY u aI;omega
  |pair a b=>rw[aI]at e;rcases aN.a c.v with⟨k,bB⟩|⟨k,bB⟩<;>(rw[bB]at e;simp[T.ap]at e)
  |nil=>rw[aI]at e;rcases aN.a c.v with⟨k,bB⟩|⟨k,bB⟩<;>(rw[bB]at e;simp[T.ap]at e)
  |sym _=>rw[aI]at e cA;exact cA (by rw[e];rfl)
  |num _=>rw[aI]at e cA;exact cA (by rw[e];rfl)
 ·rw[fV];intro k ae;have:=Jb h.1.b.sol Ψ dp.k k ae;rw[qO k.v (h.1.k.at' k ae).1.1 (h.1.kb k ae) this,aN.k k ae];simp
 ·rw[fV];intro m hm;have:=Je h.1.b.sol Ψ dp.m m hm;rw[qO m.v (h.1.m.at' m hm).1.1 (h.1.mb m hm) this,aN.m m hm];rfl
theorem Ip{s:List ai}(af:e1 s)(aN:ga s)(E nq:List (T×T)):mgu s (E++nq)=(mgu s E).bind fun s1=>mgu s1 nq:=by
 have J:=xI af aN E;cases h:mgu s E with
 |none=>rw[h]at J;exact qo (Gb nq J)
 |some s1=>rw[h]at J;exact qo (Ko J (xI J.1.1 J.1.2 nq))
def eD:T->Nat
 | .pair a b=>eD a+eD b
 |_=>1
theorem NL:∀t:T,1<=eD t
 | .pair a b=>by have:=NL a;simp only[eD];omega
 | .var _=>dZ _
 | .nil=>dZ _
 | .sym _=>dZ _
 | .num _=>dZ _
theorem EA:∀t:T,t.size+1=2*eD t
 | .pair a b=>by have:=EA a;have:=EA b;simp only[eD,T.size];omega
 | .var _=>rfl
 | .nil=>rfl
 | .sym _=>rfl
 | .num _=>rfl
theorem Ez{θ:Int->T}{m:Nat}(hm:1<=m):∀{t:T},(∀u,t.occ u=true->eD (θ u)<=m)->eD (t.ap θ)<=eD t*m
 | .var n,h=>by simpa[T.ap,eD]using h n (by simp[T.occ])
 | .pair a b,h=>by have J:=Ez hm (t:=a) fun u hu=>h u (by simp[T.occ,hu]);have U:=Ez hm (t:=b) fun u hu=>h u (by simp[T.occ,hu]);simp only[T.ap,eD,p0];omega
 | .nil,_=>by simpa[T.ap,eD]using hm
 | .sym _,_=>by simpa[T.ap,eD]using hm
 | .num _,_=>by simpa[T.ap,eD]using hm
theorem ak4{θ:Int->T}{t:T}{u:Int}(h:t.occ u=true):eD (θ u)<=eD (t.ap θ)/\(t.kind≠1->eD (θ u)<eD (t.ap θ)):=by have:=zw θ h;have J:=EA (θ u);have U:=EA (t.ap θ);exact⟨Ω,fun h3=>by have:=this.2 h3;omega⟩
def l2:T->List T
 | .pair a b=>.pair a b::(l2 a++l2 b)
 |t=>[t]
theorem IN(t:T):t∈l2 t:=by cases t<;>simp[l2]
theorem IL{x:T}:∀{t:T},x∈l2 t->eD x<=eD t
 | .pair a b,h=>by
  simp only[l2,fm,hQ]at h;rcases h with rfl|h|h
  ·exact dZ _
  ·have:=IL h;simp only[eD];omega
  ·have:=IL h;simp only[eD];omega
 | .var _,h=>by simp only[l2,iS]at h;rw[h];exact dZ _
 | .nil,h=>by simp only[l2,iS]at h;rw[h];exact dZ _
 | .sym _,h=>by simp only[l2,iS]at h;rw[h];exact dZ _
 | .num _,h=>by simp only[l2,iS]at h;rw[h];exact dZ _
theorem IM{x:T}{v:Int}(ab:x.occ v=true):∀{t:T},x∈l2 t->t.occ v=true
 | .pair a b,h=>by
  simp only[l2,fm,hQ]at h;rcases h with rfl|h|h
  ·exact ab
  ·simp[T.occ,IM ab h]
  ·simp[T.occ,IM ab h]
 | .var _,h=>by simp only[l2,iS]at h;rw[<-h];exact ab
 | .nil,h=>by simp only[l2,iS]at h;rw[<-h];exact ab
 | .sym _,h=>by simp only[l2,iS]at h;rw[<-h];exact ab
 | .num _,h=>by simp only[l2,iS]at h;rw[<-h];exact ab
def rZ(x:T)(z:Int):T->T
 | .pair a b=>if T.pair a b=x then .var z else .pair (rZ x z a) (rZ x z b)
 |t=>if t=x then .var z else t
theorem aot(x:T)(z:Int):rZ x z x= .var z:=by cases x<;>simp[rZ]
theorem Jx{θ:Int->T}{x:T}{z:Int}:∀{t:T},(∀y∈l2 t,y.kind≠1->y.ap θ≠x)->rZ x z (t.ap θ)=t.ap fun u=>rZ x z (θ u)
 | .var n,_=>rfl
 | .pair a b,h=>by have bz:=h (.pair a b) (IN _) (by simp[T.kind]);simp only[T.ap]at bz⊢;simp only[rZ,if_neg bz];rw[Jx (t:=a) fun y aC=>h y (by simp[l2,aC]),Jx (t:=b) fun y aC=>h y (by simp[l2,aC])]
 | .nil,h=>by have bz:=h .nil (IN _) (by simp[T.kind]);simp only[T.ap]at bz⊢;simp[rZ,bz]
 | .sym s,h=>by have bz:=h (.sym s) (IN _) (by simp[T.kind]);simp only[T.ap]at bz⊢;simp[rZ,bz]
 | .num s,h=>by have bz:=h (.num s) (IN _) (by simp[T.kind]);simp only[T.ap]at bz⊢;simp[rZ,bz]
theorem KA{θ:Int->T}{t:T}(h:t.kind≠1):(t.ap θ).kind=t.kind:=by cases t<;>simp_all[T.ap,T.kind]
theorem akI{b:List ai}{E:List (T×T)}(ad:e1 b)(h:∀θ,dR b θ↔ir E θ){v:Int}(az:(aR b v).kind≠1):∃e∈E,∃y,(y∈l2 e.1\/y∈l2 e.2)/\y.kind≠1/\y.ap (aR b)=aR b v:=by
 refine Classical.byContradiction fun cU=>?_;have J:ir E fun u=>rZ (aR b v) 0 (aR b u):=fun e he=>by have lV:=(h (aR b)).1 (uY ad) e he;have a1:=Jx (θ:=aR b) (x:=aR b v) (z:=0) (t:=e.1) fun y aC ae gV=>cU ⟨e,he,y,.inl aC,ae,gV⟩;have bm:=Jx (θ:=aR b) (x:=aR b v) (z:=0) (t:=e.2) fun y aC ae gV=>cU ⟨e,he,y,.inr aC,ae,gV⟩;rw[<-a1,<-bm,lV]
 have U:=(PN ad.asc).1 ((h _).2 J) v;simp only[aot]at U;have h3:=KA (θ:=fun u=>rZ (aR b v) 0 (aR b u)) az;rw[<-U]at h3;exact az (by rw[<-h3];rfl)
theorem LS{V:List Int}(gS:V.Nodup){p q:Int->Bool}(j0:∀w,p w=true->q w=true){u:Int}(hu:u∈V)(bE:q u=true)(bF:p u=false):(V.filter p).length+1<=(V.filter q).length:=by
 have J:(u::V.filter p).Nodup:=List.nodup_cons.2 ⟨fun h=>(by rw[(ia.1 h).2]at bF;cases bF),gS.filter p⟩;refine FW J fun w hw=>?_;rcases fm.1 hw with rfl|hw
 ·exact ia.2 ⟨hu,bE⟩
 ·exact ia.2 ⟨(ia.1 hw).1,j0 w (ia.1 hw).2⟩
def C3(b:List ai)(V:List Int):List Int:=V.filter fun w=>(aR b w).kind !=1
theorem akG{b:List ai}{E:List (T×T)}{V:List Int}{L:Nat}(ad:e1 b)(h:∀θ,dR b θ↔ir E θ)(gS:V.Nodup)(c1:∀e∈E,∀v,(e.1.occ v=true\/e.2.occ v=true)->v∈V)(ft:∀e∈E,eD e.1<=L/\eD e.2<=L)(J:1<=L){v:Int}(az:v∈V):eD (aR b v)<=L ^ (C3 b V).length:=by
 have sU:∀v,(aR b v).kind=1->eD (aR b v)=1:=fun v ae=>by cases e:aR b v<;>simp_all[T.kind,eD]
 have key:∀n v,eD (aR b v)=n->(aR b v).kind≠1->eD (aR b v)<=L ^ ((V.filter fun w=>(aR b w).kind !=1&&decide (eD (aR b w)<eD (aR b v))).length+1):=fun n=>by
  induction n using qA with
  |ind n bN=>
   intro v au ae;obtain⟨e,he,y,aC,ajj,Wq⟩:=akI ad h ae;have sX:eD y<=L:=aC.elim (fun h=>ha (IL h) (ft e he).1) fun h=>ha (IL h) (ft e he).2;have hm:1<=L ^ (V.filter fun w=>(aR b w).kind !=1&&decide (eD (aR b w)<eD (aR b v))).length:=Nat.pow_pos J;have U:=Ez (θ:=aR b) hm (t:=y) fun u hu=>by
    have h3:=(ak4 (θ:=aR b) hu).2 ajj;rw[Wq]at h3;by_cases DS:(aR b u).kind=1
    ·rw[sU u DS];exact hm
    have h4:=bN _ Ω u rfl DS;refine ha h4 (Nat.pow_le_pow_right J ?_);refine LS gS (fun w hw=>?_) (u:=u) (c1 e he u (aC.imp (IM hu) (IM hu))) (by simp[DS,h3]) Ψ;simp only[cr,eN]at hw⊢;exact⟨hw.1,Ω⟩
   rw[Wq]at U;rw[Nat.pow_succ,Nat.mul_comm];exact ha U (rh _ sX)
 by_cases ae:(aR b v).kind=1
 ·rw[sU v ae];exact Nat.pow_pos J
 refine ha (key _ v rfl ae) (Nat.pow_le_pow_right J ?_);refine LS gS (fun w hw=>?_) az (by simp[ae]) Ψ;simp only[cr]at hw;exact hw.1
def lS(θ:Int->T)(l:List b8):Prop:= ∀k∈l,(θ k.v).kind=k.k
def l9(θ:Int->T)(l:List bj):Prop:= ∀m∈l,(θ m.v).has m.s=false
def oL(θ:Int->T)(l:List (List ai)):Prop:= ∀d∈l,¬dR d θ
structure nr (s:br) (θ:Int->T):Prop where
 b:dR s.b θ
 k:lS θ s.k
 m:l9 θ s.m
 d:oL θ s.d
theorem acd{θ:Int->T}{acc a:List b8}{t:T}{k:Int}(he:ib acc t k=some a):lS θ a↔lS θ acc/\(t.ap θ).kind=k:=by
 unfold ib at he;split at he
 ·rename_i n;split at he
  ·rename_i bI ae;split at he
   ·rename_i e;cases he;subst e;exact⟨fun h=>⟨h,h _ (BD ae)⟩,fun h=>h.1⟩
   ·cases he
  ·cases he;constructor
   ·exact fun h=>⟨fun x ab=>h x (zq.2 (.inr ab)),h ⟨n,k⟩ (zq.2 (.inl rfl))⟩
   ·rintro⟨J,U⟩ x ab;rcases zq.1 ab with rfl|ab
    ·exact U
    ·exact J x ab
 ·rename_i aI;split at he
  ·rename_i e;cases he;refine⟨fun h=>⟨h,?_⟩,fun h=>h.1⟩;rw[KA fun J=>?_,e];cases t<;>simp_all[T.kind]
  ·cases he
theorem acb{θ:Int->T}{acc:List b8}{t:T}{k:Int}(he:ib acc t k=none):¬(lS θ acc/\(t.ap θ).kind=k):=by
 rintro⟨J,U⟩;unfold ib at he;split at he
 ·split at he
  ·rename_i bI ae;split at he
   ·cases he
   ·rename_i e;exact e ((J _ (BD ae)).symm.trans U)
  ·cases he
 ·rename_i aI;split at he
  ·cases he
  ·rename_i e;rw[KA fun J=>by cases t<;>simp_all[T.kind]]at U;exact e U
theorem JB{b:List ai}{θ:Int->T}(bg:gO b)(h:dR b θ)(v:Int):(aR b v).ap θ=θ v:=((PN bg).1 h v).symm
theorem Jd{b:List ai}{θ:Int->T}(bg:gO b)(h:dR b θ):∀{l acc:List b8},match fM b l acc with|some a=>lS θ a↔lS θ acc/\lS θ l|none=> ¬(lS θ acc/\lS θ l)
 |[],acc=>by simp[fM,lS]
 |x::l,acc=>by
  simp only[fM];have ab:lS θ (x::l)↔(θ x.v).kind=x.k/\lS θ l:=by simp[lS]
  rw[<-JB bg h x.v]at ab;cases e:ib acc (aR b x.v) x.k with
  |none=>simp only;rw[ab];exact fun h=>acb e ⟨h.1,h.2.1⟩
  |some a=>
   have J:=acd (θ:=θ) e;have U:=Jd bg h (l:=l) (acc:=a);simp only;rw[ab];split
   ·rename_i q eq;rw[eq]at U;simp only at U;rw[U,J,and_assoc]
   ·rename_i eq;rw[eq]at U;simp only at U;rw[J,and_assoc]at U;exact U
theorem Hh{θ:Int->T}{s:List UInt8}:∀{t:T},(t.ap θ).has s=false↔t.has s=false/\∀u,t.occ u=true->(θ u).has s=false
 | .var n=>by simp[T.ap,T.has,T.occ]
 | .pair a b=>by simp only[T.ap,T.has,T.occ,Bool.or_eq_false_iff,lP,Hh (t:=a),Hh (t:=b)];exact⟨fun h=>⟨⟨h.1.1,h.2.1⟩,fun u hu=>hu.elim (h.1.2 u) (h.2.2 u)⟩,fun h=>⟨⟨h.1.1,fun u hu=>h.2 u (.inl hu)⟩,⟨h.1.2,fun u hu=>h.2 u (.inr hu)⟩⟩⟩
 | .nil=>by simp[T.ap,T.has,T.occ]
 | .sym _=>by simp[T.ap,T.occ]
 | .num _=>by simp[T.ap,T.has,T.occ]
theorem acg{θ:Int->T}{acc a:List bj}{t:T}{s:List UInt8}(he:iV acc t s=some a):l9 θ a↔l9 θ acc/\(t.ap θ).has s=false:=by
 have hm:=zp he;have aI:t.has s=false:=by
  unfold iV at he;split at he
  ·cases he
  ·rename_i h;simpa using h
 rw[Hh];constructor
 ·intro h;exact⟨fun x ab=>h x ((hm x).2 (.inl ab)),aI,fun u hu=>h ⟨u,s⟩ ((hm _).2 (.inr ⟨rfl,hu⟩))⟩
 ·rintro⟨J,_,U⟩ x ab;rcases(hm x).1 ab with h3|⟨h3,h4⟩
  ·exact J x h3
  ·rw[h3];exact U _ h4
theorem acf{θ:Int->T}{acc:List bj}{t:T}{s:List UInt8}(he:iV acc t s=none):¬(t.ap θ).has s=false:=by
 rw[Hh];unfold iV at he;split at he
 ·rename_i h;rw[h];simp
 ·cases he
theorem Jf{b:List ai}{θ:Int->T}(bg:gO b)(h:dR b θ):∀{l acc:List bj},match fI b l acc with|some a=>l9 θ a↔l9 θ acc/\l9 θ l|none=> ¬(l9 θ acc/\l9 θ l)
 |[],acc=>by simp[fI,l9]
 |x::l,acc=>by
  simp only[fI];have ab:l9 θ (x::l)↔(θ x.v).has x.s=false/\l9 θ l:=by simp[l9]
  rw[<-JB bg h x.v]at ab;cases e:iV acc (aR b x.v) x.s with
  |none=>simp only;rw[ab];exact fun h=>acf e h.2.1
  |some a=>
   have J:=acg (θ:=θ) e;have U:=Jf bg h (l:=l) (acc:=a);simp only;rw[ab];split
   ·rename_i q eq;rw[eq]at U;simp only at U;rw[U,J,and_assoc]
   ·rename_i eq;rw[eq]at U;simp only at U;rw[J,and_assoc]at U;exact U
theorem NG{b:List ai}{θ:Int->T}(ad:ev b)(h:dR b θ){k:List b8}{m:List bj}(ae:lS θ k)(hm:l9 θ m):∀{l:List (List ai)},(∀d∈l,ev d)->(∀d∈l,mgu b (gf d)=none->¬dR d θ)->match fw b k m l with|some L=>oL θ L↔oL θ l|none=> ¬oL θ l
 |[],_,_=>by simp[fw,oL]
 |d::l,af,kc=>by
  have bN:=NG ad h ae hm (l:=l) (fun e he=>af e (by simp[he])) fun e he=>kc e (by simp[he]);have ab:oL θ (d::l)↔ ¬dR d θ/\oL θ l:=by simp[oL]
  have ahS:∀e∈gf d,e.1.ok=true/\e.2.ok=true:=fun e he=>by obtain⟨c,ao,rfl⟩:=hR.1 he;have:=(af d Ψ).ok c ao;exact⟨by simpa[T.ok]using this.1,this.2⟩
  have skip:¬dR d θ->(match fw b k m l with|some L=>oL θ L↔oL θ (d::l)|none=> ¬oL θ (d::l)):=fun aG=>by
   rw[ab];split
   ·rename_i L e;rw[e]at bN;simp only at bN;rw[bN];exact⟨fun h=>⟨aG,h⟩,fun h=>h.2⟩
   ·rename_i e;rw[e]at bN;simp only at bN;exact fun h=>bN h.2
  simp only[fw];cases hu:mgu b (gf d)with
  |none=>exact skip (kc d Ψ hu)
  |some x=>
   have gA:=ad.mgu ahS hu;have iy:dR d θ->dR x θ:=fun aG=>(pN ad.sol ad.fits hu θ).2 ⟨h,Cv.2 aG⟩;simp only;by_cases ja:fM x k []=none\/fI x m []=none
   ·rw[if_pos ja];refine skip fun aG=>?_;rcases ja with e|e
    ·have:=Jd gA.sol.asc (iy aG) (l:=k) (acc:=[]);rw[e]at this;exact this ⟨by simp[lS],ae⟩
    ·have:=Jf gA.sol.asc (iy aG) (l:=m) (acc:=[]);rw[e]at this;exact this ⟨by simp[l9],hm⟩
   rw[if_neg ja];by_cases au:dN b x=[]
   ·rw[if_pos au];simp only;rw[ab];rintro⟨J,_⟩;have:b=x:=(N8 ad hu).1 au;subst this;exact J (Cv.1 ((pN ad.sol ad.fits hu θ).1 h).2)
   ·rw[if_neg au];have heq:dR (dN b x) θ↔dR d θ:=by have a1:=pN ad.sol ad.fits hu θ;have bm:=pN ad.sol ad.fits (EG ad.sol ad.fits hu) θ;rw[Cv]at a1 bm;exact⟨fun b9=>(a1.1 (bm.2 ⟨h,b9⟩)).2,fun b9=>(bm.1 (a1.2 ⟨h,b9⟩)).2⟩
    cases e:fw b k m l with
    |none=>rw[e]at bN;simp only[Option.map_none]at bN⊢;rw[ab];exact fun h=>bN h.2
    |some L=>
     rw[e]at bN;simp only[oK]at bN⊢;have oZ:oL θ (dN b x::L)↔ ¬dR (dN b x) θ/\oL θ L:=by simp[oL]
     rw[ab,oZ,heq,bN]
theorem zu{d e:List ai}(he:e1 e):kE d e=true↔∀θ,dR e θ->dR d θ:=by
 constructor
 ·intro h θ fY c ao;have J:=of_decide_eq_true (fV.1 h c ao);rw[<-JB he.asc fY c.v,J,Au];exact nY fun u _=>JB he.asc fY u
 ·intro h;rw[kE,fV];intro c ao;rw[rS,eN];exact h (aR e) (uY he) c ao
theorem agn{α:Type}{V:List α}(gS:V.Nodup){p q:α->Bool}(j0:∀w,p w=true->q w=true){u:α}(hu:u∈V)(bE:q u=true)(bF:p u=false):(V.filter p).length+1<=(V.filter q).length:=by
 have J:(u::V.filter p).Nodup:=List.nodup_cons.2 ⟨fun h=>(by rw[(ia.1 h).2]at bF;cases bF),gS.filter p⟩;refine FW J fun w hw=>?_;rcases fm.1 hw with rfl|hw
 ·exact ia.2 ⟨hu,bE⟩
 ·exact ia.2 ⟨(ia.1 hw).1,j0 w (ia.1 hw).2⟩
theorem akL{L:List (List ai)}(af:∀d∈L,e1 d):∀(n:Nat) (e:List ai),e∈L->((asc eE L).filter fun d=>kE d e&& !decide (d=e)).length=n->∃d∈jL L,kE d e=true:=fun n=>by
 induction n using qA with
 |ind n bN=>
  intro e he au;by_cases ae:iL L e=true
  ·exact⟨e,rT.2 ⟨he,ae⟩,(zu (af e he)).2 fun _ h=>h⟩
  obtain⟨d,aG,J⟩:∃d∈L,(decide (d=e)|| !kE d e)=false:=by simpa[iL]using ae
  rw[Bool.or_eq_false_iff]at J;have cA:d≠e:=of_decide_eq_false J.1;have aW:kE d e=true:=by simpa using J.2
  have Mn:=(zu (af e he)).1 aW;have bs:=agn (V:=asc eE L) ((Gi lJ L).nodup lJ) (p:=fun z=>kE z d&& !decide (z=d)) (q:=fun z=>kE z e&& !decide (z=e)) (u:=d) (fun z bd=>by simp only[cr,oG,gD]at bd⊢;have HP:=(zu (af d aG)).1 bd.1;refine⟨(zu (af e he)).2 fun θ h=>HP θ (Mn θ h),fun ajk=>cA ?_⟩;subst ajk;exact aah (af d aG) (af z he) fun θ=>⟨HP θ,Mn θ⟩) ((NW _ _).2 aG) (by simp[aW,cA]) Ψ
  obtain⟨z,bd,HP⟩:=bN _ Ω d aG rfl;have as0:=(rT.1 bd).1;exact⟨z,bd,(zu (af e he)).2 fun θ h=>(zu (af d aG)).1 HP θ (Mn θ h)⟩
theorem XN{L:List (List ai)}(af:∀d∈L,e1 d)(θ:Int->T):oL θ (jL L)↔oL θ L:=by
 constructor
 ·intro h e he kR;obtain⟨d,aG,aW⟩:=akL af _ e he rfl;exact h d aG ((zu (af e he)).1 aW θ kR)
 ·exact fun h d aG=>h d (rT.1 aG).1
theorem NR{θ:Int->T}{k:List b8}{m:List bj}(ae:lS θ k):l9 θ (m.filter (iO k))↔l9 θ m:=by
 constructor
 ·intro h x ab;by_cases aN:iO k x=true
  ·exact h x (ia.2 ⟨ab,aN⟩)
  ·have h3:jd k x.v=some 3:=by simpa[iO]using aN
   have h4:=ae _ (BD h3);simp only at h4;cases e:θ x.v<;>simp_all[T.kind,T.has]
 ·exact fun h x ab=>h x (ia.1 ab).1
theorem PE{s t:br}{θ:Int->T}(h:gX s)(kc:∀d∈s.d,dR s.b θ->mgu s.b (gf d)=none->¬dR d θ)(he:fy s=some t):nr t θ↔nr s θ:=by
 unfold fy at he;split at he
 ·cases he
 rename_i k ae;split at he
 ·cases he
 rename_i m hm;split at he
 ·cases he
 rename_i L ft;split at he;rotate_left
 ·cases he
 cases he;have sD:∀d∈L,e1 d:=fun d aG=>(Eu h.b h.d ft d aG).sol;have a1:=fun ad=>Jd (θ:=θ) h.b.sol.asc ad (l:=s.k) (acc:=[]);have bm:=fun ad=>Jf (θ:=θ) h.b.sol.asc ad (l:=s.m) (acc:=[]);simp only[ae,hm]at a1 bm;have bW:=fun ad ae hm=>NG (θ:=θ) h.b ad (k:=k) (m:=m.filter (iO k)) ae hm h.d fun d aG=>kc d aG ad;simp only[ft]at bW;constructor
 ·rintro⟨J,U,h3,h4⟩;simp only at J U h3 h4;exact⟨J,((a1 J).1 U).2,((bm J).1 ((NR U).1 h3)).2,(bW J U h3).1 ((XN sD θ).1 h4)⟩
 ·rintro⟨J,U,h3,h4⟩;have aS:lS θ k:=(a1 J).2 ⟨by simp[lS],U⟩;have m1:l9 θ m:=(bm J).2 ⟨by simp[l9],h3⟩;have m2:=(NR aS).2 m1;exact⟨J,aS,m2,(XN sD θ).2 ((bW J aS m2).2 h4)⟩
theorem PC{s:br}{θ:Int->T}(h:gX s)(aG:s.d.length<=30)(kc:∀d∈s.d,dR s.b θ->mgu s.b (gf d)=none->¬dR d θ)(he:fy s=none):¬nr s θ:=by
 rintro⟨J,U,h3,h4⟩;have a1:=Jd (θ:=θ) h.b.sol.asc J (l:=s.k) (acc:=[]);have bm:=Jf (θ:=θ) h.b.sol.asc J (l:=s.m) (acc:=[]);unfold fy at he;split at he
 ·rename_i e;rw[e]at a1;exact a1 ⟨by simp[lS],U⟩
 rename_i k ae;rw[ae]at a1;have aS:lS θ k:=a1.2 ⟨by simp[lS],U⟩;split at he
 ·rename_i e;rw[e]at bm;exact bm ⟨by simp[l9],h3⟩
 rename_i m hm;rw[hm]at bm;have m2:=(NR aS).2 (bm.2 ⟨by simp[l9],h3⟩);have bW:=NG (θ:=θ) h.b J aS m2 h.d fun d aG=>kc d aG J;split at he
 ·rename_i e;rw[e]at bW;exact bW h4
 rename_i L ft;split at he
 ·cases he
 ·rename_i lX;have:=Et ft;have:=XL L;omega
theorem G8:∀{t:T},t.gnd=true->∀w,t.occ w=false
 | .var _,h=>by simp[T.gnd]at h
 | .pair a b,h=>by simp only[T.gnd,cr]at h;intro w;simp[T.occ,G8 h.1 w,G8 h.2 w]
 | .nil,_=>fun _=>rfl
 | .sym _,_=>fun _=>rfl
 | .num _,_=>fun _=>rfl
theorem ahi{t:T}(h:t.gnd=true)(θ:Int->T):t.ap θ=t:=Gf fun v az=>by rw[G8 h v]at az;cases az
def s6(n:Int)(t:T):Prop:= ∀u,t.occ u=true->0<=u/\u<n
theorem k0.solved{n:Int}{v:List ai}(az:k0 n v):e1 v:=⟨az.asc,fun b ad w hw=>(by rw[G8 (az.gnd b ad) w]at hw;cases hw),fun b ad w hw=>(by have:=az.gnd b ad;rw[hw]at this;cases this)⟩
theorem k0.sol{n:Int}{v:List ai}(az:k0 n v){θ:Int->T}(h:dR v θ){u:Int}(bz:0<=u)(J:u<n):θ u=aR v u:=by obtain⟨c,ao,aq,aF⟩:=az.get bz J;have hm:=eF ao;have h3:=h c hm;have h4:=az.at' _ _ ao;rw[Int.toNat_of_nonneg bz]at h4;rw[<-h4,h3,ahi (az.gnd c hm),h4,aF]
theorem Qs{n:Int}{v:List ai}(az:k0 n v){b:List ai}{E:List (T×T)}(ad:e1 b)(aN:ga b)(mO:∀c∈b,(0<=c.v/\c.v<n)/\s6 n c.t)(c1:∀e∈E,s6 n e.1/\s6 n e.2)(h:mgu b E=none)(af:dR b (aR v)):¬ir E (aR v):=fun kR=>by
 have J:=xI ad aN E;rw[h]at J;refine J v az.solved (fun θ fY=>⟨fun c ao=>?_,fun e he=>?_⟩) az.fits
 ·obtain⟨⟨bA,a2⟩,a3⟩:=mO c ao;rw[az.sol fY bA a2,af c ao];exact nY fun u hu=>(az.sol fY (a3 u hu).1 (a3 u hu).2).symm
 ·rw[nY (t:=e.1) fun u hu=>az.sol fY ((c1 e he).1 u hu).1 ((c1 e he).1 u hu).2,nY (t:=e.2) fun u hu=>az.sol fY ((c1 e he).2 u hu).1 ((c1 e he).2 u hu).2];exact kR e he
theorem Ec{n:Int}{t:T}(h:t.ok=true)(ad:wM t n):s6 n t:=fun u hu=>⟨Ym h hu,ad u hu⟩
theorem Bx{n:Int}{l:List ai}(h:kW l)(ad:oO l n):∀c∈l,(0<=c.v/\c.v<n)/\s6 n c.t:=fun c ao=>⟨⟨(h c ao).1.1,(ad c ao).1⟩,Ec (h c ao).2 (ad c ao).2⟩
theorem ajr{n:Int}{l:List ai}(h:kW l)(ad:oO l n):∀e∈gf l,s6 n e.1/\s6 n e.2:=fun e he=>by obtain⟨c,ao,rfl⟩:=hR.1 he;obtain⟨bA,a2⟩:=Bx h ad c ao;exact⟨fun u hu=>by simp[T.occ]at hu;omega,a2⟩
theorem gX.none{s:br}(h:gX s){v:List ai}(az:k0 s.n v):∀d∈s.d,dR s.b (aR v)->mgu s.b (gf d)=none->¬dR d (aR v):=fun d aG af hm jG=>Qs az h.b.sol h.b.fits (Bx h.b.ok h.bb) (ajr (h.d d aG).ok (h.db d aG)) hm af (Cv.2 jG)
def aab(s:br)(v:List ai):Prop:= ∀d∈s.d,∀c∈d,(c.t.ap (aR v)).size<=5000
theorem TM{v d:List ai}(h:∀c∈d,(c.t.ap (aR v)).size<=5000):pq v d=true↔ ¬dR d (aR v):=by
 rw[pq,List.any_eq_true];constructor
 ·rintro⟨c,ao,J⟩ af;simp only[um,cr,oG,gD]at J;exact J.2 (af c ao)
 ·intro af;refine Classical.byContradiction fun cU=>af fun c ao=>Classical.byContradiction fun cA=>cU ⟨c,ao,?_⟩;simp only[um,cr,oG,gD,eN];exact⟨h c ao,cA⟩
theorem ao7{s:br}{v:List ai}(aN:ga v)(af:aab s v):nc s v↔nr s (aR v):=by
 constructor
 ·rintro⟨J,U,h3,h4⟩;rw[fV]at J U h3 h4;refine⟨fun c ao=>?_,fun k ae=>of_decide_eq_true (h3 k ae),fun m hm=>by simpa using h4 m hm,fun d aG=>(TM (af d aG)).1 (U d aG)⟩;have:=J c ao;simp only[rU,cr,eN]at this;exact this.2.symm
 ·rintro⟨J,U,h3,h4⟩;refine⟨fV.2 fun c ao=>?_,fV.2 fun d aG=>(TM (af d aG)).2 (h4 d aG),fV.2 fun k ae=>hb (U k ae),fV.2 fun m hm=>by simpa using h3 m hm⟩;simp only[rU,cr,eN];rw[<-J c ao];exact⟨PG aN c.v,rfl⟩
theorem T6{s:br}(h:gX s){v:List ai}(az:k0 s.n v){x y:T}(ab:x.fit=true)(aC:y.fit=true)(bx:dK s.n x=true)(fi:dK s.n y=true):
  match jC s x y with|some t=>nr t (aR v)↔nr s (aR v)/\x.ap (aR v)=y.ap (aR v)|none=>s.d.length<=30->¬(nr s (aR v)/\x.ap (aR v)=y.ap (aR v)):=by
 have c1:∀e∈[(x,y)],s6 s.n e.1/\s6 s.n e.2:=fun e he=>by rw[iS.1 he];exact⟨Ec (T.fit_ok ab) (sj.1 bx),Ec (T.fit_ok aC) (sj.1 fi)⟩
 unfold jC;cases hu:mgu s.b [(x,y)]with
 |none=>simp only[Option.bind_none];rintro _ ⟨J,U⟩;refine Qs az h.b.sol h.b.fits (Bx h.b.ok h.bb) c1 hu J.b ?_;intro e he;rw[iS.1 he];exact U
 |some b=>
  have ad:=h.bind ab aC bx fi hu;have iy:=pN h.b.sol h.b.fits hu (aR v);have U:nr {s with b:=b} (aR v)↔nr s (aR v)/\x.ap (aR v)=y.ap (aR v):=by
   constructor
   ·rintro⟨a1,bm,bW,cZ⟩;have:=iy.1 a1;exact⟨⟨this.1,bm,bW,cZ⟩,this.2 (x,y) Ψ⟩
   ·rintro⟨⟨a1,bm,bW,cZ⟩,c6⟩;exact⟨iy.2 ⟨a1,fun e he=>by rw[iS.1 he];exact c6⟩,bm,bW,cZ⟩
  simp only[jy];cases e:fy {s with b:=b}with
  |none=>exact fun aG=>by rw[<-U];exact PC ad aG (ad.none az) e
  |some t=>exact(PE ad (ad.none az) e).trans U
theorem TT{s:br}(h:gX s){v:List ai}(az:k0 s.n v){x y:T}(ab:x.fit=true)(aC:y.fit=true)(bx:dK s.n x=true)(fi:dK s.n y=true):
  match jV s x y with|some t=>nr t (aR v)↔nr s (aR v)/\x.ap (aR v)≠y.ap (aR v)|none=>s.d.length<=29->¬(nr s (aR v)/\x.ap (aR v)≠y.ap (aR v)):=by
 have c1:∀e∈[(x,y)],s6 s.n e.1/\s6 s.n e.2:=fun e he=>by rw[iS.1 he];exact⟨Ec (T.fit_ok ab) (sj.1 bx),Ec (T.fit_ok aC) (sj.1 fi)⟩
 unfold jV;cases hu:mgu s.b [(x,y)]with
 |none=>
  have cA:nr s (aR v)->x.ap (aR v)≠y.ap (aR v):=fun J U=>Qs az h.b.sol h.b.fits (Bx h.b.ok h.bb) c1 hu J.b fun e he=>by rw[iS.1 he];exact U
  simp only;cases e:fy s with
  |none=>exact fun aG J=>PC h Ω (h.none az) e J.1
  |some t=>exact(PE h (h.none az) e).trans ⟨fun J=>⟨J,cA J⟩,fun J=>J.1⟩
 |some b=>
  have iy:=pN h.b.sol h.b.fits hu (aR v);have gV:ir [(x,y)] (aR v)↔x.ap (aR v)=y.ap (aR v):=by simp[ir]
  simp only;by_cases au:dN s.b b=[]
  ·rw[if_pos au];rintro _ ⟨J,U⟩;have:s.b=b:=(N8 h.b hu).1 au;rw[<-this]at iy;exact U (gV.1 (iy.1 J.b).2)
  ·rw[if_neg au];have ad:=h.dif ab aC bx fi hu;have bm:=pN h.b.sol h.b.fits (EG h.b.sol h.b.fits hu) (aR v);rw[Cv]at bm;have hw:dR s.b (aR v)->(dR (dN s.b b) (aR v)↔x.ap (aR v)=y.ap (aR v)):=fun J=>⟨fun b9=>gV.1 (iy.1 (bm.2 ⟨J,b9⟩)).2,fun b9=>(bm.1 (iy.2 ⟨J,gV.2 b9⟩)).2⟩
   have U:nr {s with d:=s.d++[dN s.b b]} (aR v)↔nr s (aR v)/\x.ap (aR v)≠y.ap (aR v):=by
    constructor
    ·rintro⟨a1,bm,bW,cZ⟩;exact⟨⟨a1,bm,bW,fun d aG=>cZ d (List.mem_append_left _ aG)⟩,fun b9=>cZ (dN s.b b) Ψ ((hw a1).2 b9)⟩
    ·rintro⟨⟨a1,bm,bW,cZ⟩,c6⟩;refine⟨a1,bm,bW,fun d aG=>?_⟩;rcases hQ.1 aG with aG|aG
     ·exact cZ d aG
     ·rw[iS.1 aG];exact fun b9=>c6 ((hw a1).1 b9)
   cases e:fy {s with d:=s.d++[dN s.b b]}with
   |none=>exact fun aG=>by rw[<-U];exact PC ad (by simp only[pc,List.length_singleton];omega) (ad.none az) e
   |some t=>exact(PE ad (ad.none az) e).trans U
theorem qx:e1 []:=⟨Ψ,Ψ,Ψ⟩
theorem qd:ga []:=by simp[ga]
def iQ:T->Bool
 | .sym s=>s.head? !=some 119
 | .pair a b=>iQ a&&iQ b
 |_=>true
structure eqP (V:List Int) (L:Nat) (e:T×T):Prop where
 l:eD e.1<=L/\eD e.2<=L
 v:∀v,(e.1.occ v=true\/e.2.occ v=true)->v∈V
 w:iQ e.1=true/\iQ e.2=true
structure jO (V:List Int) (L:Nat) (E:List (T×T)) (s:br):Prop where
 e:∀e∈E,eqP V L e
 b:mgu [] E=some s.b
 d:∀d∈s.d,∃e x,eqP V L e/\mgu [] (E++[e])=some x/\d=dN s.b x
theorem Xg{b:List ai}{k:List b8}{m:List bj}:∀{l L:List (List ai)},fw b k m l=some L->∀w∈L,∃d∈l,∃z,mgu b (gf d)=some z/\w=dN b z
 |[],L,h=>by simp only[fw,dE]at h;rw[<-h];simp
 |d::l,L,h=>by
  have go:∀{L},fw b k m l=some L->∀w∈L,∃e∈d::l,∃z,mgu b (gf e)=some z/\w=dN b z:=fun h w hw=>by obtain⟨e,J,U⟩:=Xg h w hw;exact⟨e,pd _ J,U⟩
  simp only[fw]at h;split at h
  ·exact go h
  ·rename_i x ab;split at h
   ·exact go h
   ·split at h
    ·cases h
    ·rw[gv]at h;obtain⟨tJ,J,rfl⟩:=h;intro w hw;rcases fm.1 hw with rfl|hw
     ·exact⟨d,Ψ,x,ab,rfl⟩
     ·exact go J w hw
theorem aoK{s t:br}(he:fy s=some t):t.b=s.b/\∀w∈t.d,∃d∈s.d,∃z,mgu s.b (gf d)=some z/\w=dN s.b z:=by
 unfold fy at he;split at he
 ·cases he
 split at he
 ·cases he
 split at he
 ·cases he
 rename_i L ft;split at he
 ·cases he;exact⟨rfl,fun w hw=>Xg ft w (rT.1 hw).1⟩
 ·cases he
theorem E2{V:List Int}{L:Nat}{E nq:List (T×T)}{s t:br}{b0:List ai}(aht:∀e∈nq,eqP V L e)(sG:mgu [] E=some b0)(ad:mgu [] nq=some s.b)(mU:∀θ,dR s.b θ->dR b0 θ)(aG:∀d∈s.d,∃e x,eqP V L e/\mgu [] (E++[e])=some x/\d=dN b0 x)(he:fy s=some t):jO V L nq t:=by obtain⟨aq,aF⟩:=aoK he;obtain⟨s0,f0⟩:=q5 qx qd sG;obtain⟨s1,f1⟩:=q5 qx qd ad;refine⟨aht,by rw[aq];exact ad,fun w hw=>?_⟩;obtain⟨d,fC,z,bd,rfl⟩:=aF w hw;obtain⟨e,x,xe,ab,rfl⟩:=aG d fC;refine⟨e,z,xe,?_,by rw[aq]⟩;rw[Ip qx qd,sG,jy]at ab;rw[Ip qx qd,ad,jy,<-bd];refine qo (Aq (fun θ=>and_congr_right fun J=>?_) (xI s1 f1 (gf (dN b0 x))));have a1:=pN s0 f0 ab θ;have bm:=pN s0 f0 (EG s0 f0 ab) θ;have bz:=mU θ J;exact⟨fun h=>(a1.1 (bm.2 ⟨bz,h⟩)).2,fun h=>(bm.1 (a1.2 ⟨bz,h⟩)).2⟩
theorem ani(V:List Int)(L:Nat)(n:Int):jO V L [] ⟨n,[],[],[],[]⟩:=⟨Ψ,EH qx qd,Ψ⟩
theorem OE{V:List Int}{L:Nat}{E:List (T×T)}{s t:br}(h:jO V L E s){x y:T}(ab:eqP V L (x,y))(he:jC s x y=some t):jO V L (E++[(x,y)]) t:=by
 unfold jC at he;obtain⟨b,J,U⟩:=ji.1 he;obtain⟨s0,f0⟩:=q5 qx qd h.b;refine E2 (s:={s with b:=b}) (fun e he=>?_) h.b ?_ (fun θ fY=>((pN s0 f0 J θ).1 fY).1) h.d U
 ·rcases hQ.1 he with he|he
  ·exact h.e e he
  ·rw[iS.1 he];exact ab
 ·rw[Ip qx qd,h.b,jy];exact J
theorem OD{V:List Int}{L:Nat}{E:List (T×T)}{s t:br}(h:jO V L E s){x y:T}(ab:eqP V L (x,y))(he:jV s x y=some t):jO V L E t:=by
 unfold jV at he;cases hu:mgu s.b [(x,y)]with
 |none=>rw[hu]at he;exact E2 h.e h.b h.b (fun _ h=>h) h.d he
 |some b=>
  rw[hu]at he;simp only at he;split at he
  ·cases he
  ·refine E2 (s:={s with d:=s.d++[dN s.b b]}) h.e h.b h.b (fun _ h=>h) (fun d aG=>?_) he;rcases hQ.1 aG with aG|aG
   ·exact h.d d aG
   ·exact⟨(x,y),b,ab,by rw[Ip qx qd,h.b,jy];exact hu,iS.1 aG⟩
theorem anj{V:List Int}{L:Nat}{E:List (T×T)}{s t:br}(h:jO V L E s){x:T}{k:Int}(he:uG s x k=some t):jO V L E t:=by
 unfold uG at he;split at he
 ·obtain⟨l,J,U⟩:=ji.1 he;exact E2 (s:={s with k:=l}) h.e h.b h.b (fun _ h=>h) h.d U
 ·cases he
theorem ank{V:List Int}{L:Nat}{E:List (T×T)}{s t:br}(h:jO V L E s){x:T}{g:List UInt8}(he:uN s x g=some t):jO V L E t:=by
 unfold uN at he;split at he
 ·obtain⟨l,J,U⟩:=ji.1 he;exact E2 (s:={s with m:=l}) h.e h.b h.b (fun _ h=>h) h.d U
 ·cases he
theorem aaf(θ:Int->T):dR [] θ:=fun _ h=>by simp at h
theorem XG{V:List Int}{L:Nat}{E:List (T×T)}{b:List ai}(gS:V.Nodup)(J:1<=L)(c1:∀e∈E,eqP V L e)(ad:mgu [] E=some b){v:Int}(az:v∈V):eD (aR b v)<=L ^ (C3 b V).length:=by refine akG (q5 qx qd ad).1 (fun θ=>?_) gS (fun e he=>(c1 e he).v) (fun e he=>(c1 e he).l) J az;rw[pN qx qd ad θ];exact⟨fun h=>h.2,fun h=>⟨aaf θ,h⟩⟩
theorem Rj(b:List ai)(V:List Int):(C3 b V).length<=V.length:=List.length_filter_le _ _
theorem jO.b_lv{V:List Int}{L:Nat}{E:List (T×T)}{s:br}(h:jO V L E s)(gS:V.Nodup)(J:1<=L){v:Int}(az:v∈V):eD (aR s.b v)<=L ^ V.length:=ha (XG gS J h.e h.b az) (Nat.pow_le_pow_right J (Rj _ _))
theorem jO.d_lv{V:List Int}{L:Nat}{E:List (T×T)}{s:br}(h:jO V L E s)(gS:V.Nodup)(J:1<=L){d:List ai}(aG:d∈s.d){c:ai}(ao:c∈d)(ahQ:c.v∈V)(ahI:∀u,c.t.occ u=true->u∈V):eD c.t<=L ^ V.length/\(∀u,c.t.occ u=true->eD c.t*L<=L ^ V.length):=by
 obtain⟨e,x,he,ab,rfl⟩:=h.d d aG;have c1:∀a∈E++[e],eqP V L a:=fun a bg=>by
  rcases hQ.1 bg with bg|bg
  ·exact h.e a bg
  ·rw[iS.1 bg];exact he
 have kf:=(ia.1 ao).1;have gA:=(q5 qx qd ab).1;have aq:aR x c.v=c.t:=by unfold aR;rw[pn gA.asc kf];rfl
 have U:=XG gS J c1 ab ahQ;rw[aq]at U;refine⟨ha U (Nat.pow_le_pow_right J (Rj _ _)),fun u hu=>?_⟩;have qU:=gA.free c kf u hu;have DS:(aR x u).kind=1:=by unfold aR;rw[qU];rfl
 have h3:(C3 x V).length+1<=V.length:=by have:=LS gS (p:=fun w=>(aR x w).kind !=1) (q:=fun _=>true) (fun _ _=>rfl) (ahI u hu) rfl (by simp[DS]);rwa[List.filter_eq_self.2 fun _ _=>rfl]at this
 have h4:L ^ ((C3 x V).length+1)<=L ^ V.length:=Nat.pow_le_pow_right J h3;rw[Nat.pow_succ]at h4;exact ha (rh _ U) h4
structure AK (n:Int) (s:br):Prop where
 ok:j3 s
 n:s.n=n
 t:kG [[97],[98]] s.m
theorem AK.tg{n:Int}{s:br}(h:AK n s):Cx s.m:=⟨_,Ψ,h.t⟩
theorem Fq{G:List (List UInt8)}{s t:br}(hm:kG G s.m)(he:fy s=some t):kG G t.m:=by
 unfold fy at he;split at he
 ·cases he
 ·split at he
  ·cases he
  ·rename_i m e;split at he
   ·cases he
   ·split at he
    ·have U:=Jg hm (fun x ab=>by simp at ab) e;have h3:=eZ he;rw[<-h3];exact P0 U
    ·cases he
theorem Fp{s t:br}(h:gX s)(he:fy s=some t):t.n=s.n:=(zV h he).2.1
noncomputable def qD(s:br)(kd:Int)(x y:T)(k:Int)(g:List UInt8):Option br:=if kd=0 then jC s x y else if kd=1 then jV s x y else if kd=2 then uG s x k else uN s x g
theorem Ks{n:Int}{s t:br}(h:AK n s){kd:Int}{x y:T}{k:Int}{g:List UInt8}(ab:x.fit=true)(aC:y.fit=true)(bx:dK n x=true)(fi:dK n y=true)(aW:g∈([[97],[98]]:List (List UInt8)))(he:qD s kd x y k g=some t):AK n t:=by
 obtain⟨J,U,h3⟩:=h;subst U;have Hn:iK g=true:=by simp only[fm,List.mem_nil_iff,or_false]at aW;rcases aW with rfl|rfl<;>decide
 unfold qD at he;split at he
 ·refine⟨adm J.1 ab aC bx fi he,?_,?_⟩
  ·unfold jC at he;obtain⟨b,aq,aF⟩:=ji.1 he;exact Fp (s:={s with b:=b}) (J.1.bind ab aC bx fi aq) aF
  ·unfold jC at he;obtain⟨b,aq,aF⟩:=ji.1 he;exact Fq (s:={s with b:=b}) h3 aF
 split at he
 ·refine⟨ac2 J.1 ab aC bx fi he,?_,?_⟩;all_goals unfold jV at he
  all_goals
   cases hm:mgu s.b [(x,y)]with
   |none=>
    rw[hm]at he
    first|exact Fp J.1 he|exact Fq h3 he
   |some b=>
    rw[hm]at he
    simp only at he
    split at he
    ·cases he
    ·first|exact Fp (s:={s with d:=s.d++[dN s.b b]}) (J.1.dif ab aC bx fi hm) he|exact Fq (s:={s with d:=s.d++[dN s.b b]}) h3 he
 split at he
 ·refine⟨akb J.1 ab bx he,?_,?_⟩;all_goals unfold uG at he
  all_goals split at he
  any_goals (cases he;done)
  all_goals rename_i g0
  all_goals obtain⟨l,aq,aF⟩:=ji.1 he
  ·exact Fp (s:={s with k:=l}) (J.1.knd ab bx g0.1 aq) aF
  ·exact Fq (s:={s with k:=l}) h3 aF
 ·refine⟨akR J.1 ab bx Hn he,?_,?_⟩;all_goals unfold uN at he
  all_goals split at he
  any_goals (cases he;done)
  all_goals obtain⟨l,aq,aF⟩:=ji.1 he
  ·exact Fp (s:={s with m:=l}) (J.1.mrk ab bx Hn aq) aF
  ·exact Fq (s:={s with m:=l}) (CY h3 aW aq) aF
theorem T1{n:Int}(bz:0<=n)(J:n<=100000):j3 ⟨n,[],[],[],[]⟩:=by
 refine⟨⟨⟨bz,J⟩,⟨by simp[kW],⟨Ψ,Ψ,Ψ⟩,by simp[ga]⟩,Ψ,⟨Ψ,Ψ⟩,⟨Ψ,by simp[hS]⟩,by simp[oO],Ψ,Ψ,Ψ⟩,?_⟩;have:jL []=[]:=List.eq_nil_iff_forall_not_mem.2 fun x ab=>by simp[rT]at ab
 simp[fy,fM,fI,fw,this]
def qm(n:Nat):List Int:=(List.range n).map Int.ofNat
theorem HU(n:Nat):(qm n).length=n:=by simp[qm]
def x5(i:Int):List UInt8:=if i=0 then [97]else [98]
theorem apq(i:Int):x5 i∈([[97],[98]]:List (List UInt8)):=by unfold x5;split<;>simp
noncomputable def zZ(n:Int)(s:br)(c:dB):br×dB:=
 ((qD s ((eg 3 n c).2.below 4) (eg 3 n c).1 (eg 5 n ((eg 3 n c).2.belowC 4)).1 (2+(eg 5 n ((eg 3 n c).2.belowC 4)).2.below 2) (x5 (((eg 5 n ((eg 3 n c).2.belowC 4)).2.belowC 2).below 2))).getD s,
  ((eg 5 n ((eg 3 n c).2.belowC 4)).2.belowC 2).belowC 2)
noncomputable def qa(n:Int):Nat->br->dB->br×dB
 |0,s,c=>(s,c)
 |k+1,s,c=>qa n k (zZ n s c).1 (zZ n s c).2
theorem Re(k:Int):eD (si k)=1:=by
 unfold si;split
 ·rfl
 ·split<;>rfl
theorem ac4(vars:Int){n:Nat}(au:n<=2)(c:dB):eD (eg n vars c).1=1:=by
 rw[eg,if_neg Ω];split
 ·rfl
 ·exact Re _
theorem ac5(vars:Int){n:Nat}(au:n<=5)(c:dB):eD (eg n vars c).1<=2:=by
 rw[eg];split
 ·simp only[eD,ac4 vars (show n/2<=2 by omega)];omega
 ·split
  ·simp[eD]
  ·rw[Re];omega
structure qE (n:Int) (t:T):Prop where
 f:t.fit=true
 b:dK n t=true
 l:eD t<=2
 o:∀v,t.occ v=true->0<=v/\v<n
 w:iQ t=true
theorem acH(k:Int):iQ (si k)=true:=by
 unfold si;split
 ·rfl
 ·split
  ·generalize (k-2).toNat=j;rcases j with _|_|_|j<;>rfl
  ·rfl
theorem ac6(vars:Int)(n:Nat):∀c:dB,iQ (eg n vars c).1=true:=by
 induction n using qA with
 |ind n bN=>
  intro c;rw[eg];split
  ·simp only[iQ,cr];exact⟨bN _ Ω _,bN _ Ω _⟩
  ·split
   ·rfl
   ·exact acH _
theorem yD{n:Int}(au:n<=100001){z:Nat}(bd:z<=5)(c:dB):qE n (eg z n c).1:=by obtain⟨J,U,h3⟩:=ac3 n au z c;refine⟨by simp only[T.fit,cr,eN];exact⟨J,by split at h3<;>omega⟩,sj.2 fun v az=>(U v az).2,ac5 n bd c,U,ac6 n z c⟩
theorem BO{n:Nat}{v:Int}:v∈qm n↔0<=v/\v<n:=by
 simp only[qm,hR,List.mem_range];constructor
 ·rintro⟨a,h,rfl⟩;exact⟨sd a,by simpa using h⟩
 ·intro h;exact⟨v.toNat,Ω,by simp;omega⟩
theorem Ng(n:Nat):(qm n).Nodup:=by unfold qm;rw[List.nodup_iff_pairwise_ne,List.pairwise_map];exact List.pairwise_lt_range.imp fun h e=>by have:=avw e;omega
structure lD (n:Nat) (K:Nat) (S:br):Prop where
 s:AK n S
 k:S.d.length<=K
 p:∃E,jO (qm n) 2 E S
theorem Fo{s t:br}(he:fy s=some t):t.d.length<=s.d.length:=by
 unfold fy at he;split at he
 ·cases he
 split at he
 ·cases he
 split at he
 ·cases he
 rename_i L ft;split at he
 ·have:=Et ft;have:=XL L;rw[<-eZ he];simp only at*;omega
 ·cases he
theorem acj{s t:br}{kd:Int}{x y:T}{k:Int}{g:List UInt8}(he:qD s kd x y k g=some t):t.d.length<=s.d.length+1:=by
 unfold qD at he;split at he
 ·unfold jC at he;obtain⟨b,aq,aF⟩:=ji.1 he;have:=Fo aF;simp only at this;omega
 split at he
 ·unfold jV at he;split at he
  ·have:=Fo he;omega
  ·split at he
   ·cases he
   ·have:=Fo he;simp only[pc,List.length_singleton]at this;omega
 split at he
 ·unfold uG at he;split at he
  ·obtain⟨b,aq,aF⟩:=ji.1 he;have:=Fo aF;simp only at this;omega
  ·cases he
 ·unfold uN at he;split at he
  ·obtain⟨b,aq,aF⟩:=ji.1 he;have:=Fo aF;simp only at this;omega
  ·cases he
theorem ack{V:List Int}{L:Nat}{E:List (T×T)}{s t:br}(h:jO V L E s){kd:Int}{x y:T}{k:Int}{g:List UInt8}(ab:eqP V L (x,y))(he:qD s kd x y k g=some t):∃nq,jO V L nq t:=by
 unfold qD at he;split at he
 ·exact⟨_,OE h ab he⟩
 split at he
 ·exact⟨_,OD h ab he⟩
 split at he
 ·exact⟨_,anj h he⟩
 ·exact⟨_,ank h he⟩
theorem qE.eqP{n:Nat}{x y:T}(ab:qE n x)(aC:qE n y):eqP (qm n) 2 (x,y):=⟨⟨ab.l,aC.l⟩,fun v az=>BO.2 (az.elim (ab.o v) (aC.o v)),ab.w,aC.w⟩
theorem lD.add{n k:Nat}{s t:br}(h:lD n k s){kd:Int}{x y:T}{kU:Int}{g:List UInt8}(ab:qE n x)(aC:qE n y)(aW:g∈([[97],[98]]:List (List UInt8)))(he:qD s kd x y kU g=some t):lD n (k+1) t:=by obtain⟨E,c1⟩:=h.p;exact⟨Ks h.s ab.f aC.f ab.b aC.b aW he,by have:=acj he;have:=h.k;omega,ack c1 (ab.eqP aC) he⟩
theorem lD.more{n k:Nat}{s:br}(h:lD n k s):lD n (k+1) s:=⟨h.s,by have:=h.k;omega,h.p⟩
theorem apc{n:Nat}(au:n<=100000){k:Nat}{s:br}(h:lD n k s)(c:dB):lD n (k+1) (zZ n s c).1:=by
 unfold zZ;simp only;generalize he:qD _ _ _ _ _ _=o;cases o with
 |none=>exact h.more
 |some t=>exact h.add (yD Ω Ω _) (yD Ω Ω _) (apq _) he
theorem apd(n:Int){s:br}{c:dB}(h:c.ok):(zZ n s c).2.ok:=(((yE 5 n _ ((yE 3 n c h).below 4)).below 2).below 2)
theorem Lm{n:Nat}(au:n<=100000):∀(j:Nat) {k:Nat} {s:br} (_:lD n k s) (c:dB),lD n (k+j) (qa n j s c).1
 |0,k,s,h,c=>h
 |j+1,k,s,h,c=>by rw[show k+(j+1)=(k+1)+j by omega];exact Lm au j (apc au h c) _
theorem TV(n:Nat)(au:n<=100000):lD n 0 ⟨n,[],[],[],[]⟩:=⟨⟨T1 Ω Ω,rfl,by simp[kG]⟩,Ψ,[],ani _ _ _⟩
theorem lD.le{n k bI:Nat}{s:br}(h:lD n k s)(ae:k<=bI):lD n bI s:=⟨h.s,by have:=h.k;omega,h.p⟩
noncomputable def EC(d:List Int)(p:Nat)(n:Nat):br:=(qa n ((lC d p).below 6).toNat ⟨n,[],[],[],[]⟩ ((lC d p).belowC 6)).1
theorem akq(d:List Int)(p:Nat){n:Nat}(au:n<=100000):lD n 5 (EC d p n):=by have:=(lC d p).below_le 6 Ω;have h:=Lm au ((lC d p).below 6).toNat (TV n au) ((lC d p).belowC 6);exact h.le Ω
theorem Jr(s:br):∃t:br,∃q:Bool,qv s= .tuple [t.e,.bool q]/\(q=true->fy s=some t)/\(q=false->fy s=none):=by
 refine⟨_,_,rfl,(fun h=>?_),fun h=>?_⟩
 ·obtain⟨t,aI⟩:=fo.1 h;rw[PD aI];exact aI
 ·cases e:fy s with
  |none=>rfl
  |some t=>rw[e]at h;cases h
open Classical in
noncomputable def Jp(s:br)(x y:T):aj:=match mgu s.b [(x,y)]with
 |none=>qv s
 |some b=>if dN s.b b=[]then .tuple [dY.e,.bool false]else qv {s with d:=s.d++[dN s.b b]}
theorem aok(s:br)(x y:T):∃t:br,∃q:Bool,Jp s x y= .tuple [t.e,.bool q]/\(q=true->jV s x y=some t)/\(q=false->jV s x y=none):=by
 unfold Jp jV;cases mgu s.b [(x,y)]with
 |none=>exact Jr s
 |some b=>
  by_cases h:dN s.b b=[]
  ·simp only[if_pos h];exact⟨dY,false,rfl,(fun h=>by cases h),fun _=>trivial⟩
  ·simp only[if_neg h];exact Jr _
theorem aqo{s:br}(h:gX s)(aG:s.d.length<=30)(hm:kZ s.m){x y:T}(ab:x.fit=true)(aC:y.fit=true)(bx:dK s.n x=true)(fi:dK s.n y=true)(kU:Int)(tag:List UInt8):bK aw 49 [s.e,.int .i64 1,x.e,y.e,.int .i64 kU,.str tag] (Jp s x y):=by
 have aS:=Qj s.b x y h.b.sol h.b.fits;obtain⟨G,iH,aW⟩:=hm;unfold Jp;cases hu:mgu s.b [(x,y)]with
 |none=>rw[hu]at aS;have bf:=CI h iH aW;simp only[qv]at bf⊢;generalize tt s=t at bf;generalize (fy s).isSome=q at bf;clear h hu;obtain⟨n,b,d,k,m⟩:=s;obtain⟨x9,x6,x7,x8,tm⟩:=t;simp only[br.e,fk]at aS bf⊢;refine bo gg su ti fun aQ=>?_;unfold rv;simp;((with_reducible repeat' first|refine ak ?_|refine aA aS ?_|refine aB aS ?_|refine aA bf ?_|refine aB bf ?_|simp|((first|apply bJ|apply bM|apply bL)<;>intro h<;>try simp at h))<;>(try exact ck));all_goals simp[bp,I8,aV,aY,aU]
 |some b3=>
  rw[hu]at aS;have b4:=Qi h.b (h.bind ab aC bx fi hu).b;simp only at b4;by_cases au:dN s.b b3=[]
  ·simp only[if_pos au];rw[au]at b4;clear h hu;obtain⟨n,b,d,k,m⟩:=s;simp only[br.e,fk,dY,cF,nn]at aS b4⊢;refine bo gg su ti fun aQ=>?_;unfold rv;simp only at aG;simp;((with_reducible repeat' first|refine ak ?_|refine aA aS ?_|refine aB aS ?_|refine aA b4 ?_|refine aB b4 ?_|simp|((first|apply bJ|apply bM|apply bL)<;>intro h<;>try simp at h))<;>(try exact ck));all_goals simp[bp,I8,aV,aY,aU]
   all_goals(unfold lim;omega)
  ·simp only[if_neg au];have bf:=CI (h.dif ab aC bx fi hu) iH aW;have av:0<(dN s.b b3).length:=List.length_pos_iff.2 au;generalize dN s.b b3=w at bf b4 av au⊢;simp only[qv]at bf⊢;generalize tt {s with d:=s.d++[w]}=t at bf;generalize (fy {s with d:=s.d++[w]}).isSome=q at bf;clear h hu;obtain⟨n,b,d,k,m⟩:=s;obtain⟨x9,x6,x7,x8,tm⟩:=t;simp only[br.e,fk]at aS bf b4⊢;generalize sC:d++[w]=D at bf;simp only[cF]at b4;have hw:cF w= .slice 5 .no (w.map ai.e):=rfl;refine bo gg su ti fun aQ=>?_;unfold rv;simp only at aG;simp;((with_reducible repeat' first|refine ak ?_|refine aA aS ?_|refine aB aS ?_|refine aA b4 ?_|refine aB b4 ?_|simp[av]|((first|apply bJ|apply bM|apply bL)<;>intro h<;>try simp at h))<;>(try exact ck));all_goals first|(refine⟨by unfold lim;omega,?_⟩)|skip
   rw[<-hw];rw[p8,GJ,sC];((with_reducible repeat' first|refine ak ?_|refine aA bf ?_|refine aB bf ?_|simp|((first|apply bJ|apply bM|apply bL)<;>intro h<;>try simp at h))<;>(try exact ck));all_goals simp[bp,I8,aV,aY,aU]
noncomputable def Jt(s:br)(x:T)(k:Int):aj:=if(x.ap (aR s.b)).size<=5000 then(match ib s.k (x.ap (aR s.b)) k with
 |none=>.tuple [dY.e,.bool false]
 |some l=>qv {s with k:=l})else .tuple [dY.e,.bool false]
theorem aom(s:br)(x:T){k:Int}(ae:k=2\/k=3):∃t:br,∃q:Bool,Jt s x k= .tuple [t.e,.bool q]/\(q=true->uG s x k=some t)/\(q=false->uG s x k=none):=by
 unfold Jt uG;by_cases g:(x.ap (aR s.b)).size<=5000
 ·rw[if_pos g,if_pos ⟨ae,g⟩];cases ib s.k (x.ap (aR s.b)) k with
  |none=>exact⟨dY,false,rfl,(fun h=>by cases h),fun _=>rfl⟩
  |some l=>exact Jr _
 ·rw[if_neg g,if_neg fun h=>g h.2];exact⟨dY,false,rfl,(fun h=>by cases h),fun _=>rfl⟩
noncomputable def Ju(s:br)(x:T)(g:List UInt8):aj:=if(x.ap (aR s.b)).size<=5000 then(match iV s.m (x.ap (aR s.b)) g with
 |none=>.tuple [dY.e,.bool false]
 |some l=>qv {s with m:=l})else .tuple [dY.e,.bool false]
theorem aon(s:br)(x:T)(g:List UInt8):∃t:br,∃q:Bool,Ju s x g= .tuple [t.e,.bool q]/\(q=true->uN s x g=some t)/\(q=false->uN s x g=none):=by
 unfold Ju uN;by_cases g1:(x.ap (aR s.b)).size<=5000
 ·rw[if_pos g1,if_pos g1];cases iV s.m (x.ap (aR s.b)) g with
  |none=>exact⟨dY,false,rfl,(fun h=>by cases h),fun _=>rfl⟩
  |some l=>exact Jr _
 ·rw[if_neg g1,if_neg g1];exact⟨dY,false,rfl,(fun h=>by cases h),fun _=>rfl⟩
theorem aqp{s:br}(h:gX s)(hm:kZ s.m){x:T}(ab:x.fit=true)(bx:dK s.n x=true){k:Int}(ae:k=2\/k=3)(y:T)(tag:List UInt8):bK aw 49 [s.e,.int .i64 2,x.e,y.e,.int .i64 k,.str tag] (Jt s x k):=by
 have aS:=Ad s.b h.b.len x;have bf:=Ql s.k (by have:=q0 h.k;omega) h.k.asc (x.ap (aR s.b)) k;unfold Jt;by_cases g:(x.ap (aR s.b)).size<=5000
 ·rw[hb g]at aS;rw[if_pos g];cases hu:ib s.k (x.ap (aR s.b)) k with
  |none=>rw[hu]at bf;generalize x.ap (aR s.b)=y at aS bf;clear h hu g;obtain⟨n,b,d,bI,m⟩:=s;simp only[br.e,oA,dY,lv,k1]at aS bf⊢;refine bo gg su ti fun aQ=>?_;unfold rv;exact cz
  |some l=>rw[hu]at bf;obtain⟨G,iH,aW⟩:=hm;have b4:=CI (h.knd ab bx ae hu) iH aW;generalize x.ap (aR s.b)=y at aS bf;simp only[qv]at b4⊢;generalize tt {s with k:=l}=t at b4;generalize (fy {s with k:=l}).isSome=q at b4;clear h hu g;obtain⟨n,b,d,bI,m⟩:=s;obtain⟨x9,x6,x7,x8,tm⟩:=t;simp only[br.e,oA,iB,oJ]at aS bf b4⊢;refine bo gg su ti fun aQ=>?_;unfold rv;exact cz
 ·rw[h0 g]at aS;rw[if_neg g];generalize x.ap (aR s.b)=y at aS bf;clear bf;clear h g;obtain⟨n,b,d,bI,m⟩:=s;simp only[br.e,dY]at aS⊢;refine bo gg su ti fun aQ=>?_;unfold rv;exact cz
theorem aqq{s:br}(h:gX s)(hm:Cx s.m){x:T}(ab:x.fit=true)(bx:dK s.n x=true){g:List UInt8}(aW:iK g=true)(y:T)(kU:Int):bK aw 49 [s.e,.int .i64 3,x.e,y.e,.int .i64 kU,.str g] (Ju s x g):=by
 have aS:=Ad s.b h.b.len x;have bf:=fun bd=>abg s.m (hm.w.len h.m) (x.ap (aR s.b)) bd g h.m.asc;unfold Ju;by_cases g1:(x.ap (aR s.b)).size<=5000
 ·have bf:=bf g1;rw[hb g1]at aS;rw[if_pos g1];cases hu:iV s.m (x.ap (aR s.b)) g with
  |none=>rw[hu]at bf;generalize x.ap (aR s.b)=y at aS bf;clear h hu g1;obtain⟨n,b,d,bI,m⟩:=s;simp only[br.e,jf,dY,lv,k1]at aS bf⊢;refine bo gg su ti fun aQ=>?_;unfold rv;exact cz
  |some l=>rw[hu]at bf;obtain⟨G,iH,qQ⟩:=hm.mrk hu;have b4:=CI (h.mrk ab bx aW hu) iH qQ;generalize x.ap (aR s.b)=y at aS bf;simp only[qv]at b4⊢;generalize tt {s with m:=l}=t at b4;generalize (fy {s with m:=l}).isSome=q at b4;clear h hu g1;obtain⟨n,b,d,bI,m⟩:=s;obtain⟨x9,x6,x7,x8,tm⟩:=t;simp only[br.e,jf,iB,oJ]at aS bf b4⊢;refine bo gg su ti fun aQ=>?_;unfold rv;exact cz
 ·rw[h0 g1]at aS;rw[if_neg g1];generalize x.ap (aR s.b)=y at aS bf;clear bf;clear h g1;obtain⟨n,b,d,bI,m⟩:=s;simp only[br.e,dY]at aS⊢;refine bo gg su ti fun aQ=>?_;unfold rv;exact cz
theorem agN(c:dB)(ao:c.ok):bG aw 50 [.ptr (.obj 401) 0,.slice 1 .no [.str [97],.str [98]]] (bQ c) fun r ah=>r= .str (x5 (c.below 2))/\ah=bQ (c.belowC 2):=by
 have af:=e0 c;have ad:=c.below_le 2 Ω;refine bG.mk mixed oE afI amz Ψ af.obj fun aQ cI=>?_;unfold S2;unfold bQ;simp;(refine cQ.ob (w3 c ao 2) (e0 _) ci ci (by simp[inObs,bQ,Pv.look]) ?_;rintro r ah ⟨rfl,rfl⟩;refine⟨gP _ _,?_⟩;unfold bQ;simp[cb]);generalize ae:c.below 2=k at ad⊢;rcases(by omega:k=0\/k=1)with rfl|rfl;all_goals(with_reducible repeat' first|refine ak ?_|simp)
 all_goals(refine cL.at (bQ (c.belowC 2)) (.inl rfl) (e0 _) (gP _ _) ci ci ?_;simp[cM,Zs,aV,aY,aU,bQ])
 all_goals simp[x5]
theorem aqr{n:Int}{s:br}(h:AK n s)(aG:s.d.length<=30){kd:Int}(ae:kd=0\/kd=1\/kd=2\/kd=3){x y:T}(ab:qE n x)(aC:qE n y){k:Int}(jY:k=2\/k=3){g:List UInt8}(aW:iK g=true):
  ∃t:br,∃q:Bool,bK aw 49 [s.e,.int .i64 kd,x.e,y.e,.int .i64 k,.str g] (.tuple [t.e,.bool q])/\(q=true->qD s kd x y k g=some t)/\(q=false->qD s kd x y k g=none):=by
 have bx:=ab.b;have fi:=aC.b;rw[<-h.n]at bx fi;rcases ae with rfl|rfl|rfl|rfl
 ·obtain⟨t,q,aq,aF,bB⟩:=aol s x y;refine⟨t,q,?_,aF,bB⟩;rw[<-aq];exact aqn h.ok.1 h.tg.w ab.f aC.f bx fi k g
 ·obtain⟨t,q,aq,aF,bB⟩:=aok s x y;refine⟨t,q,?_,aF,bB⟩;rw[<-aq];exact aqo h.ok.1 aG h.tg.w ab.f aC.f bx fi k g
 ·obtain⟨t,q,aq,aF,bB⟩:=aom s x jY;refine⟨t,q,?_,aF,bB⟩;rw[<-aq];exact aqp h.ok.1 h.tg.w ab.f bx jY y g
 ·obtain⟨t,q,aq,aF,bB⟩:=aon s x g;refine⟨t,q,?_,aF,bB⟩;rw[<-aq];exact aqq h.ok.1 h.tg ab.f bx aW y k
theorem apr(i:Int):iK (x5 i)=true:=by unfold x5;split<;>decide
theorem TX(n:Int):∀(i:Nat) (s:br) (c:dB),qa n (i+1) s c=zZ n (qa n i s c).1 (qa n i s c).2
 |0,_,_=>rfl
 |i+1,s,c=>by rw[qa,TX n i];rfl
theorem TW(n:Int):∀(i:Nat) {s:br} {c:dB},c.ok->(qa n i s c).2.ok
 |0,_,_,h=>h
 |i+1,_,_,h=>TW n i (apd n h)
def Az(s:br):List aj:=[.int .i64 s.n,.slice 5 .no (s.b.map ai.e),.slice 1 .no (s.d.map cF),.slice 2 .no (s.k.map b8.e),.slice 2 .no (s.m.map bj.e)]
def tR(n:Int)(q:Bool)(s:br):List aj:=if q then [.int .i64 n,.slice 5 .nil [],.slice 1 .nil [],.slice 2 .nil [],.slice 2 .nil []]else Az s
theorem agQ(n:Nat)(au:n<=100000)(c:dB)(ao:c.ok):bG aw 20 [.ptr (.obj 401) 0,.int .i64 n,.int .i64 5] (bQ c) fun r ah=>r=(qa n (c.below 6).toNat ⟨n,[],[],[],[]⟩ (c.belowC 6)).1.e/\ah=bQ (qa n (c.below 6).toNat ⟨n,[],[],[],[]⟩ (c.belowC 6)).2:=by
 have af:=e0 c;have ad:=c.below_le 6 Ω;obtain⟨K,c7⟩:∃K:Nat,K=(c.below 6).toNat:=⟨_,rfl⟩;have ahz:c.below 6=(K:Int):=Ω
 have DH:=ao.below 6;rw[<-c7];clear c7;refine bG.mk mixed oE af9 am0 Ψ af.obj fun aQ cI=>?_;unfold Tt;unfold bQ;simp;(with_reducible repeat' first|refine ak ?_|simp);(refine cQ.ob (w3 c ao 6) (e0 _) ci ci (by simp[inObs,bQ,Pv.look]) ?_;rintro r ah ⟨rfl,rfl⟩;refine⟨gP _ _,?_⟩;unfold bQ;simp[cb]);rw[ahz];generalize c.belowC 6=bY at DH⊢;have oe:=fun i=>Lm au i (TV n au) bY;have eh:=fun i=>TW n i (s:=⟨n,[],[],[],[]⟩) DH;have jb:=fun i=>TX n i ⟨n,[],[],[],[]⟩ bY;generalize gy:(fun i=>qa n i ⟨n,[],[],[],[]⟩ bY)=F;have Vh:∀i,qa n i ⟨n,[],[],[],[]⟩ bY=F i:=fun i=>by rw[<-gy]
 have rF:F 0=(⟨n,[],[],[],[]⟩,bY):=by rw[<-gy];rfl
 simp only[Vh]at oe eh jb⊢;clear gy Vh;refine hI (fun i (q:Bool)=>⟨[(0,.ptr (.obj 401) 0),(1,.int .i64 n),(6,.ptr (.loc 0) 0),(7,.ptr (.loc 1) 0),(8,.int .i64 (K-i))],[(.obj 401,(F i).2.e),(.loc 0,[.int .i64 0,.slice 5 .nil [],.slice 1 .nil [],.slice 2 .nil [],.slice 2 .nil []]),(.loc 1,tR n q (F i).1)],[],2,[.obj 401]⟩) K (fun i q=>q=true->(F i).1=⟨n,[],[],[],[]⟩) true ⟨by simp[fresh,aO,aJ,cn,inObs,Pv.look,rP,rF,tR],ek (by simp[fresh,aO,aJ,cn,inObs,Pv.look,rP,rF,tR]),en (by simp[fresh,aO,aJ,dW,inObs,Pv.look,rP,rF,tR]),Ψ⟩ (fun _=>by rw[rF]) (fun q ag _=>?_) (fun i q hi ag _=>?_)
 ·have Hk:=oe K;have Vw:=eh K;generalize F K=fK at ag Hk Vw⊢;obtain⟨s,k4⟩:=fK;simp only at ag Hk Vw⊢;have aI:=Hk.s;have jc:=aqs s aI.ok.1.b.len (fun z bd=>(aI.ok.1.d z bd).len) (by have:=q0 aI.ok.1.k;omega) (aI.tg.w.len aI.ok.1.m);clear oe eh jb Hk;obtain⟨uX,b,d,k,m⟩:=s;have ai1:uX=n:=aI.n;subst ai1;simp only[br.e]at jc⊢;clear aI;cases q
  ·simp only[tR,hg,if_false,Az];clear ag;simp;(with_reducible repeat' first|refine ak ?_|refine aA jc ?_|refine aB jc ?_|simp);(refine cL.at (bQ (k4)) (.inl rfl) (e0 _) (gP _ _) ci ci ?_;simp[cM,O9,aV,aY,aU,bQ])
  ·have ag:=ag rfl;simp only[br.mk.injEq,true_and]at ag;obtain⟨rfl,rfl,rfl,rfl⟩:=ag;simp only[tR,if_true,nn]at jc⊢;simp;(with_reducible repeat' first|refine ak ?_|refine aA jc ?_|refine aB jc ?_|simp);(refine cL.at (bQ (k4)) (.inl rfl) (e0 _) (gP _ _) ci ci ?_;simp[cM,O9,aV,aY,aU,bQ])
 ·have hdi:=oe i;have jq:=eh i;have gK:=jb i;have hle:i<=4:=Ω
  generalize F i=AT at ag hdi jq gK⊢;obtain⟨s,k4⟩:=AT;simp only at ag hdi jq gK⊢;have vB:=yE 3 n _ jq;have ab:=yD (n:=n) Ω (z:=3) Ω k4;have ub:=vB.below 4;have asE:=(eg 3 n k4).2.below_le 4 Ω;have aC:=yD (n:=n) Ω (z:=5) Ω ((eg 3 n k4).2.belowC 4);have Vt:=yE 5 n _ ub;have Vu:=Vt.below 2;have od:=(eg 5 n ((eg 3 n k4).2.belowC 4)).2.below_le 2 Ω;have asG:=Vu.below 2;have kA:=aqr hdi.s (by have:=hdi.k;omega) (kd:=(eg 3 n k4).2.below 4) Ω ab aC (k:=2+(eg 5 n ((eg 3 n k4).2.belowC 4)).2.below 2) Ω (apr (((eg 5 n ((eg 3 n k4).2.belowC 4)).2.belowC 2).below 2));obtain⟨t,gl,kA,aF,bB⟩:=kA;have uD:=Du n Ω 3 Ω k4 jq;have kB:=w3 (eg 3 n k4).2 vB 4;have j1:=Du n Ω 5 Ω _ ub;have dg:=w3 _ Vt 2;have jJ:=agN _ Vu;unfold zZ at gK;clear oe eh jb hdi ab aC;generalize eg 3 n k4=eu at*;obtain⟨x,cw⟩:=eu;simp only at*;generalize cw.below 4=kd at*;generalize cw.belowC 4=dC at*;generalize eg 5 n dC=fe at*;obtain⟨y,kO⟩:=fe;simp only at*;generalize kO.below 2=bf at*;generalize kO.belowC 2=lB at*;generalize x5 (lB.below 2)=g at*;generalize lB.belowC 2=oR at*;have jD:(K:Int)-i-1=K-(i+1):=Ω
  have gU:pJ (2+bf):=by unfold pJ;omega
  have vI:(0:Int)<(K:Int)-i:=Ω
  have xo:F (i+1)=(if gl then t else s,oR):=by
   cases gl
   ·rw[gK,bB rfl];rfl
   ·rw[gK,aF rfl];rfl
  have au:(q&& !gl)=true->(F (i+1)).1=⟨n,[],[],[],[]⟩:=fun h=>by rw[cr,oG]at h;rw[xo,h.2];exact ag h.1
  clear gK aF bB;cases q;rotate_left;obtain rfl:=ag rfl;rotate_left;all_goals cases gl
  all_goals(try obtain⟨uX,b,d,k,m⟩:=s)
  all_goals obtain⟨x9,x6,x7,x8,tm⟩:=t
  all_goals simp only[br.e,nn]at kA⊢
  all_goals simp only[tR,hg,if_false,if_true,Az]
  all_goals simp[hi]
  all_goals(with_reducible repeat' first|refine ak ?_|simp[hi])
  all_goals(refine cQ.ob (uD) (e0 _) ci ci (by simp[inObs,bQ,Pv.look]) ?_;rintro r ah ⟨rfl,rfl⟩;refine⟨gP _ _,?_⟩;unfold bQ;simp[cb])
  all_goals(with_reducible repeat' first|refine ak ?_|simp)
  all_goals(refine gx.ob (kB) (e0 _) (e0 _) (gP _ _) ci ci (by simp[inObs,bQ,Pv.look]) ?_;unfold bQ;simp[cb])
  all_goals(with_reducible repeat' first|refine ak ?_|simp)
  all_goals(refine gx.ob (j1) (e0 _) (e0 _) (gP _ _) ci ci (by simp[inObs,bQ,Pv.look]) ?_;unfold bQ;simp[cb])
  all_goals(with_reducible repeat' first|refine ak ?_|simp)
  all_goals(refine gx.ob (dg) (e0 _) (e0 _) (gP _ _) ci ci (by simp[inObs,bQ,Pv.look]) ?_;unfold bQ;simp[cb])
  all_goals(with_reducible repeat' first|refine ak ?_|simp)
  all_goals(refine gx.ob (jJ) (e0 _) (e0 _) (gP _ _) ci ci (by simp[inObs,bQ,Pv.look]) ?_;unfold bQ;simp[cb])
  all_goals(with_reducible repeat' first|refine ak ?_|refine aA kA ?_|refine aB kA ?_|simp[jD])
  all_goals refine bR.rng (n:=K) _ hi au ⟨by simp[fresh,aO,aJ,cn,inObs,Pv.look,rP,xo,jD,tR,Az],ek (by simp[fresh,aO,aJ,cn,inObs,Pv.look,rP,xo,jD,tR,Az]),en (by simp[fresh,aO,aJ,dW,inObs,Pv.look,rP,xo,jD,tR,Az]),Ψ⟩
theorem apW(d:List Int)(aG:sk d)(av:d.length<=10000000)(p:Nat)(bF:p<=1000000)(n:Nat)(au:n<=100000):bK aw 6 [.slice 1 .no (ic d),.int .i64 p,.int .i64 n] (EC d p n).e:=by have lg:=agQ n au (lC d p) (Lh aG av p);have fu:(qa n ((lC d p).below 6).toNat ⟨n,[],[],[],[]⟩ ((lC d p).belowC 6)).1=EC d p n:=rfl;rw[fu]at lg;generalize EC d p n=s at lg⊢;generalize (qa n ((lC d p).below 6).toNat ⟨n,[],[],[],[]⟩ ((lC d p).belowC 6)).2=cq at lg;clear fu;obtain⟨uX,b,e,k,m⟩:=s;simp only[br.e]at lg⊢;refine bo oE afx amo fun aQ=>?_;unfold SO;simp;refine cQ.new (L1 d aG av p bF) ((dP.of ⟨by intro m;simp[Pv.look],by intro m;simp[Pv.look]⟩ f8 f8)) aH aH Ψ ?_;rintro r ah ⟨rfl,rfl⟩;refine⟨fun m _=>.inr Ψ,?_⟩;unfold bQ;simp[cb];(refine cQ.ob (lg) (e0 _) ci ci (by simp[inObs,bQ,Pv.look]) ?_;rintro r ah ⟨rfl,rfl⟩;refine⟨gP _ _,?_⟩;unfold bQ;simp[cb]);exact cz
def pa:T->T
 | .sym s=>if s.head? =some 119 then .nil else .sym s
 | .pair a b=>.pair (pa a) (pa b)
 |t=>t
theorem FP:∀{t:T},pa t=t↔iQ t=true
 | .sym s=>by simp only[pa,iQ];split<;>simp_all
 | .pair a b=>by simp only[pa,iQ,T.pair.injEq,cr,FP (t:=a),FP (t:=b)]
 | .var _=>by simp[pa,iQ]
 | .nil=>by simp[pa,iQ]
 | .num _=>by simp[pa,iQ]
theorem J2{θ:Int->T}:∀t:T,pa (t.ap θ)=(pa t).ap fun v=>pa (θ v)
 | .sym s=>by simp only[T.ap,pa];split<;>rfl
 | .pair a b=>by simp only[T.ap,pa,J2 a,J2 b]
 | .var _=>rfl
 | .nil=>rfl
 | .num _=>rfl
theorem XI{E:List (T×T)}{x:List ai}(c1:∀e∈E,iQ e.1=true/\iQ e.2=true)(h:mgu [] E=some x){c:ai}(ao:c∈x):iQ c.t=true:=by
 have ab:=(q5 qx qd h).1;have J:=(pN qx qd h (aR x)).1 (uY ab);have U:dR x fun v=>pa (aR x v):=(pN qx qd h _).2 ⟨aaf _,fun e he=>by have aq:=J.2 e he;have aF:=eW pa aq;rw[J2,J2,FP.2 (c1 e he).1,FP.2 (c1 e he).2]at aF;exact aF⟩
 have h3:=U c ao;have aq:aR x c.v=c.t:=by unfold aR;rw[pn ab.asc ao];rfl
 simp only[aq]at h3;rw[<-FP,h3];have aF:(c.t.ap fun v=>pa (aR x v))=c.t.ap T.var:=nY fun u hu=>by have:=ab.free c ao u hu;unfold aR;rw[this];rfl
 rw[aF,Q6]
theorem jO.b_w{V:List Int}{L:Nat}{E:List (T×T)}{s:br}(h:jO V L E s){c:ai}(ao:c∈s.b):iQ c.t=true:=XI (fun e he=>(h.e e he).w) h.b ao
theorem jO.d_w{V:List Int}{L:Nat}{E:List (T×T)}{s:br}(h:jO V L E s){d:List ai}(aG:d∈s.d){c:ai}(ao:c∈d):iQ c.t=true:=by
 obtain⟨e,x,he,ab,rfl⟩:=h.d d aG;refine XI (fun a bg=>?_) ab (ia.1 ao).1;rcases hQ.1 bg with bg|bg
 ·exact(h.e a bg).w
 ·rw[iS.1 bg];exact he.w
end
end Go.Proofs.YtohaalphocaebaaGreatDoor
