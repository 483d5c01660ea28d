/- Contracts: drawing states. -/
import Derived.Test.YtohaalphocaebaaGreatDoorProg
import Derived.Test.YtohaalphocaebaaGreatDoorE4
set_option linter.all false
set_option maxHeartbeats 4000000
set_option maxRecDepth 4000
open Bool renaming and_eq_true->cv,eq_iff_iff->qP,false_eq_true->hk,not_eq_true'->oJ,or_eq_true->mg
open Go.IntKind renaming i64->nR
open Go.IntWalk renaming i64_in->nl
open Go.Op renaming bytesLess->h2
open Go.Proofs.Tryz renaming prog->aA
open Int renaming natCast_nonneg->sp
open Int.ofNat renaming inj->av7
open List renaming all_eq_true->fi,cons_append->bQ,drop_eq_getElem_cons->lA,getElem?_eq_getElem->cm,getElem?_eq_none->rq,getElem?_eq_some_iff->fG,getElem_of_mem->oL,length_append->pn,length_cons->mM,length_drop->tN,map_cons->hc,map_nil->nS,mem_append->h3,mem_cons->eU,mem_cons_of_mem->mh,mem_filter->hD,mem_map->hU,mem_of_getElem?->ek,mem_singleton->iG,pairwise_cons->nm,pairwise_iff_getElem->p6,take->p7,take_length->lB,take_of_length_le->hV
open List.Nodup renaming length_le_of_subset->Gb
open List.Pairwise renaming filter->Ku
open List.cons renaming injEq->yn
open Nat renaming add_mul->p8,le_refl->eo,le_trans->hn,mul_le_mul_right->rr,strongRecOn->qQ
open Option renaming bind_eq_some_iff->hr,bind_some->hE,getD_none->jy,getD_some->ib,isSome_iff_exists->fH,isSome_none->je,isSome_some->lZ,map_eq_some_iff->gB,map_some->nT
open Option.some renaming inj->eV,injEq->dD
open _root_ renaming False->eI,beq_iff_eq->dO,congrArg->eW,decide_eq_false->jf,decide_eq_false_iff_not->gJ,decide_eq_true->hd,decide_eq_true_eq->eA
namespace Go.Proofs.YtohaalphocaebaaGreatDoor
section
open Go Go.Pv
def bd.e(s:bd):aj:= .agg [.int .i64 s.n,.slice 5 .no (s.b.map ah.e),.slice 1 .no (s.d.map cF),.slice 2 .no (s.k.map bV.e),.slice 2 .no (s.m.map bn.e)]
@[simp]theorem aun(S:aM->Prop)(s:bd):aK S s.e=True:=by simp[bd.e,aK,aP]
def ir(o:Option bd):aj:= .tuple [(o.getD gH).e,.bool o.isSome]
@[simp]theorem aum(S:aM->Prop)(o:Option bd):aK S (ir o)=True:=by simp[ir,aK,aP]
def vT(k:List bV)(i:Nat)(l:List (Int×Bool)):Prop:= ∀v,(tg v l).getD false=(k.take i).any fun x=>x.v==v&&x.k==3
theorem vT.put{k:List bV}{i:Nat}{l:List (Int×Bool)}(h:vT k i l){x:bV}(ab:k[i]? =some x)(ao:x.k=3):vT k (i+1) (e8 x.v true l):=fun v=>by
 rw[nQ,lT ab,List.any_append,<-h v];by_cases e:v=x.v
 ·rw[if_pos e];simp[e,ao]
 ·rw[if_neg e];have:(x.v==v)=false:=by simp;exact fun h=>e h.symm
  simp[this]
theorem vT.skip{k:List bV}{i:Nat}{l:List (Int×Bool)}(h:vT k i l){x:bV}(ab:k[i]? =some x)(ao:¬x.k=3):vT k (i+1) l:=fun v=>by
 rw[lT ab,List.any_append,<-h v];have:(x.k==3)=false:=by simp[ao]
 simp[this]
theorem vT.fin{k:List bV}{l:List (Int×Bool)}(h:vT k k.length l)(ae:ho k)(x:bn):(tg x.v l).getD false= !hp k x:=by rw[h x.v,lB,acS ae.asc,hp,bne,Bool.not_not]
def uG(k:List bV)(m:List bn)(i:Nat)(a:List bn):Prop:=a=(m.take i).filter (hp k)
theorem uG.step{k:List bV}{m:List bn}{i:Nat}{a:List bn}(h:uG k m i a){x:bn}(ab:m[i]? =some x):uG k m (i+1) (if hp k x=true then a++[x]else a):=by
 rw[uG,lT ab,List.filter_append,<-h];by_cases e:hp k x=true
 ·rw[if_pos e];simp[e]
 ·rw[if_neg e];simp[e]
theorem BL(S:aM->Prop)(l:List bn)(d:bn):aP S (l.map bn.e++[d.e])=True:=by have:=NT S (l++[d]);rw[List.map_append]at this;exact eq_true this
theorem XW{k:List bV}{m:List bn}(h:ju m):ju (m.filter (hp k)):=⟨fun x ab=>h.at' x (hD.1 ab).1,Ku _ h.asc⟩
theorem J7{G:List (List UInt8)}{k:List bV}{m:List bn}(h:lv G m):lv G (m.filter (hp k)):=fun x ab=>h x (hD.1 ab).1
theorem q8.skip{b:List ah}{k:List bV}{m:List bn}{D:List (List ah)}{i:Nat}{a:List (List ah)}(h:q8 b k m D i a){d:List ah}(aD:D[i]? =some d)(he:∀r,eF b k m (d::r)=eF b k m r):q8 b k m D (i+1) a:=⟨by have:=h.1;omega,h.2.1,by rw[<-h.2.2,BQ aD,he]⟩
theorem q8.snoc{b:List ah}{k:List bV}{m:List bn}{D:List (List ah)}{i:Nat}{a:List (List ah)}(h:q8 b k m D i a){d x:List ah}(aD:D[i]? =some d)(ab:ei x)(he:∀r,eF b k m (d::r)=(eF b k m r).map (x:: ·)):q8 b k m D (i+1) (a++[x]):=
 ⟨by have:=h.1;simp;omega,fun y aB=>by
  rcases h3.1 aB with aB|aB
  ·exact h.2.1 y aB
  ·simp at aB;subst aB;exact ab,by
  rw[<-h.2.2,BQ aD,he,Option.map_map];congr 1;funext r;simp⟩
theorem q8.stop{b:List ah}{k:List bV}{m:List bn}{D:List (List ah)}{i:Nat}{a:List (List ah)}(h:q8 b k m D i a){d:List ah}(aD:D[i]? =some d)(he:∀r,eF b k m (d::r)=none):eF b k m D=none:=by rw[<-h.2.2,BQ aD,he];rfl
theorem q8.fin{b:List ah}{k:List bV}{m:List bn}{D:List (List ah)}{a:List (List ah)}(h:q8 b k m D D.length a):eF b k m D=some a:=by rw[<-h.2.2,List.drop_length];simp[eF]
theorem uL(S:aM->Prop)(l:List (List ah))(d:List ah):aP S (l.map cF++[.slice 5 .no (d.map ah.e)])=True:=zs S l d
theorem Dr{d:List ah}(aD:ei d):∀e∈e0 d,e.1.ok=true/\e.2.ok=true:=fun e he=>by obtain⟨c,aq,rfl⟩:=hU.1 he;have:=aD.ok c aq;exact⟨by simpa[T.ok]using this.1,this.2⟩
theorem CR{s:bd}(h:gz s){G:List (List UInt8)}(hI:G.length<=687000)(aT:lv G s.m):bR aA 42 [s.e] (ir (eH s)):=by
 generalize di:eH s=O;have ln:=abu h.b h.k;have lp:=abv h.b h.m hI aT;have k0:=fun k=>JB (acc:=[]) (a:=k) h.b h.k.at' ⟨Ψ,Ψ⟩;have ri:=fun m=>Fm (acc:=[]) (a:=m) h.b h.m.at' ⟨Ψ,by simp[hG]⟩;have n4:=fun m=>Fo (acc:=[]) (a:=m) (s:=s.b) aT (fun x ab=>by simp at ab);have ad:=h.b;have aD:=h.d;clear h aT;unfold eH at di;obtain⟨n,b,d,hz,m0⟩:=s;simp only at ln lp k0 ri n4 ad aD di;have fA:=ad.len;simp only[bd.e];generalize e3 b hz []=ok at ln di k0;generalize eS b m0 []=om at lp di ri n4;cases ok with
 |none=>
  simp only at di;subst di;simp only[gd]at ln;simp only[iE]at lp;clear k0 ri n4;refine br pe Tryz.func42 OQ fun aR=>?_;unfold GP;simp;(with_reducible repeat' first|refine ak ?_|refine aF ln ?_|refine aG ln ?_|refine aF lp ?_|refine aG lp ?_|simp);all_goals simp[bz,aY,a6,aX]
  all_goals simp[ir,gH,bd.e]
 |some k=>
  simp only at di;cases om with
  |none=>
   simp only at di;subst di;simp only[gd]at ln;simp only[iE]at lp;clear k0 ri n4;refine br pe Tryz.func42 OQ fun aR=>?_;unfold GP;simp;(with_reducible repeat' first|refine ak ?_|refine aF ln ?_|refine aG ln ?_|refine aF lp ?_|refine aG lp ?_|simp);all_goals simp[bz,aY,a6,aX]
   all_goals simp[ir,gH,bd.e]
  |some m=>
   simp only at di;have xm:=k0 k rfl;have y9:=ri m rfl;have y0:=n4 m rfl;have iz:=o5 xm;have l6:m.length<=68719470000:=by have:=EN y9 y0;omega
   have Bk:=XW (k:=k) y9;have Bf:=J7 (k:=k) y0;have ai7:(m.filter (hp k)).length<=68719470000:=hn (List.length_filter_le _ _) l6;simp only[gd,ib,lZ]at ln;simp only[iE,ib,lZ]at lp;clear k0 ri n4;refine br pe Tryz.func42 OQ fun aR=>?_;unfold GP;have xh:d.length<=68719476736:=by simp[gO,gj,gE,lim]at aR;omega
   simp;(with_reducible repeat' first|refine ak ?_|refine aF ln ?_|refine aG ln ?_|refine aF lp ?_|refine aG lp ?_|simp);refine hH (fun i (l:List (Int×Bool))=>⟨[(1,.ptr (.loc 0) 0),(2,.ptr (.loc 1) 0),(4,.slice 2 .no (k.map bV.e)),(6,.slice 2 .no (m.map bn.e)),(8,.gmap (.loc 2)),(49,.slice 2 .no (k.map bV.e)),(50,.int .i64 k.length),(51,.int .i64 i)],[(.loc 0,[.int .i64 n,.slice 5 .no (b.map ah.e),.slice 1 .no (d.map cF),.slice 2 .no (hz.map bV.e),.slice 2 .no (m0.map bn.e)]),(.loc 1,[.int .i64 0,.slice 5 .nil [],.slice 1 .nil [],.slice 2 .nil [],.slice 2 .nil []]),(.loc 2,re l)],[],3,[]⟩) k.length (vT k) [] ⟨by simp[fresh,aP,aK,cq,inObs,Pv.look,N8],et (by simp[fresh,aP,aK,cq,inObs,Pv.look,N8]),eu (by simp[fresh,aP,aK,ee,inObs,Pv.look,N8]),Ψ⟩ (fun v=>by simp[tg]) (fun l ag _=>?_) (fun i l hi ag _=>?_);rotate_left
   ·obtain⟨x,ab,c1⟩:=en hi;by_cases ao:x.k=3
    ·have au:=ag.put ab ao;clear ag ab;exact hj
    ·have au:=ag.skip ab ao;have ui:(x.k==3)=false:=by simp[ao]
     clear ag ab;exact hj
   have hints:=ag.fin xm;clear ag;simp;(with_reducible repeat' first|refine ak ?_|simp);refine hH (fun i (a:List bn)=>⟨[(1,.ptr (.loc 0) 0),(2,.ptr (.loc 1) 0),(4,.slice 2 .no (k.map bV.e)),(8,.gmap (.loc 2)),(11,.slice 2 (.own (.loc 3)) (a.map bn.e)),(63,.slice 2 .no (m.map bn.e)),(64,.int .i64 m.length),(65,.int .i64 i)],[(.loc 0,[.int .i64 n,.slice 5 .no (b.map ah.e),.slice 1 .no (d.map cF),.slice 2 .no (hz.map bV.e),.slice 2 .no (m0.map bn.e)]),(.loc 1,[.int .i64 0,.slice 5 .nil [],.slice 1 .nil [],.slice 2 .nil [],.slice 2 .nil []]),(.loc 2,re l)],[(.loc 3,⟨a.length,56,2,none⟩)],4,[]⟩) m.length (uG k m) [] b0 (by simp[uG]) (fun a ag _=>?_) (fun i a hi ag _=>?_);rotate_left
   ·obtain⟨x,ab,c1⟩:=en hi;have mS:a.length<=68719470000:=by
     have:a.length<=(m.take i).length:=by rw[ag];exact List.length_filter_le _ _
     simp at this;omega
    have au:=ag.step ab;have bs:=hints x;cases aO:hp k x
    ·rw[aO]at au bs;simp only[hk,if_false,Bool.not_false]at au bs;clear ag ab aO;simp[hi,c1];((with_reducible repeat' first|refine ak ?_|simp[hi,c1,bs]|((first|apply bN|apply bP|apply bO)<;>intro h<;>try simp at h))<;>(try exact cf));all_goals exact bS.rng a hi au b0
    ·rw[aO]at au bs;simp only[if_true,Bool.not_true]at au bs;clear ag ab aO;simp[hi,c1];((with_reducible repeat' first|refine ak ?_|simp[hi,c1,bs]|((first|apply bN|apply bP|apply bO)<;>intro h<;>try simp at h))<;>(try exact cf));all_goals first|(refine⟨by unfold lim;omega,?_⟩)|skip
     all_goals(with_reducible repeat' first|refine ak ?_|simp)
     all_goals exact bS.rng (a++[x]) hi au ⟨by simp[fresh,aP,aK,cq,inObs,Pv.look,BL],et (by simp[fresh,aP,aK,cq,inObs,Pv.look,BL]),eu (by simp[fresh,aP,aK,ee,inObs,Pv.look,BL]),Ψ⟩
   rw[uG,lB]at ag;rw[<-ag]at Bk Bf ai7 di;clear ag hints iz y9 y0;simp;(with_reducible repeat' first|refine ak ?_|simp);refine hH (fun i (L:List (List ah))=>⟨[(1,.ptr (.loc 0) 0),(2,.ptr (.loc 1) 0),(4,.slice 2 .no (k.map bV.e)),(11,.slice 2 (.own (.loc 3)) (a.map bn.e)),(14,.slice 1 (.own (.loc 4)) (L.map cF)),(81,.slice 1 .no (d.map cF)),(82,.int .i64 d.length),(83,.int .i64 i)],[(.loc 0,[.int .i64 n,.slice 5 .no (b.map ah.e),.slice 1 .no (d.map cF),.slice 2 .no (hz.map bV.e),.slice 2 .no (m0.map bn.e)]),(.loc 1,[.int .i64 0,.slice 5 .nil [],.slice 1 .nil [],.slice 2 .nil [],.slice 2 .nil []])],[(.loc 3,⟨a.length,56,2,none⟩),(.loc 4,⟨L.length,23,1,none⟩)],5,[]⟩) d.length (q8 b k a d) [] b0 ⟨Ψ,Ψ,Ψ⟩ (fun L ag _=>?_) (fun i L hi ag _=>?_)
   ·have e1:=ag.fin;have n5:=ag.2.1;rw[e1]at di;simp only at di;have ll:=aqx L n5;have jt:bR aA 91 [.slice 5 .no (b.map ah.e)] (.slice 5 .no (b.map ah.e)):=FV b fA;clear ag e1 n5;generalize iN L=M at ll di;by_cases l4:M.length<=30
    ·have pF:¬(30:Int)<M.length:=Ω
     rw[if_pos l4]at di;subst di;simp;(with_reducible repeat' first|refine ak ?_|refine aF ll ?_|refine aG ll ?_|refine aF jt ?_|refine aG jt ?_|simp[l4,pF]);all_goals simp[bz,aY,a6,aX]
     all_goals simp[ir,bd.e]
    ·have pF:(30:Int)<M.length:=Ω
     rw[if_neg l4]at di;subst di;simp;(with_reducible repeat' first|refine ak ?_|refine aF ll ?_|refine aG ll ?_|refine aF jt ?_|refine aG jt ?_|simp[l4,pF]);all_goals simp[bz,aY,a6,aX]
     all_goals simp[ir,gH,bd.e]
   ·obtain⟨x,ab,c1⟩:=en hi;have gp:=aD x (ek ab);have VJ:=ag.1;have il:bR aA 94 [.slice 5 .no (b.map ah.e),cF x] (ft (mgu b (e0 x))):=aqs ad gp;simp only[ft]at il;cases hu:mgu b (e0 x)with
    |none=>have au:=ag.skip ab fun r=>NZ hu;rw[hu]at il;simp only[jy,je]at il;clear ag ab di;exact hj
    |some y=>
     have jV:=ad.mgu (Dr gp) hu;rw[hu]at il;simp only[ib,lZ]at il;have dg:=abu jV xm;have dZ:=abv jV Bk hI Bf;have gx:=abt ad jV;simp only[gd]at dg;simp only[iE]at dZ;by_cases jq:e3 y k []=none\/eS y a []=none
     ·have au:=ag.skip ab fun r=>NY hu jq;clear ag ab di hu;rcases jq with e|e
      ·rw[e]at dg;simp only[jy,je]at dg;exact hj
      ·rw[e]at dZ;simp only[jy,je]at dZ;cases (e3 y k []).isSome
       ·simp[hi,c1];((with_reducible repeat' first|refine ak ?_|refine aF il ?_|refine aG il ?_|refine aF dg ?_|refine aG dg ?_|refine aF dZ ?_|refine aG dZ ?_|simp[hi,c1]|((first|apply bN|apply bP|apply bO)<;>intro h<;>try simp at h))<;>(try exact cf));all_goals exact bS.rng L hi au b0
       ·simp[hi,c1];((with_reducible repeat' first|refine ak ?_|refine aF il ?_|refine aG il ?_|refine aF dg ?_|refine aG dg ?_|refine aF dZ ?_|refine aG dZ ?_|simp[hi,c1]|((first|apply bN|apply bP|apply bO)<;>intro h<;>try simp at h))<;>(try exact cf));all_goals exact bS.rng L hi au b0
     ·have ar:(e3 y k []).isSome=true:=by cases e:e3 y k []with|none=>exact absurd (.inl e) jq|some _=>rfl
      have aE:(eS y a []).isSome=true:=by cases e:eS y a []with|none=>exact absurd (.inr e) jq|some _=>rfl
      rw[ar]at dg;rw[aE]at dZ;by_cases cG:dx b y=[]
      ·have af:=ag.stop ab fun r=>NX hu jq cG;rw[af]at di;simp only at di;subst di;rw[cG]at gx;simp only[nS]at gx;clear ag ab hu jq;simp[hi,c1];((with_reducible repeat' first|refine ak ?_|refine aF il ?_|refine aG il ?_|refine aF dg ?_|refine aG dg ?_|refine aF dZ ?_|refine aG dZ ?_|refine aF gx ?_|refine aG gx ?_|simp[hi,c1]|((first|apply bN|apply bP|apply bO)<;>intro h<;>try simp at h))<;>(try exact cf));all_goals simp[bz,aY,a6,aX]
       all_goals simp[ir,gH,bd.e]
      ·have au:=ag.snoc ab (EV (b:=b) jV) fun r=>N0 hu jq cG;have xq:¬((dx b y).length:Int)=0:=by have:(dx b y).length≠0:=fun h=>cG (List.length_eq_zero_iff.1 h);omega
       have xr:(((dx b y).length:Int)==0)=false:=by simp[cG]
       have Iy:bR aA 95 [.slice 5 .no (b.map ah.e),.slice 5 .no (y.map ah.e)] (cF (dx b y)):=gx;clear ag ab hu jq di gx;generalize dx b y=z at Iy au xq xr cG;simp only[cF]at Iy;simp[hi,c1];(with_reducible repeat' first|refine ak ?_|refine aF il ?_|refine aG il ?_|refine aF dg ?_|refine aG dg ?_|refine aF dZ ?_|refine aG dZ ?_|refine aF Iy ?_|refine aG Iy ?_|simp[hi,c1,xq,xr,cG]);all_goals first|(refine⟨by unfold lim;omega,?_⟩)|skip
       all_goals(with_reducible repeat' first|refine ak ?_|simp)
       all_goals exact bS.rng (L++[z]) hi au ⟨by simp[fresh,aP,aK,cq,inObs,Pv.look,uL,cF],et (by simp[fresh,aP,aK,cq,inObs,Pv.look,uL,cF]),eu (by simp[fresh,aP,aK,ee,inObs,Pv.look,uL,cF]),Ψ⟩
structure k5 where
 n:Int
 b:List dS
 d:List (List dS)
 k:List bV
 m:List bn
def bd.r(s:bd):k5:=⟨s.n,s.b.map ah.b,s.d.map fun x=>x.map ah.b,s.k,s.m⟩
def oF(r:k5):Prop:= ∃s:bd,r=s.r/\gi s
def kX(n:Int)(x:List dS):Prop:= ∃s:List ah,x=s.map ah.b/\ei s/\nY s n
structure PE (r:k5):Prop where
 n:0<=r.n/\r.n<=100000
 b:kX r.n r.b
 d:∀x∈r.d,kX r.n x
 k:ho r.k
 m:ju r.m
 kb:∀x∈r.k,x.v<r.n
 mb:∀x∈r.m,x.v<r.n
theorem oF.raw{r:k5}(h:oF r):PE r:=by obtain⟨s,rfl,I,_⟩:=h;exact⟨I.n,⟨s.b,rfl,I.b,I.bb⟩,fun x ab=>by obtain⟨y,aB,rfl⟩:=hU.1 ab;exact⟨y,rfl,I.d y aB,I.db y aB⟩,I.k,I.m,I.kb,I.mb⟩
theorem rD:∀{a b:List ah},a.map ah.b=b.map ah.b->a=b
 |[],b,h=>by cases b<;>simp at h⊢
 |x::a,[],h=>by simp at h
 |x::a,y::b,h=>by simp only[hc,yn,ah.b,dS.mk.injEq]at h;rw[rD h.2];have:=FP h.1.2;obtain⟨⟨I,_⟩,_⟩:=h;cases x;cases y;simp_all
theorem RG:∀{a b:List (List ah)},(a.map fun x=>x.map ah.b)=(b.map fun x=>x.map ah.b)->a=b
 |[],b,h=>by cases b<;>simp at h⊢
 |x::a,[],h=>by simp at h
 |x::a,y::b,h=>by rw[hc,hc,yn]at h;rw[RG h.2,rD h.1]
theorem bd.r_inj{s t:bd}(h:s.r=t.r):s=t:=by obtain⟨n,b,d,k,m⟩:=s;obtain⟨n',b3,cn,bJ,iD⟩:=t;simp only[bd.r,k5.mk.injEq]at h;obtain⟨I,U,ao,a7,b8⟩:=h;rw[I,rD U,RG ao,a7,b8]
theorem Uf{n:Int}:∀{d:List (List dS)},(∀x∈d,kX n x)->∃D:List (List ah),d=(D.map fun x=>x.map ah.b)/\(∀x∈D,ei x)/\∀x∈D,nY x n
 |[],_=>⟨[],rfl,Ψ,Ψ⟩
 |x::d,h=>by
  obtain⟨D,I,U,ao⟩:=Uf (d:=d) fun y aB=>h y (by simp[aB]);obtain⟨s,ar,aE,bA⟩:=h x Ψ;refine⟨s::D,by rw[I,ar];rfl,fun y aB=>?_,fun y aB=>?_⟩
  ·rcases eU.1 aB with rfl|aB
   ·exact aE
   ·exact U y aB
  ·rcases eU.1 aB with rfl|aB
   ·exact bA
   ·exact ao y aB
theorem aaQ{s:bd}(h:gz s):oF s.r↔eH s=some s:=by
 constructor
 ·rintro⟨t,e,_,U⟩;rw[bd.r_inj e];exact U
 ·intro U;exact⟨s,rfl,h,U⟩
theorem x8{l:List dS}:KF l↔∃s:List ah,l=s.map ah.b/\ei s:=⟨fun⟨s,I,U,ao,a7⟩=>⟨s,I,U,ao,a7⟩,fun⟨s,I,U⟩=>⟨s,I,U.ok,U.sol,U.fits⟩⟩
def sy{α:Type}(a b:List α)(i:Nat)(_:Unit):Prop:= ∀k,k<i->a[k]? =b[k]?
theorem sy.fin{α:Type}{a b:List α}(h:sy a b b.length ())(aw:a.length=b.length):a=b:=by
 apply List.ext_getElem?;intro k;by_cases ae:k<b.length
 ·exact h k ae
 ·rw[rq Ω,rq Ω]
theorem sy.step{α:Type}{a b:List α}{i:Nat}(h:sy a b i ()){x:α}(bk:a[i]? =some x)(ad:b[i]? =some x):sy a b (i+1) ():=fun k ae=>by
 rcases(by omega:k<i\/k=i)with I|rfl
 ·exact h k I
 ·rw[bk,ad]
def tc{α:Type}(p:α->Prop)(s:List α)(i:Nat)(_:Unit):Prop:= ∀k b,k<i->s[k]? =some b->p b
theorem tc.step{α:Type}{p:α->Prop}{s:List α}{i:Nat}(h:tc p s i ()){b:α}(ad:s[i]? =some b)(bG:p b):tc p s (i+1) ():=fun k c ae aq=>by
 rcases(by omega:k<i\/k=i)with I|rfl
 ·exact h k c I aq
 ·rw[ad]at aq;cases aq;exact bG
theorem tc.fin{α:Type}{p:α->Prop}{s:List α}(h:tc p s s.length ()):∀b∈s,p b:=fun b ad=>by obtain⟨k,ae,e⟩:=oL ad;exact h k b ae (by rw[cm ae,e])
@[simp]theorem arX(neg:Bool)(x y:bV):jj neg (some [false,false]) x.e y.e=some (True,.bool (if neg then !decide (x=y)else decide (x=y))):=by
 have h:(x.v==y.v&&(x.k==y.k&&true))=decide (x=y):=by rw[qP];simp only[Bool.and_true,cv,dO,eA];cases x;cases y;simp
 rw[<-h];rfl
@[simp]theorem arY(neg:Bool)(x y:bn):jj neg (some [false,true]) x.e y.e=some (True,.bool (if neg then !decide (x=y)else decide (x=y))):=by
 have h:(x.v==y.v&&(x.s==y.s&&true))=decide (x=y):=by rw[qP];simp only[Bool.and_true,cv,dO,eA];cases x;cases y;simp
 rw[<-h];rfl
theorem aqE(x y:List ah)(h:x.length<=1000000):bR aA 99 [cF x,cF y] (.bool (decide (x=y))):=QB x y h
theorem QN(a c:bd)(oa:a.b.length<=1000000)(DQ:∀x∈a.d,x.length<=1000000):bR aA 46 [a.e,c.e] (.bool (decide (a=c))):=by
 obtain⟨n,b,d,k,m⟩:=a;obtain⟨n',b3,cn,bJ,iD⟩:=c;simp only at oa DQ;generalize bI:decide ((⟨n,b,d,k,m⟩:bd)=⟨n',b3,cn,bJ,iD⟩)=R;simp only[bd.mk.injEq,bd.e]at bI⊢;by_cases aW:n=n';rotate_left
 ·have gm:R=false:=by rw[<-bI];simp[aW]
  have uW:(n !=n')=true:=by simp[aW]
  rw[gm];clear bI gm;refine br pe Tryz.func46 B9 fun aR=>?_;unfold yE;exact cu
 subst aW;have fp:=QB b b3 oa;by_cases bj:b=b3;rotate_left
 ·have gm:R=false:=by rw[<-bI];simp[bj]
  rw[jf bj]at fp;rw[gm];clear bI gm;refine br pe Tryz.func46 B9 fun aR=>?_;unfold yE;exact cu
 subst bj;rw[hd rfl]at fp;by_cases bM:d.length=cn.length;rotate_left
 ·have gm:R=false:=by rw[<-bI];simp only[gJ];rintro⟨_,_,rfl,_⟩;exact bM rfl
  have tt:((d.length:Int) !=cn.length)=true:=by simp;omega
  rw[gm];clear bI gm;refine br pe Tryz.func46 B9 fun aR=>?_;unfold yE;exact cu
 by_cases cL:k.length=bJ.length;rotate_left
 ·have gm:R=false:=by rw[<-bI];simp only[gJ];rintro⟨_,_,_,rfl,_⟩;exact cL rfl
  have an4:((k.length:Int) !=bJ.length)=true:=by simp;omega
  rw[gm];clear bI gm;refine br pe Tryz.func46 B9 fun aR=>?_;unfold yE;exact cu
 by_cases c2:m.length=iD.length;rotate_left
 ·have gm:R=false:=by rw[<-bI];simp only[gJ];rintro⟨_,_,_,_,rfl⟩;exact c2 rfl
  have an5:((m.length:Int) !=iD.length)=true:=by simp;omega
  rw[gm];clear bI gm;refine br pe Tryz.func46 B9 fun aR=>?_;unfold yE;exact cu
 have zd:d≠cn->R=false:=fun h=>by rw[<-bI];simp[h]
 have ze:k≠bJ->R=false:=fun h=>by rw[<-bI];simp[h]
 have M3:m≠iD->R=false:=fun h=>by rw[<-bI];simp[h]
 refine br pe Tryz.func46 B9 fun aR=>?_;unfold yE;have aiW:cn.length<=68719476736:=by simp[gO,gj,gE,lim]at aR;omega
 have aiX:bJ.length<=68719476736:=by simp[gO,gj,gE,lim]at aR;omega
 have aiY:iD.length<=68719476736:=by simp[gO,gj,gE,lim]at aR;omega
 clear aR;simp;(with_reducible repeat' first|refine ak ?_|refine aF fp ?_|refine aG fp ?_|simp[bM,cL,c2]);have cW:=zd;refine ep [2,3,50] (fun i (_:Unit)=>[(51,.int .i64 i)]) cn.length (sy d cn) () b0 (fun k ae=>Ω) (fun _ ag _=>?_) (fun i _ hi ag _=>?_);rotate_left
 ·obtain⟨x,ab⟩:∃x,d[i]? =some x:=⟨_,cm Ω⟩;obtain⟨y,aB⟩:∃y,cn[i]? =some y:=⟨_,cm hi⟩;have gF:i<d.length:=Ω
  have c1:∀h,(d[i]'h)=x:=fun h=>by rw[cm gF]at ab;exact eV ab
  have eR:∀h,(cn[i]'h)=y:=fun h=>by rw[cm hi]at aB;exact eV aB
  have fp:=aqE x y (DQ x (ek ab));by_cases q:x=y
  ·subst q;have au:=ag.step ab aB;rw[hd rfl]at fp;clear ag ab aB;simp[hi,gF,c1,eR,-jj];(with_reducible repeat' first|refine ak ?_|refine aF fp ?_|refine aG fp ?_|simp[c1,eR,hi,gF,-jj]);all_goals exact bS.rng () hi au b0
  ·rw[cW (fun h=>q (by rw[h]at ab;rw[ab]at aB;exact eV aB))];rw[jf q]at fp;clear ag ab aB;simp[hi,gF,c1,eR,-jj];(with_reducible repeat' first|refine ak ?_|refine aF fp ?_|refine aG fp ?_|simp[c1,eR,hi,gF,q,-jj]);all_goals simp[bz,aY,a6,aX]
 have c3:=ag.fin bM;subst c3;clear ag cW zd bM;simp;(with_reducible repeat' first|refine ak ?_|simp[cL]);have cW:=ze;refine ep [2,3,69] (fun i (_:Unit)=>[(70,.int .i64 i)]) bJ.length (sy k bJ) () b0 (fun k ae=>Ω) (fun _ ag _=>?_) (fun i _ hi ag _=>?_);rotate_left
 ·obtain⟨x,ab⟩:∃x,k[i]? =some x:=⟨_,cm Ω⟩;obtain⟨y,aB⟩:∃y,bJ[i]? =some y:=⟨_,cm hi⟩;have gF:i<k.length:=Ω
  have c1:∀h,(k[i]'h)=x:=fun h=>by rw[cm gF]at ab;exact eV ab
  have eR:∀h,(bJ[i]'h)=y:=fun h=>by rw[cm hi]at aB;exact eV aB
  have fp:=True.intro;by_cases q:x=y
  ·subst q;have au:=ag.step ab aB;skip;clear ag ab aB;simp[hi,gF,c1,eR,-jj];(with_reducible repeat' first|refine ak ?_|refine aF fp ?_|refine aG fp ?_|simp[c1,eR,hi,gF,-jj]);all_goals exact bS.rng () hi au b0
  ·rw[cW (fun h=>q (by rw[h]at ab;rw[ab]at aB;exact eV aB))];skip;clear ag ab aB;simp[hi,gF,c1,eR,-jj];(with_reducible repeat' first|refine ak ?_|refine aF fp ?_|refine aG fp ?_|simp[c1,eR,hi,gF,q,-jj]);all_goals simp[bz,aY,a6,aX]
 have c3:=ag.fin cL;subst c3;clear ag cW ze cL;simp;(with_reducible repeat' first|refine ak ?_|simp[c2]);have cW:=M3;refine ep [2,3,87] (fun i (_:Unit)=>[(88,.int .i64 i)]) iD.length (sy m iD) () b0 (fun k ae=>Ω) (fun _ ag _=>?_) (fun i _ hi ag _=>?_);rotate_left
 ·obtain⟨x,ab⟩:∃x,m[i]? =some x:=⟨_,cm Ω⟩;obtain⟨y,aB⟩:∃y,iD[i]? =some y:=⟨_,cm hi⟩;have gF:i<m.length:=Ω
  have c1:∀h,(m[i]'h)=x:=fun h=>by rw[cm gF]at ab;exact eV ab
  have eR:∀h,(iD[i]'h)=y:=fun h=>by rw[cm hi]at aB;exact eV aB
  have fp:=True.intro;by_cases q:x=y
  ·subst q;have au:=ag.step ab aB;skip;clear ag ab aB;simp[hi,gF,c1,eR,-jj];(with_reducible repeat' first|refine ak ?_|refine aF fp ?_|refine aG fp ?_|simp[c1,eR,hi,gF,-jj]);all_goals exact bS.rng () hi au b0
  ·rw[cW (fun h=>q (by rw[h]at ab;rw[ab]at aB;exact eV aB))];skip;clear ag ab aB;simp[hi,gF,c1,eR,-jj];(with_reducible repeat' first|refine ak ?_|refine aF fp ?_|refine aG fp ?_|simp[c1,eR,hi,gF,q,-jj]);all_goals simp[bz,aY,a6,aX]
 have c3:=ag.fin c2;subst c3;have gm:R=true:=by rw[<-bI];simp
 rw[gm];exact cu
def k5.e(r:k5):aj:= .agg [.int .i64 r.n,.slice 5 .no (r.b.map dS.e),.slice 1 .no (r.d.map mo),.slice 2 .no (r.k.map bV.e),.slice 2 .no (r.m.map bn.e)]
theorem u3(s:bd):s.r.e=s.e:=by simp only[bd.r,k5.e,bd.e,uQ,LF]
theorem aqA(x:List dS):bR aA 53 [mo x] (.bool (gR x)):=Qz x
open Classical in
theorem Kf(r:k5)(ga:ju r.m->jN r.m):bR aA 22 [r.e] (.bool (decide (oF r))):=by
 generalize bI:decide (oF r)=R;have cW:¬PE r->R=false:=fun h=>by rw[<-bI,gJ];exact fun b4=>h b4.raw
 obtain⟨n,b,d,k,m⟩:=r;simp only[k5.e]at ga⊢;by_cases g1:n<0
 ·rw[cW fun h=>by have:=h.n.1;simp only at this;omega];refine br pe Tryz.func22 zE fun aR=>?_;unfold wZ;exact cu
 by_cases g2:100000<n
 ·rw[cW fun h=>by have:=h.n.2;simp only at this;omega];refine br pe Tryz.func22 zE fun aR=>?_;unfold wZ;exact cu
 have js:bR aA 53 [.slice 5 .no (b.map dS.e)] (.bool (gR b)):=Qz b;cases g3:gR b
 ·rw[cW fun h=>by obtain⟨s,ar,aE,_⟩:=h.b;have:=se.2 (x8.2 ⟨s,ar,aE⟩);simp only at this;rw[g3]at this;cases this]
  rw[g3]at js;refine br pe Tryz.func22 zE fun aR=>?_;unfold wZ;exact cu
 rw[g3]at js;obtain⟨s,rfl,af⟩:=x8.1 (se.1 g3);clear g3;rw[uQ]at js⊢;have dg:=abm k;by_cases g4:ho k;rotate_left
 ·rw[cW fun h=>g4 h.k];rw[jf g4]at dg;refine br pe Tryz.func22 zE fun aR=>?_;unfold wZ;exact cu
 rw[hd g4]at dg;have dZ:=abq m;by_cases g5:ju m;rotate_left
 ·rw[cW fun h=>g5 h.m];rw[jf g5]at dZ;refine br pe Tryz.func22 zE fun aR=>?_;unfold wZ;exact cu
 rw[hd g5]at dZ;have eL:=aby af (n:=n) Ω;cases g6:s.all (lF n)
 ·rw[cW fun h=>by obtain⟨ai,ar,_,bA⟩:=h.b;have dr:=rD ar;subst dr;rw[wY.2 bA]at g6;cases g6]
  rw[g6]at eL;refine br pe Tryz.func22 zE fun aR=>?_;unfold wZ;have NV:=eL;exact cu
 rw[g6]at eL;have cN:=wY.1 g6;clear g6;have uy:=ga g5;have l6:=uy.len g5;refine br pe Tryz.func22 zE fun aR=>?_;unfold wZ;have xh:d.length<=68719476736:=by simp[gO,gj,gE,lim]at aR;omega
 have iz:=o5 g4;clear aR ga;simp;(with_reducible repeat' first|refine ak ?_|refine aF js ?_|refine aG js ?_|refine aF dg ?_|refine aG dg ?_|refine aF dZ ?_|refine aG dZ ?_|refine aF eL ?_|refine aG eL ?_|simp[g1,g2]);refine ep [1,46,47] (fun i (_:Unit)=>[(48,.int .i64 i)]) d.length (tc (kX n) d) () b0 (fun k b ae=>Ω) (fun _ ag _=>?_) (fun i _ hi ag _=>?_);rotate_left
 ·obtain⟨x,ab,c1⟩:=en hi;have En:=ek ab;have c5:=aqA x;cases ny:gR x
  ·rw[cW fun h=>by obtain⟨ai,ar,aE,_⟩:=h.d x En;rw[se.2 (x8.2 ⟨ai,ar,aE⟩)]at ny;cases ny]
   rw[ny]at c5;clear ag ab En;exact cu
  ·rw[ny]at c5;obtain⟨y,rfl,aB⟩:=x8.1 (se.1 ny);clear ny;rw[LD]at c5;have kf:bR aA 56 [cF y,.int .i64 n] (.bool (y.all (lF n))):=aby aB (n:=n) Ω;have atz:∀h,mo (d[i]'h)=cF y:=fun h=>by rw[c1 h,LD]
   cases sH:y.all (lF n)
   ·rw[cW fun h=>by obtain⟨ai,ar,_,bA⟩:=h.d _ En;have dr:=rD ar;subst dr;rw[wY.2 bA]at sH;cases sH]
    rw[sH]at kf;clear ag ab En c1;exact cu
   ·rw[sH]at kf;have au:=ag.step ab ⟨y,rfl,aB,wY.1 sH⟩;clear ag ab En c1;exact hj
 obtain⟨D,rfl,sK,Mu⟩:=Uf ag.fin;clear ag;simp only[LF];simp;(with_reducible repeat' first|refine ak ?_|simp);refine ep [1,64,65] (fun i (_:Unit)=>[(66,.int .i64 i)]) k.length (tc (fun x=>x.v<n) k) () b0 (fun k b ae=>Ω) (fun _ ag _=>?_) (fun i _ hi ag _=>?_);rotate_left
 ·obtain⟨x,ab,c1⟩:=en hi;by_cases ny:x.v<n
  ·have yS:¬n<=x.v:=Ω
   have au:=ag.step ab ny;clear ag ab;exact hj
  ·have yS:n<=x.v:=Ω
   rw[cW fun h=>ny (h.kb x (ek ab))];clear ag ab;exact cu
 have y1:=ag.fin;clear ag;simp;(with_reducible repeat' first|refine ak ?_|simp);have uw:=y1;refine ep [1,77,78] (fun i (_:Unit)=>[(79,.int .i64 i)]) m.length (tc (fun x=>x.v<n) m) () b0 (fun k b ae=>Ω) (fun _ ag _=>?_) (fun i _ hi ag _=>?_);rotate_left
 ·obtain⟨x,ab,c1⟩:=en hi;by_cases ny:x.v<n
  ·have yS:¬n<=x.v:=Ω
   have au:=ag.step ab ny;clear ag ab;exact hj
  ·have yS:n<=x.v:=Ω
   rw[cW fun h=>ny (h.mb x (ek ab))];clear ag ab;exact cu
 have y1:=ag.fin;clear ag;simp;(with_reducible repeat' first|refine ak ?_|simp);have oe:=y1;have da:gz ⟨n,s,D,k,m⟩:=⟨by simp only;omega,af,sK,g4,g5,cN,Mu,uw,oe⟩;have vJ:=aaQ da;obtain⟨G,hI,aT⟩:=uy;have dz:=CR da hI aT;have l7:oF ⟨n,s.map ah.b,D.map fun x=>x.map ah.b,k,m⟩↔eH ⟨n,s,D,k,m⟩=some ⟨n,s,D,k,m⟩:=vJ;clear vJ cW;simp only[ir]at dz;cases kY:eH ⟨n,s,D,k,m⟩with
 |none=>
  rw[kY]at dz l7;have gm:R=false:=by rw[<-bI,gJ,l7];simp
  rw[gm];simp only[jy,je,bd.e]at dz;clear bI gm l7;exact cu
 |some t=>
  have Bw:=tB da kY;rw[kY]at dz l7;have pS:=QN t ⟨n,s,D,k,m⟩ Bw.1.1.b.len (fun x ab=>(Bw.1.1.d x ab).len);have gm:R=decide (t=⟨n,s,D,k,m⟩):=by rw[<-bI,decide_eq_decide,l7];simp
  rw[gm];simp only[ib,lZ]at dz;simp only[bd.e]at dz pS;clear bI gm l7 Bw;generalize decide (t=(⟨n,s,D,k,m⟩:bd))=Q at pS⊢;obtain⟨qL,qI,qJ,qK,tm⟩:=t;simp only at dz pS;exact cu
def GV:C:=(aa [c0 3 1,cP 4 dk] (.seq (aa [aJ 7 0 1 3,ay 8 1 7,aU 9 .eql 8 1] (a1 9 (aa [J 11 0,aJ 12 1 1 3,ay 13 1 12,ch 14 78 11 13,J 10 14,cg 15 0 10,cg 16 1 10,cP 5 dk,bu 4 5 15,J 6 16] (aa [J 17 6] (a1 17 (aa [aZ 18 4 5,bu 4 4 18] .ret) .skip))) .skip)) (.seq (aa [aJ 19 0 1 3,ay 20 1 19,aU 21 .eql 20 4] (a1 21 (.seq (.drawn true 36 [J 22 0,aJ 23 3 1 3,ay 24 1 23,j5 25 4 24 0,aZ 26 4 25,ch 27 38 22 26,J 28 0,aJ 29 3 1 3,ay 30 1 29,j5 31 4 30 1,aZ 32 4 31,ch 33 38 28 32,ch 34 83 27 33,bu 4 4 34]) .ret) .skip)) (aa [aZ 35 4 3,bu 4 4 35] .ret))))
def Tp:C:=(aa [bp 6 false] (aa [J 7 0,J 8 1,bC 9 .geq 7 8,J 10 9,b6 10 true 11 0,b6 10 true 12 2,av 10 true (bC 13 .leq 11 12),dB 14 10 13,J 6 14] .ret))
def Ln:C:=(aa [bp 2 false] (.seq (aa [J 9 0,cD 10 75 9,ct 11 10] (a1 11 (aa [bp 2 false] .ret) .skip)) (.seq (aa [J 12 0,cH 13 12,cb 14 0] (fm 15 14 13 (.seq (.block 1 (aa [cE 16 5 12 14,aZ 17 5 16,cP 4 iC,bu 5 4 17] (.seq (aa [hN 18 1 4 4,aJ 19 0 1 18,ay 20 1 19,aU 21 .eql 20 1,J 22 21,av 22 true (hN 23 1 4 4),av 22 true (aJ 24 1 1 23),av 22 true (ay 25 1 24),av 22 true (aJ 26 0 1 4),av 22 true (ay 27 1 26),av 22 true (bC 28 .geq 25 27),dB 29 22 28] (a1 29 (aa [bp 2 false] .ret) .skip)) (aa [hN 30 1 4 4,aZ 31 4 30,c4 32 77 [.t 31,(.c (.slice 1 .nil []))],cH 33 32,cb 34 0] (.block 2 (.loop (aa [bC 35 .lss 34 33] (.seq (a1 35 .skip (.exit 2)) (.seq (.block 3 (aa [cE 36 1 32 34,ay 37 1 36,J 6 37] (aa [J 39 0,J 40 6,ch 41 78 39 40,J 38 41,cg 42 0 38,cg 43 1 38,cP 7 dk,bu 4 7 42,J 8 43] (aa [J 44 8] (a1 44 (aa [bp 2 false] .ret) .skip))))) (.region [aU 45 .add 34 1,J 34 45])))))))))) (.region [aU 46 .add 14 1,J 14 46])))) (aa [bp 2 true] .ret))))
def TH:C:=(aa [bp 2 false] (.seq (aa [J 5 0,cH 6 5,cb 7 0] (fm 8 7 6 (.seq (.block 1 (aa [J 9 7,cE 10 5 5 7,aZ 11 5 10,cP 4 iC,J 3 9,bu 5 4 11] (.seq (.drawn true 41 [J 12 3,aU 13 .gtr 12 0,J 14 13,b6 14 true 15 0,b6 14 true 16 3,av 14 true (aU 17 .sub 16 1),av 14 true (cE 18 5 15 17),av 14 true (aJ 19 0 1 18),av 14 true (ay 20 1 19),av 14 true (aJ 21 0 1 4),av 14 true (ay 22 1 21),av 14 true (bC 23 .geq 20 22),dB 24 14 23,J 25 24,av 25 false (aJ 26 0 1 4),av 25 false (ay 27 1 26),av 25 false (c4 28 67 [.t 27,(ef 0),(ef 100000)]),av 25 false (ct 29 28),c8 30 25 29,J 31 30,av 31 false (hN 32 1 4 4),av 31 false (aZ 33 4 32),av 31 false (cD 34 76 33),av 31 false (ct 35 34),c8 36 31 35]) (a1 36 (aa [bp 2 false] .ret) .skip)))) (.region [aU 37 .add 7 1,J 7 37])))) (aa [J 38 0,cH 39 38,aU 40 .leq 39 400,J 2 40] .ret)))
def Tm:C:=(aa [c0 1 0,bp 2 false] (aa [aZ 3 4 1,c4 4 126 [.t 3,(ef 5000)],aU 5 .leq 4 5000,J 6 5,av 6 true (aZ 7 4 1),av 6 true (cD 8 127 7),dB 9 6 8,J 2 9] .ret))
def AI:C:=(aa [c0 2 0,eO 4 1] (.seq (aa [aJ 7 0 1 2,ay 8 1 7,aU 9 .eql 8 1] (a1 9 (aa [J 10 1,aJ 11 1 1 2,ay 12 1 11,ch 13 128 10 12,J 4 13] .ret) .skip)) (.seq (aa [aJ 14 3 1 2,ay 15 1 14,cH 16 15,cb 17 0] (fm 18 17 16 (.seq (.block 1 (aa [cE 19 4 15 17,aZ 20 4 19,cP 6 dk,bu 4 6 20] (.region [aZ 21 4 6,J 22 1,ch 23 77 21 22,J 1 23]))) (.region [aU 24 .add 17 1,J 17 24])))) (aa [J 25 1,J 4 25] .ret))))
def TF:C:=(aa [cP 4 dk,bp 5 false] (.seq (aa [J 8 0,cH 9 8,cb 10 0] (fm 11 10 9 (.seq (.block 1 (aa [cE 12 5 8 10,aZ 13 5 12,cP 7 iC,bu 5 7 13] (aa [aJ 14 0 1 7,ay 15 1 14,J 16 1,bC 17 .eql 15 16] (a1 17 (aa [hN 18 1 4 7,aZ 19 4 18,bu 4 4 19,bp 5 true] .ret) .skip)))) (.region [aU 20 .add 10 1,J 10 20])))) (aa [gr 21 dk [],bu 4 4 21,bp 5 false] .ret)))
def TD:C:=(aa [c0 3 1,cP 4 dk,bp 5 false] (aa [J 7 0,aZ 8 4 3,ch 9 38 7 8,cP 6 dk,bu 4 6 9] (.seq (.drawn true 13 [aZ 10 4 6,aZ 11 4 6,cD 12 129 11,bu 4 4 10,J 5 12]) .ret)))
def tY:C:=(aa [c0 4 1,c0 5 2,eO 6 5,bp 7 false] (aa [J 12 0,aZ 13 4 4,ch 14 151 12 13,bu 4 4 14] (aa [J 15 0,aZ 16 4 5,ch 17 151 15 16,bu 4 5 17] (.seq (aa [aJ 18 0 1 4,ay 19 1 18,aU 20 .eql 19 1,J 21 20,av 21 true (aJ 22 0 1 5),av 21 true (ay 23 1 22),av 21 true (aU 24 .eql 23 1),dB 25 21 24,J 26 25,av 26 true (aJ 27 1 1 4),av 26 true (ay 28 1 27),av 26 true (aJ 29 1 1 5),av 26 true (ay 30 1 29),av 26 true (bC 31 .lss 28 30),dB 32 26 31] (a1 32 (aa [J 33 0,aJ 34 1 1 5,ay 35 1 34,aZ 36 4 4,c4 37 152 [.t 33,.t 35,.t 36],cg 38 0 37,cg 39 1 37,J 6 38,J 7 39] .ret) .skip)) (.seq (aa [aJ 40 0 1 4,ay 41 1 40,aU 42 .eql 41 1,J 43 42,av 43 true (aJ 44 0 1 5),av 43 true (ay 45 1 44),av 43 true (aU 46 .eql 45 1),dB 47 43 46,J 48 47,av 48 true (aJ 49 1 1 4),av 48 true (ay 50 1 49),av 48 true (aJ 51 1 1 5),av 48 true (ay 52 1 51),av 48 true (bC 53 .eql 50 52),dB 54 48 53] (a1 54 (aa [J 55 0,J 6 55,bp 7 true] .ret) .skip)) (.seq (aa [aJ 56 0 1 4,ay 57 1 56,aU 58 .eql 57 1] (a1 58 (aa [J 59 0,aJ 60 1 1 4,ay 61 1 60,aZ 62 4 5,c4 63 152 [.t 59,.t 61,.t 62],cg 64 0 63,cg 65 1 63,J 6 64,J 7 65] .ret) .skip)) (.seq (aa [aJ 66 0 1 5,ay 67 1 66,aU 68 .eql 67 1] (a1 68 (aa [J 69 0,aJ 70 1 1 5,ay 71 1 70,aZ 72 4 4,c4 73 152 [.t 69,.t 71,.t 72],cg 74 0 73,cg 75 1 73,J 6 74,J 7 75] .ret) .skip)) (.seq (aa [aJ 76 0 1 4,ay 77 1 76,aJ 78 0 1 5,ay 79 1 78,bC 80 .neq 77 79,J 81 80,av 81 false (aJ 82 1 1 4),av 81 false (ay 83 1 82),av 81 false (aJ 84 1 1 5),av 81 false (ay 85 1 84),av 81 false (bC 86 .neq 83 85),c8 87 81 86,J 88 87,av 88 false (aJ 89 2 1 4),av 88 false (ay 90 1 89),av 88 false (aJ 91 2 1 5),av 88 false (ay 92 1 91),av 88 false (bC 93 .neq 90 92),c8 94 88 93] (a1 94 (aa [eO 6 5,bp 7 false] .ret) .skip)) (.seq (aa [aJ 95 3 1 4,ay 96 1 95,cH 97 96,cb 98 0] (fm 99 98 97 (.seq (.block 1 (aa [J 100 98,cE 101 4 96 98,aZ 102 4 101,cP 9 dk,J 8 100,bu 4 9 102] (.seq (.drawn true 119 [J 104 0,aZ 105 4 9,aJ 106 3 1 5,ay 107 1 106,J 108 8,cE 109 4 107 108,aZ 110 4 109,c4 111 101 [.t 104,.t 105,.t 110],J 103 111,cg 112 0 103,cg 113 1 103,J 10 112,J 11 113]) (.seq (aa [J 114 11,ct 115 114] (a1 115 (aa [eO 6 5,bp 7 false] .ret) .skip)) (.region [J 116 10,J 0 116]))))) (.region [aU 117 .add 98 1,J 98 117])))) (aa [J 118 0,J 6 118,bp 7 true] .ret))))))))))
def Tf:C:=(aa [bp 2 false] (.seq (aa [cb 3 0] (.block 0 (.loop (.seq (aa [J 5 3,J 6 0,bT 7 (.slen (.t 6)),bC 8 .lss 5 7] (a1 8 .skip (.exit 0))) (.seq (.block 1 (aa [J 11 0,J 12 3,bT 13 (.sidx (.t 11) (.t 12)),bT 14 (.bin .geq false (.t 13) (.c (.int .u8 97))),J 15 14,b6 15 true 16 0,b6 15 true 17 3,av 15 true (bT 18 (.sidx (.t 16) (.t 17))),av 15 true (bT 19 (.bin .leq false (.t 18) (.c (.int .u8 122)))),dB 20 15 19,J 4 20] (aa [J 21 4,ct 22 21,J 23 22,b6 23 true 24 3,av 23 true (aU 25 .eql 24 0),b6 23 true 26 25,b6 26 false 27 0,b6 26 false 28 3,av 26 false (bT 29 (.sidx (.t 27) (.t 28))),av 26 false (bT 30 (.bin .neq false (.t 29) (.c (.int .u8 45)))),b6 26 false 31 30,b6 31 true 32 0,b6 31 true 33 3,av 31 true (bT 34 (.sidx (.t 32) (.t 33))),av 31 true (bT 35 (.conv .i64 (.t 34))),av 31 true (c4 36 67 [.t 35,(ef 48),(ef 57)]),av 31 true (ct 37 36),av 26 false (dB 38 31 37),av 23 true (c8 39 26 38),dB 40 23 39] (a1 40 (aa [bp 2 false] .ret) .skip)))) (.region [J 9 3,aU 10 .add 9 1,J 3 10])))))) (aa [J 41 0,bT 42 (.slen (.t 41)),c4 43 67 [.t 42,(ef 1),(ef 12)],J 2 43] .ret)))
def TJ:C:=(aa [eO 4 5,bp 5 false] (aa [ea 10 4 36 [],J 6 10] (aa [ea 11 4 36 [],J 7 11] (.seq (aa [J 12 1,cH 13 12,cb 14 0] (fm 15 14 13 (.seq (.block 1 (aa [cE 16 5 12 14,aZ 17 5 16,cP 9 iC,bu 5 9 17] (aa [J 18 6,aJ 19 0 1 9,ay 20 1 19,cD 21 84 20,ea 22 4 36 [.t 21],gT 23 4 36 18 22,J 6 23] (.region [J 24 7,hN 25 1 4 9,aZ 26 4 25,ea 27 4 36 [.t 26],gT 28 4 36 24 27,J 7 28])))) (.region [aU 29 .add 14 1,J 14 29])))) (aa [J 30 0,J 31 6,J 32 7,c4 33 156 [.t 30,.t 31,.t 32],cg 34 0 33,cg 35 1 33,J 4 34,J 5 35] .ret)))))
def Tt:C:=(aa [c0 2 0,cb 4 0] (aa [cb 5 1] (.seq (aa [aJ 8 3 1 2,ay 9 1 8,cH 10 9,cb 11 0] (fm 12 11 10 (.seq (.block 1 (aa [cE 13 4 9 11,aZ 14 4 13,cP 7 dk,bu 4 7 14] (.seq (aa [J 15 5,J 16 1,bC 17 .gtr 15 16] (a1 17 (aa [J 18 5,J 4 18] .ret) .skip)) (.region [J 19 5,aZ 20 4 7,J 21 1,J 22 5,bC 23 .sub 21 22,ch 24 126 20 23,bC 25 .add 19 24,J 5 25])))) (.region [aU 26 .add 11 1,J 11 26])))) (aa [J 27 5,J 4 27] .ret))))
def mQ:C:=(aa [c0 1 0,bp 2 false] (.seq (aa [aJ 3 0 1 1,ay 4 1 3,aU 5 .neq 4 1,J 6 5,av 6 true (aJ 7 0 1 1),av 6 true (ay 8 1 7),av 6 true (aU 9 .neq 8 3),dB 10 6 9,J 11 10,av 11 true (aJ 12 1 1 1),av 11 true (ay 13 1 12),av 11 true (aU 14 .neq 13 0),dB 15 11 14,J 16 15,av 16 false (aJ 17 0 1 1),av 16 false (ay 18 1 17),av 16 false (aU 19 .neq 18 2),b6 16 false 20 19,av 20 true (aJ 21 2 1 1),av 20 true (ay 22 1 21),yk 20 true 23 (.bin .neq false (.t 22) (.c (.str []))),av 16 false (dB 24 20 23),c8 25 16 24,J 26 25,av 26 false (aJ 27 0 1 1),av 26 false (ay 28 1 27),av 26 false (aU 29 .neq 28 4),b6 26 false 30 29,av 30 true (aJ 31 3 1 1),av 30 true (ay 32 1 31),av 30 true (cH 33 32),av 30 true (aU 34 .gtr 33 0),av 26 false (dB 35 30 34),c8 36 26 35] (a1 36 (aa [bp 2 false] .ret) .skip)) (.seq (aa [aJ 37 0 1 1,ay 38 1 37] (.block 0 (aa [aU 40 .eql 38 0,J 39 40] (a1 39 (aa [bp 2 true] .ret) (aa [aU 42 .eql 38 1,J 41 42] (a1 41 (aa [aJ 43 1 1 1,ay 44 1 43,c4 45 67 [.t 44,(ef 0),(ef 100000)],J 2 45] .ret) (aa [aU 47 .eql 38 2,J 46 47] (a1 46 (aa [aJ 48 2 1 1,ay 49 1 48,cD 50 119 49,J 2 50] .ret) (aa [aU 52 .eql 38 3,J 51 52] (a1 51 (aa [aJ 53 1 1 1,ay 54 1 53,c4 55 67 [.t 54,(ef (-1000000000)),(ef 1000000000)],J 2 55] .ret) (aa [aU 57 .eql 38 4,J 56 57] (a1 56 (aa [aJ 58 3 1 1,ay 59 1 58,cH 60 59,aU 61 .eql 60 2,J 62 61,av 62 true (aJ 63 3 1 1),av 62 true (ay 64 1 63),av 62 true (j5 65 4 64 0),av 62 true (aZ 66 4 65),av 62 true (cD 67 127 66),dB 68 62 67,J 69 68,av 69 true (aJ 70 3 1 1),av 69 true (ay 71 1 70),av 69 true (j5 72 4 71 1),av 69 true (aZ 73 4 72),av 69 true (cD 74 127 73),dB 75 69 74,J 2 75] .ret) .skip)))))))))))) (aa [bp 2 false] .ret))))
def Tw:C:=(aa [eO 4 1] (aa [J 7 0,cH 8 7,J 5 8] (.seq (.block 0 (.loop (.seq (aa [J 9 5,aU 10 .gtr 9 0,J 11 10,b6 11 true 12 0,b6 11 true 13 5,av 11 true (aU 14 .sub 13 1),av 11 true (cE 15 1 12 14),av 11 true (ay 16 1 15),b6 11 true 17 1,av 11 true (bC 18 .geq 16 17),dB 19 11 18] (a1 19 .skip (.exit 0))) (.block 1 (.region [J 20 5,aU 21 .sub 20 1,J 5 21]))))) (.seq (aa [J 22 5,J 23 0,cH 24 23,bC 25 .lss 22 24,J 26 25,b6 26 true 27 0,b6 26 true 28 5,av 26 true (cE 29 1 27 28),av 26 true (ay 30 1 29),b6 26 true 31 1,av 26 true (bC 32 .eql 30 31),dB 33 26 32] (a1 33 (aa [J 34 0,J 4 34] .ret) .skip)) (aa [ea 35 1 3 [],J 36 0,J 37 5,bT 38 (.lsl 1 (.t 36) none (some (.t 37))),gT 39 1 3 35 38,J 6 39] (aa [J 40 6,J 41 1,ea 42 1 3 [.t 41],gT 43 1 3 40 42,J 6 43] (aa [J 44 6,J 45 0,J 46 5,bT 47 (.lsl 1 (.t 45) (some (.t 46)) none),gT 48 1 3 44 47,J 4 48] .ret)))))))
def Tv:C:=(aa [c0 1 0,bp 2 false] (aa [aZ 3 4 1,c4 4 126 [.t 3,(ef 5000)],aU 5 .leq 4 5000,J 2 5] .ret))
def GW:C:=(aa [c0 3 1,cP 4 dk] (.seq (aa [aJ 7 0 1 3,ay 8 1 7,aU 9 .eql 8 1] (a1 9 (aa [J 11 0,aJ 12 1 1 3,ay 13 1 12,ch 14 78 11 13,J 10 14,cg 15 0 10,cg 16 1 10,cP 5 dk,bu 4 5 15,J 6 16] (aa [J 17 6] (a1 17 (aa [aZ 18 4 5,bu 4 4 18] .ret) .skip))) .skip)) (aa [aZ 19 4 3,bu 4 4 19] .ret)))
def Dj:C:=(aa [c0 5 2,eO 6 5,bp 7 false] (aa [J 15 0,aZ 16 4 5,ch 17 79 15 16,J 14 17,cg 18 0 14,cg 19 1 14,cP 8 dk,bu 4 8 18,J 9 19] (.seq (aa [J 20 9,ct 21 20,J 22 21,b6 22 false 23 1,av 22 false (aZ 24 4 8),av 22 false (ch 25 171 23 24),c8 26 22 25,J 27 26,b6 27 false 28 0,av 27 false (cH 29 28),av 27 false (aU 30 .geq 29 400),c8 31 27 30] (a1 31 (aa [eO 6 5,bp 7 false] .ret) .skip)) (aa [ea 32 5 54 [],J 10 32] (.seq (aa [J 33 0,cH 34 33,cb 35 0] (fm 36 35 34 (.seq (.block 1 (aa [cE 37 5 33 35,aZ 38 5 37,cP 12 iC,bu 5 12 38] (aa [hN 39 1 4 12,aZ 40 4 39,J 41 1,aZ 42 4 8,c4 43 172 [.t 40,.t 41,.t 42],cP 13 dk,bu 4 13 43] (.seq (aa [aZ 44 4 13,cD 45 129 44,ct 46 45] (a1 46 (aa [eO 6 5,bp 7 false] .ret) .skip)) (.region [J 47 10,aJ 48 0 1 12,ay 49 1 48,aZ 50 4 13,gr 51 iC [(0,1,(.t 49)),(1,4,(.t 50))],ea 52 5 54 [.t 51],gT 53 5 54 47 52,J 10 53]))))) (.region [aU 54 .add 35 1,J 35 54])))) (aa [J 55 10,J 56 1,aZ 57 4 8,gr 58 iC [(0,1,(.t 56)),(1,4,(.t 57))],ch 59 173 55 58,J 6 59,bp 7 true] .ret))))))
def TI:C:=(aa [eO 6 5,bp 7 false] (.seq (aa [J 12 1,cH 13 12,cb 14 0] (fm 15 14 13 (.seq (.block 1 (aa [J 16 14,cE 17 4 12 14,aZ 18 4 17,cP 9 dk,J 8 16,bu 4 9 18] (.seq (.drawn true 34 [J 20 0,aZ 21 4 9,J 22 2,J 23 8,cE 24 4 22 23,aZ 25 4 24,c4 26 101 [.t 20,.t 21,.t 25],J 19 26,cg 27 0 19,cg 28 1 19,J 10 27,J 11 28]) (.seq (aa [J 29 11,ct 30 29] (a1 30 (aa [eO 6 5,bp 7 false] .ret) .skip)) (.region [J 31 10,J 0 31]))))) (.region [aU 32 .add 14 1,J 14 32])))) (aa [J 33 0,J 6 33,bp 7 true] .ret)))
def Ty:C:=(aa [c0 3 1,bp 4 false] (.seq (aa [aJ 7 3 1 3,ay 8 1 7,cH 9 8,cb 10 0] (fm 11 10 9 (.seq (.block 1 (aa [cE 12 4 8 10,aZ 13 4 12,cP 6 dk,bu 4 6 13] (aa [J 14 0,aZ 15 4 6,ch 16 171 14 15] (a1 16 (aa [bp 4 true] .ret) .skip)))) (.region [aU 17 .add 10 1,J 10 17])))) (aa [aJ 18 0 1 3,ay 19 1 18,aU 20 .eql 19 1,J 21 20,av 21 true (aJ 22 1 1 3),av 21 true (ay 23 1 22),b6 21 true 24 0,av 21 true (bC 25 .eql 23 24),dB 26 21 25,J 4 26] .ret)))
def GU:C:=(aa [c0 3 0,c0 5 2,cP 6 dk] (.seq (aa [aJ 7 0 1 3,ay 8 1 7,aU 9 .eql 8 1,J 10 9,av 10 true (aJ 11 1 1 3),av 10 true (ay 12 1 11),b6 10 true 13 1,av 10 true (bC 14 .eql 12 13),dB 15 10 14] (a1 15 (aa [aZ 16 4 5,bu 4 6 16] .ret) .skip)) (.seq (aa [aJ 17 0 1 3,ay 18 1 17,aU 19 .eql 18 4] (a1 19 (.seq (.drawn true 36 [aJ 20 3 1 3,ay 21 1 20,j5 22 4 21 0,aZ 23 4 22,J 24 1,aZ 25 4 5,c4 26 172 [.t 23,.t 24,.t 25],aJ 27 3 1 3,ay 28 1 27,j5 29 4 28 1,aZ 30 4 29,J 31 1,aZ 32 4 5,c4 33 172 [.t 30,.t 31,.t 32],ch 34 83 26 33,bu 4 6 34]) .ret) .skip)) (aa [aZ 35 4 3,bu 4 6 35] .ret))))
def TG:C:=(aa [c0 3 1,eO 4 5] (aa [J 7 0,cH 8 7,J 5 8] (.seq (.block 0 (.loop (.seq (.seq (.drawn true 38 [J 9 5,aU 10 .gtr 9 0,J 11 10,b6 11 true 12 0,b6 11 true 13 5,av 11 true (aU 14 .sub 13 1),av 11 true (cE 15 5 12 14),av 11 true (aJ 16 0 1 15),av 11 true (ay 17 1 16),av 11 true (aJ 18 0 1 3),av 11 true (ay 19 1 18),av 11 true (bC 20 .gtr 17 19),dB 21 11 20]) (a1 21 .skip (.exit 0))) (.block 1 (.region [J 22 5,aU 23 .sub 22 1,J 5 23]))))) (aa [ea 24 5 54 [],J 25 0,J 26 5,bT 27 (.lsl 5 (.t 25) none (some (.t 26))),gT 28 5 54 24 27,J 6 28] (aa [J 29 6,aZ 30 5 3,ea 31 5 54 [.t 30],gT 32 5 54 29 31,J 6 32] (aa [J 33 6,J 34 0,J 35 5,bT 36 (.lsl 5 (.t 34) (some (.t 35)) none),gT 37 5 54 33 36,J 4 37] .ret))))))
def lV:List (Nat×dG):=[
 (3,⟨1,8,.int .i64,.int .i64 0⟩),
 (5,⟨1,1,.int .u8,.int .u8 0⟩),
 (9,⟨1,16,.str,.str []⟩),
 (23,⟨1,24,.slice 54,.slice 5 .nil []⟩),
 (34,⟨1,24,.slice 36,.slice 4 .nil []⟩),
 (36,⟨4,56,.struct [(0,3),(1,3),(2,9),(3,34)],.agg [.int .i64 0,.int .i64 0,.str [],.slice 4 .nil []]⟩),
 (54,⟨5,64,.struct [(0,3),(1,36)],.agg [.int .i64 0,.int .i64 0,.int .i64 0,.str [],.slice 4 .nil []]⟩),
 (97,⟨1,24,.slice 3,.slice 1 .nil []⟩)]
theorem eY:fX aA lV=true:=by kernel_rfl
theorem OT:b7 lV GV [.cell 4 true 4] 2 Tryz.f38=true:=by kernel_rfl
theorem ana:b7 lV Tp [.tmp 6] 3 Tryz.f67=true:=by kernel_rfl
theorem YW:b7 lV Ln [.tmp 2] 1 Tryz.f68=true:=by kernel_rfl
theorem ant:b7 lV TH [.tmp 2] 1 Tryz.f75=true:=by kernel_rfl
theorem am7:b7 lV Tm [.tmp 2] 1 Tryz.f76=true:=by kernel_rfl
theorem E2:b7 lV AI [.tmp 4] 2 Tryz.f77=true:=by kernel_rfl
theorem anr:b7 lV TF [.cell 4 true 4,.tmp 5] 2 Tryz.f78=true:=by kernel_rfl
theorem anp:b7 lV TD [.cell 4 true 4,.tmp 5] 2 Tryz.f79=true:=by kernel_rfl
theorem wm:b7 lV tY [.tmp 6,.tmp 7] 3 Tryz.f101=true:=by kernel_rfl
theorem am0:b7 lV Tf [.tmp 2] 1 Tryz.f119=true:=by kernel_rfl
theorem anv:b7 lV TJ [.tmp 4,.tmp 5] 2 Tryz.f123=true:=by kernel_rfl
theorem anf:b7 lV Tt [.tmp 4] 2 Tryz.f126=true:=by kernel_rfl
theorem nO:b7 lV mQ [.tmp 2] 1 Tryz.f127=true:=by kernel_rfl
theorem ani:b7 lV Tw [.tmp 4] 2 Tryz.f128=true:=by kernel_rfl
theorem anh:b7 lV Tv [.tmp 2] 1 Tryz.f129=true:=by kernel_rfl
theorem OU:b7 lV GW [.cell 4 true 4] 2 Tryz.f151=true:=by kernel_rfl
theorem I7:b7 lV Dj [.tmp 6,.tmp 7] 3 Tryz.f152=true:=by kernel_rfl
theorem anu:b7 lV TI [.tmp 6,.tmp 7] 3 Tryz.f156=true:=by kernel_rfl
theorem ank:b7 lV Ty [.tmp 4] 2 Tryz.f171=true:=by kernel_rfl
theorem OS:b7 lV GU [.cell 6 true 4] 3 Tryz.f172=true:=by kernel_rfl
theorem ans:b7 lV TG [.tmp 4] 2 Tryz.f173=true:=by kernel_rfl
mutual
def mm:bZ->Int->Int
 | .mk _ _ _ args,m=>pA args 1 m
def pA:List bZ->Int->Int->Int
 |[],n,_=>n
 |x::xs,n,m=>if m<n then n else pA xs (n+mm x (m-n)) m
end
mutual
theorem Lv:∀(t:bZ) (m:Int),0<=m->1<=mm t m/\mm t m<=m+1
 | .mk _ _ _ args,m,h=>by simp only[mm];exact T7 args 1 m h Ω Ω
theorem T7:∀(l:List bZ) (n m:Int),0<=m->1<=n->n<=m+1->1<=pA l n m/\pA l n m<=m+1
 |[],n,m,_,I,U=>by simp only[pA];exact⟨I,U⟩
 |x::xs,n,m,bB,I,U=>by
  simp only[pA];split
  ·exact⟨I,U⟩
  ·have:=Lv x (m-n) Ω;exact T7 xs _ m bB Ω Ω
end
theorem G1:∀(t:T) (m:Int),0<=m->(mm t.tm m<=m↔(t.size:Int)<=m)/\((t.size:Int)<=m->mm t.tm m=t.size)
 | .pair a b,m,h=>by
  have bk:=T.size_pos a;have ad:=T.size_pos b;simp only[T.tm,mm,pA,T.size];by_cases I:m<1
  ·rw[if_pos I];exact⟨Ω,fun h=>Ω⟩
  ·rw[if_neg I];obtain⟨bF,a2⟩:=G1 a (m-1) Ω;have a3:=Lv a.tm (m-1) Ω;by_cases U:(a.size:Int)<=m-1
   ·have e:=a2 U;rw[e];by_cases ao:m<1+(a.size:Int)
    ·omega
    ·rw[if_neg ao];obtain⟨b1,b2⟩:=G1 b (m-(1+a.size)) Ω;refine⟨Ω,fun h=>?_⟩;rw[b2 Ω];omega
   ·have:¬mm a.tm (m-1)<=m-1:=fun h=>U (bF.1 h);rw[if_pos Ω];exact⟨Ω,fun h=>Ω⟩
 | .nil,m,h=>by simp[T.tm,mm,pA,T.size]
 | .var _,m,h=>by simp[T.tm,mm,pA,T.size]
 | .sym _,m,h=>by simp[T.tm,mm,pA,T.size]
 | .num _,m,h=>by simp[T.tm,mm,pA,T.size]
theorem adu(t:bZ)(m:Int):mm t m=pA t.args 1 m:=by cases t;rfl
theorem abD(t:bZ):∀m:Int,0<=m->m<=1000000->bR aA 126 [enc t,.int .i64 m] (.int .i64 (mm t m)):=by
 suffices H:∀(k:Nat) (t:bZ),t.sz<=k->∀m:Int,0<=m->m<=1000000->bR aA 126 [enc t,.int .i64 m] (.int .i64 (mm t m))from H _ t (eo _)
 intro k;induction k with
 |zero=>intro t aC;cases t;simp[bZ.sz]at aC
 |succ k bK=>
  intro t aC m bB I;refine br eY Tryz.func126 anf fun aR=>?_;unfold Tt;have ik:t.args.length<=68719476736:=by rw[Dp]at aR;simp[gO,gj,gE,lim]at aR;omega
  simp;refine ep [1,9,10] (fun i (n:Int)=>[(5,.int .i64 n),(11,.int .i64 i)]) t.args.length (fun i n=>(1<=n/\n<=m+1)/\pA (t.args.drop i) n m=mm t m) 1 b0 ⟨Ω,by simp[adu]⟩ (fun n ag _=>?_) (fun i n hi ag _=>?_)
  ·simp;(with_reducible repeat' first|refine ak ?_|simp);simp[bz,aY,a6,aX];have:=ag.2;simp[pA]at this;exact this
  ·obtain⟨⟨nC,D7⟩,ag⟩:=ag;obtain⟨x,ab,c1⟩:=en hi;have aD:t.args.drop i=x::t.args.drop (i+1):=by rw[lA hi,c1]
   have dY:x.sz<=k:=by have:=ap4 (ek ab);omega
   rw[aD]at ag;simp only[pA]at ag;simp[hi,c1];by_cases ad:m<n
   ·rw[if_pos ad]at ag;(with_reducible repeat' first|refine ak ?_|simp[ad]);simp[bz,aY,a6,aX];exact ag
   ·rw[if_neg ad]at ag;have aq:=Lv x (m-n) Ω;((with_reducible repeat' first|refine ak ?_|refine aF (bK x dY (m-n) Ω Ω) ?_|refine aG (bK x dY (m-n) Ω Ω) ?_|simp[ad]|((first|apply bN|apply bP|apply bO)<;>intro h<;>try simp at h))<;>(try exact cf));exact bS.rng (n+mm x (m-n)) hi ⟨Ω,ag⟩ b0
theorem CN(t:T):bR aA 129 [t.e] (.bool (decide (t.size<=5000))):=by
 have aq:=(G1 t 5000 Ω).1;have key:=abD t.tm 5000 Ω Ω;rw[mq]at key;refine br eY Tryz.func129 anh fun aR=>?_;unfold Tv;simp;(with_reducible repeat' first|refine ak ?_|refine aF key ?_|refine aG key ?_|simp);simp[bz,aY,a6,aX];have:(mm t.tm 5000<=5000)=(t.size<=5000):=by rw[aq];simp;omega
 simp[this]
def akj(l:List ah)(v:Int)(k:Nat)(st:bt):Prop:=∃i:Nat,i<=l.length/\k=l.length-i/\cO l v=cO (l.drop i) v/\st=⟨[(1,.int .i64 v),(4,.ptr (.loc 0) 0),(8,.slice 5 .no (l.map ah.e)),(9,.int .i64 l.length),(10,.int .i64 i)],[(.loc 0,[.int .i64 0,.int .i64 0,.str [],.slice 4 .nil []])],[],1,[]⟩
theorem sk(l:List ah)(v:Int)(aw:l.length<=1000000):bR aA 78 [.slice 5 .no (l.map ah.e),.int .i64 v] (.tuple [((cO l v).getD .nil).e,.bool (cO l v).isSome]):=by
 refine br eY Tryz.func78 anr fun aR=>?_;unfold TF;simp;refine oT (akj l v) l.length _ b0 ⟨0,Ω,rfl,Ψ,rfl⟩ ?_;rintro k st ⟨i,hi,ae,aT,rfl⟩ kr cN;clear kr cN;by_cases bD:i<l.length
 ·obtain⟨b,ad⟩:∃b,l[i]? =some b:=⟨_,cm bD⟩;have V4:l.drop i=b::l.drop (i+1):=by rw[lA bD];rw[cm bD]at ad;simp at ad;rw[ad]
  have cK:∀h,l[i]'h=b:=fun h=>by rw[cm h]at ad;simpa using ad
  simp[cK,bD];(with_reducible repeat' first|((first|apply bN|apply bP|apply bO)<;>intro h<;>try simp at h)|refine ak ?_|simp[cK])
  ·have:cO l v=some b.t:=by rw[aT,V4];simp[cO,h]
   simp[bz,aY,a6,aX];simp[this]
  ·refine bS.next (l.length-(i+1)) Ω ⟨i+1,Ω,rfl,?_,rfl⟩ b0;rw[aT,V4];simp[cO,h]
 ·have:cO l v=none:=by rw[aT,List.drop_of_length_le Ω];simp[cO]
  simp[bD];(with_reducible repeat' first|((first|apply bN|apply bP|apply bO)<;>intro h<;>try simp at h)|refine ak ?_|simp);simp[bz,aY,a6,aX];simp[this]
theorem aqL(l:List ah)(aw:l.length<=1000000)(t:T):bR aA 38 [.slice 5 .no (l.map ah.e),t.e] (t.sub (cO l)).e:=by
 induction t with
 |pair a b dQ dR=>
  refine br eY Tryz.func38 OT fun aR=>?_;unfold GV;simp;(with_reducible repeat' first|refine ak ?_|refine aF dQ ?_|refine aG dQ ?_|refine aF dR ?_|refine aG dR ?_|refine aF (CO _ _) ?_|refine aG (CO _ _) ?_|simp);all_goals simp[bz,aY,a6,aX]
  all_goals simp[T.sub]
 |var n=>
  refine br eY Tryz.func38 OT fun aR=>?_;unfold GV;simp;((with_reducible repeat' first|refine ak ?_|refine aF (sk l n aw) ?_|refine aG (sk l n aw) ?_|simp|((first|apply bN|apply bP|apply bO)<;>intro h<;>try simp at h))<;>(try exact cf));all_goals simp[bz,aY,a6,aX]
  all_goals cases ad:cO l n<;>simp_all[T.sub]
 |_=>
  refine br eY Tryz.func38 OT fun aR=>?_;unfold GV;simp;(with_reducible repeat' first|refine ak ?_|simp);all_goals simp[bz,aY,a6,aX]
  all_goals simp[T.sub]
theorem abI(l:List ah)(aw:l.length<=1000000)(t:T):bR aA 38 [.slice 5 .no (l.map ah.e),t.e] (t.ap (aV l)).e:=by have:=aqL l aw t;rw[aaT]at this;exact this
theorem Ah(l:List ah)(aw:l.length<=1000000)(t:T):bR aA 79 [.slice 5 .no (l.map ah.e),t.e] (.tuple [(t.ap (aV l)).e,.bool (decide ((t.ap (aV l)).size<=5000))]):=by refine br eY Tryz.func79 anp fun aR=>?_;unfold TD;simp;(with_reducible repeat' first|refine ak ?_|refine aF (abI l aw t) ?_|refine aG (abI l aw t) ?_|refine aF (CN _) ?_|refine aG (CN _) ?_|simp);simp[bz,aY,a6,aX]
def xQ(v:Int)(l:List T):Bool:=l.any (T.occ v)
theorem YF(v:Int)(t:T):t.occ v=(xQ v t.args||(t.kind==1&&t.int==v)):=by cases t<;>simp[T.occ,xQ]
theorem yf(v:Int)(t:T):bR aA 171 [.int .i64 v,t.e] (.bool (t.occ v)):=by
 suffices H:∀(k:Nat) (t:T),t.size<=k->bR aA 171 [.int .i64 v,t.e] (.bool (t.occ v))from H _ t (eo _)
 intro k;induction k with
 |zero=>intro t aC;have:=T.size_pos t;omega
 |succ k bK=>
  intro t aC;have mS:t.args.length<=2:=by cases t<;>simp
  refine br eY Tryz.func171 ank fun aR=>?_;unfold Ty;simp;refine ep [0,3,8,9] (fun i (_:Unit)=>[(10,.int .i64 i)]) t.args.length (fun i _=>xQ v (t.args.drop i)=xQ v t.args) () b0 Ψ (fun _ ag _=>?_) (fun i _ hi ag _=>?_)
  ·have bB:xQ v t.args=false:=by rw[<-ag];simp[xQ]
   rw[YF,bB];simp;((with_reducible repeat' first|refine ak ?_|simp|((first|apply bN|apply bP|apply bO)<;>intro h<;>try simp at h))<;>(try exact cf));all_goals simp[bz,aY,a6,aX]
   all_goals simp_all
  ·obtain⟨x,ab,c1⟩:=en hi;have aD:t.args.drop i=x::t.args.drop (i+1):=by rw[lA hi,c1]
   have dY:x.size<=k:=by have hm:=ek ab;have:=T.size_pos x;cases t<;>simp at hm;rcases hm with rfl|rfl<;>simp[T.size]at aC<;>omega
   simp only[aD,xQ,List.any_cons]at ag;simp[hi,c1];cases ax:x.occ v with
   |true=>
    rw[ax]at ag;simp at ag;have bB:t.occ v=true:=by rw[YF];simp[xQ];left;simpa using ag
    (with_reducible repeat' first|refine ak ?_|refine aF (bK x dY) ?_|refine aG (bK x dY) ?_|simp[ax]);simp[bz,aY,a6,aX];simp[bB]
   |false=>rw[ax]at ag;have NV:=bK x dY;exact hj
theorem Ki(v:Int)(x t:T):bR aA 172 [t.e,.int .i64 v,x.e] (t.ap (Go.Pv.one v x)).e:=by
 induction t with
 |pair a b dQ dR=>
  refine br eY Tryz.func172 OS fun aR=>?_;unfold GU;simp;(with_reducible repeat' first|refine ak ?_|refine aF dQ ?_|refine aG dQ ?_|refine aF dR ?_|refine aG dR ?_|refine aF (CO _ _) ?_|refine aG (CO _ _) ?_|simp);all_goals simp[bz,aY,a6,aX]
  all_goals simp[T.ap]
 |var n=>
  refine br eY Tryz.func172 OS fun aR=>?_;unfold GU;simp;((with_reducible repeat' first|refine ak ?_|simp|((first|apply bN|apply bP|apply bO)<;>intro h<;>try simp at h))<;>(try exact cf));all_goals simp[bz,aY,a6,aX]
  all_goals simp_all[T.ap,Go.Pv.one]
 |_=>
  refine br eY Tryz.func172 OS fun aR=>?_;unfold GU;simp;(with_reducible repeat' first|refine ak ?_|simp);all_goals simp[bz,aY,a6,aX]
  all_goals simp[T.ap]
theorem Kk(s:List ah)(aw:s.length<=1000000)(t:T):bR aA 151 [.slice 5 .no (s.map ah.e),t.e] (hS s t).e:=by
 cases t with
 |var n=>
  cases ad:cO s n with
  |none=>refine br eY Tryz.func151 OU fun aR=>?_;unfold GW;simp;(with_reducible repeat' first|refine ak ?_|refine aF (sk s n aw) ?_|refine aG (sk s n aw) ?_|simp[ad]);simp[bz,aY,a6,aX];simp[hS,aV,ad]
  |some x=>refine br eY Tryz.func151 OU fun aR=>?_;unfold GW;simp;(with_reducible repeat' first|refine ak ?_|refine aF (sk s n aw) ?_|refine aG (sk s n aw) ?_|simp[ad]);simp[bz,aY,a6,aX];simp[hS,aV,ad]
 |_=>refine br eY Tryz.func151 OU fun aR=>?_;unfold GW;simp;(with_reducible repeat' first|refine ak ?_|simp);simp[bz,aY,a6,aX];simp[hS]
theorem W2(b:ah):∀(s:List ah) (k:Nat),(∀i c,i<k->s[i]? =some c->c.v<=b.v)->(∀c,s[k]? =some c->b.v<c.v)->k<=s.length->pR b s=s.take k++b::s.drop k
 |[],k,_,_,ae=>by simp at ae;subst ae;rfl
 |c::s,0,_,U,_=>by have:=U c rfl;simp[pR,this]
 |c::s,k+1,I,U,ae=>by have:=I 0 c Ω rfl;simp only[pR,if_neg (by omega:¬b.v<c.v),List.take_succ_cons,List.drop_succ_cons,bQ];rw[W2 b s k (fun i d hi aD=>I (i+1) d Ω (by simpa using aD)) (fun d aD=>U d (by simpa using aD)) (by simpa using ae)]
theorem aqK(s:List ah)(b:ah)(aw:s.length<=1000000)(bk:gD s):bR aA 173 [.slice 5 .no (s.map ah.e),b.e] (.slice 5 .no ((pR b s).map ah.e)):=by
 refine br eY Tryz.func173 ans fun aR=>?_;unfold TG;simp;refine w6 [0,3] (fun(k:Nat)=>[(5,.int .i64 k)]) (fun k=>k) (fun k=>k<=s.length/\∀c,s[k]? =some c->b.v<c.v) s.length b0 ⟨Ω,fun c h=>by simp at h⟩ (fun k ag _=>?_);obtain⟨ae,ag⟩:=ag;have ur:(∀c,0<k->s[k-1]? =some c->c.v<=b.v)->pR b s=s.take k++b::s.drop k:=fun h=>W2 b s k (fun i c hi aq=>by
  obtain⟨d,aD⟩:∃d,s[k-1]? =some d:=⟨_,cm Ω⟩;have I:=h d Ω aD;rcases Nat.lt_or_ge i (k-1)with U|U
  ·have uu:=(fG.1 aq);have kD:=(fG.1 aD);have:=p6.1 bk i (k-1) uu.1 kD.1 U;rw[uu.2,kD.2]at this;omega
  ·have:i=k-1:=Ω
   subst this;rw[aD]at aq;cases aq;exact I) ag ae
 rcases Nat.eq_zero_or_pos k with rfl|fW
 ·have e:=ur fun c h=>Ω
  rw[e];simp;(with_reducible repeat' first|refine ak ?_|simp);simp[bz,aY,a6,aX];try simp[hV]
 ·obtain⟨d,aD⟩:∃d,s[k-1]? =some d:=⟨_,cm Ω⟩;have ar:((k:Int)-1).toNat=k-1:=Ω
  have aE:∀h,(s[k-1]'h)=d:=fun h=>by rw[cm h]at aD;exact eV aD
  have jI:(0:Int)<k:=Ω
  by_cases ad:b.v<d.v
  ·simp[fW,jI,ar,aE,ad,aD];(with_reducible repeat' first|refine ak ?_|simp[fW,jI,ar,aE,ad,aD]);refine bS.whl (k-1) Ω ⟨Ω,fun c aq=>by rw[aD]at aq;cases aq;exact ad⟩ ?_;have bA:((k-1:Nat):Int)=(k:Int)-1:=Ω
   simp[bA];exact b0
  ·have e:=ur fun c _ aq=>by rw[aD]at aq;cases aq;omega
   rw[e];simp[fW,jI,ar,aE,ad,aD];(with_reducible repeat' first|refine ak ?_|simp[fW,jI,ar,aE,ad,aD]);simp[bz,aY,a6,aX];have dr:p7 s.length (s.map ah.e)=s.map ah.e:=hV Ψ;rw[dr,<-List.map_take,<-List.map_drop,<-hc,<-List.map_append];exact aaR _
def Qe(v:Int)(x:T)(b:ah):ah:=⟨b.v,b.t.ap (Go.Pv.one v x)⟩
def akv(s:List ah)(v:Int)(x:T)(i:Nat)(out:List ah):Prop:=out=(s.take i).map (Qe v x)/\∀b∈s.take i,(b.t.ap (Go.Pv.one v x)).size<=5000
theorem aqN(s:List ah)(v:Int)(t:T)(aw:s.length<=1000000)(bk:gD s):bR aA 152 [.slice 5 .no (s.map ah.e),.int .i64 v,t.e] (ft (oQ s v t)):=by
 obtain⟨x,ab⟩:∃x,x=t.ap (aV s):=⟨_,rfl⟩;have sM:=Ah s aw t;rw[<-ab]at sM;obtain⟨o,ax⟩:∃o,o=oQ s v t:=⟨_,rfl⟩;have oq:x.size<=5000->x.occ v=false->s.length<400->(∀b∈s,(b.t.ap (Go.Pv.one v x)).size<=5000)->o=some (nr s v x):=fun aW bj bM cL=>by rw[ax,oQ,<-ab,if_pos ⟨aW,bj,bM,cL⟩]
 have cW:¬(x.size<=5000/\x.occ v=false/\s.length<400/\∀b∈s,(b.t.ap (Go.Pv.one v x)).size<=5000)->o=none:=fun q=>by rw[ax,oQ,<-ab,if_neg q]
 rw[<-ax];clear ax;by_cases I:x.size<=5000;rotate_left
 ·rw[cW fun h=>I h.1];refine br eY Tryz.func152 I7 fun aR=>?_;unfold Dj;simp;(with_reducible repeat' first|refine ak ?_|refine aF sM ?_|refine aG sM ?_|refine aF (yf _ _) ?_|refine aG (yf _ _) ?_|simp[I]);simp[bz,aY,a6,aX];simp[ft]
 cases U:x.occ v with
 |true=>rw[cW fun h=>by rw[U]at h;cases h.2.1];refine br eY Tryz.func152 I7 fun aR=>?_;unfold Dj;simp;(with_reducible repeat' first|refine ak ?_|refine aF sM ?_|refine aG sM ?_|refine aF (yf _ _) ?_|refine aG (yf _ _) ?_|simp[I,U]);simp[bz,aY,a6,aX];simp[ft]
 |false=>
 by_cases ao:s.length<400;rotate_left
 ·rw[cW fun h=>ao h.2.2.1];have ui:(400:Int)<=s.length:=Ω
  refine br eY Tryz.func152 I7 fun aR=>?_;unfold Dj;simp;(with_reducible repeat' first|refine ak ?_|refine aF sM ?_|refine aG sM ?_|refine aF (yf _ _) ?_|refine aG (yf _ _) ?_|simp[I,U,ui]);simp[bz,aY,a6,aX];simp[ft]
 have ui:¬(400:Int)<=s.length:=Ω
 refine br eY Tryz.func152 I7 fun aR=>?_;unfold Dj;simp;(with_reducible repeat' first|refine ak ?_|refine aF sM ?_|refine aG sM ?_|refine aF (yf _ _) ?_|refine aG (yf _ _) ?_|simp[I,U,ui]);refine hH (α:=List ah) (fun i out=>⟨[(1,.int .i64 v),(8,.ptr (.loc 1) 0),(33,.slice 5 .no (s.map ah.e)),(34,.int .i64 s.length),(10,.slice 5 (.own (.loc 2)) (out.map ah.e)),(35,.int .i64 i)],[(.loc 1,[.int .i64 x.kind,.int .i64 x.int,.str x.name,.slice 4 .no (x.args.map T.e)])],[(.loc 2,⟨out.length,54,5,none⟩)],3,[]⟩) s.length (akv s v x) [] b0 ⟨Ψ,Ψ⟩ (fun out ag _=>?_) (fun i out hi ag _=>?_)
 ·obtain⟨dX,oX⟩:=ag;rw[hV (eo _)]at dX oX;have aic:gD out:=by rw[dX,gD,List.pairwise_map];exact bk
  have Bn:out.length<=1000000:=by rw[dX];simpa using aw
  rw[oq I U ao oX];have key:=aqK out ⟨v,x⟩ Bn aic;simp;(with_reducible repeat' first|refine ak ?_|refine aF key ?_|refine aG key ?_|simp);simp[bz,aY,a6,aX];simp[ft,nr,dX];rfl
 ·obtain⟨dX,oX⟩:=ag;obtain⟨b,az,gw⟩:=en hi;have xz:s.take (i+1)=s.take i++[b]:=by rw[List.take_succ,az];rfl
  have Bn:out.length<=1000000:=by rw[dX];simp;omega
  simp[hi,gw];by_cases a8:(b.t.ap (Go.Pv.one v x)).size<=5000
  ·(with_reducible repeat' first|refine ak ?_|refine aF (Ki _ _ _) ?_|refine aG (Ki _ _ _) ?_|refine aF (CN _) ?_|refine aG (CN _) ?_|simp[gw,hi,a8]);all_goals first|(refine⟨by unfold lim;omega,?_⟩)|skip
   (with_reducible repeat' first|refine ak ?_|simp);refine bS.rng (out++[Qe v x b]) hi ⟨by rw[xz,dX,List.map_append];rfl,fun c aq=>?_⟩ ?_
   ·rw[xz]at aq;rcases h3.1 aq with aq|aq
    ·exact oX c aq
    ·simp at aq;subst aq;exact a8
   ·simp[Qe];exact⟨by simp[fresh,aP,aK,cq,inObs,Pv.look,jY],et (by simp[fresh,aP,aK,cq,inObs,Pv.look,jY]),eu (by simp[fresh,aP,aK,ee,inObs,Pv.look,jY]),Ψ⟩
  ·rw[cW fun h=>a8 (h.2.2.2 b (ek az))];(with_reducible repeat' first|refine ak ?_|refine aF (Ki _ _ _) ?_|refine aG (Ki _ _ _) ?_|refine aF (CN _) ?_|refine aG (CN _) ?_|simp[gw,hi,a8]);simp[bz,aY,a6,aX];simp[ft]
theorem aqf{s:List ah}(af:eQ s)(aO:fT s){n:Nat}{a b:T}{o:Option (List ah)}(h:ly n s a b=some o):jC s [(a,b)] o:=by obtain⟨n',o',I,U⟩:=Kc af aO a b;have ar:=FR (Nat.le_max_left n n') h;have aE:=FR (Nat.le_max_right n n') I;rw[ar]at aE;cases aE;exact U
def CK(n:Nat):List (T×T)->List ah->Option (Option (List ah))
 |[],s=>some (some s)
 |e::r,s=>match ly n s e.1 e.2 with
  |none=>none
  |some none=>some none
  |some (some s1)=>CK n r s1
def zu(x y:T):Bool:=x.kind==y.kind&&x.int==y.int&&x.name==y.name
theorem aqd(n:Nat)(s:List ah){x y:T}(ab:x.kind≠1)(aB:y.kind≠1):kQ (ly n) s x y=if zu x y then CK n (x.args.zip y.args) s else some none:=by
 cases x<;>cases y<;>simp[kQ,zu,CK]at ab aB⊢
 ·rename_i a b;split<;>simp_all
 ·rename_i a b;split<;>simp_all
 ·rename_i bF a2 b1 b2;cases ly n s bF b1 with
  |none=>rfl
  |some o=>cases o with
   |none=>rfl
   |some s1=>
    simp only
    cases ly n s1 a2 b2 with
    |none=>rfl
    |some o=>cases o<;>rfl
theorem akW{x y:T}(h:zu x y=true):x.args.length=y.args.length:=by cases x<;>cases y<;>simp[zu]at h⊢
@[simp]theorem asN(o:Option (List ah)):AS 0 (ft o)=some (True,.slice 5 .no ((o.getD []).map ah.e)):=rfl
@[simp]theorem asO(o:Option (List ah)):AS 1 (ft o)=some (True,.bool o.isSome):=rfl
theorem aqQ(n:Nat):∀(s:List ah) (a b:T) (o:Option (List ah)),eQ s->fT s->ly n s a b=some o->bR aA 101 [.slice 5 .no (s.map ah.e),a.e,b.e] (ft o):=by
 induction n with
 |zero=>intro s a b o _ _ h;simp[ly]at h
 |succ n bK=>
  intro s a b o af aO he;have aw:s.length<=1000000:=by have:=aO.1;omega
  have fP:=Kk s aw a;have dV:=Kk s aw b;simp only[ly]at he;generalize hS s a=x at he fP;generalize hS s b=y at he dV;have ad:=fun v t=>aqN s v t aw af.asc;have rM:∀z:T,¬z.kind=1->(z.kind==1)=false:=fun z h=>by simp[h]
  by_cases ab:x.kind=1
  ·obtain⟨i,rfl⟩:∃i,x= .var i:=by cases x<;>simp at ab;exact⟨_,rfl⟩
   by_cases aB:y.kind=1
   ·obtain⟨j,rfl⟩:∃j,y= .var j:=by cases y<;>simp at aB;exact⟨_,rfl⟩
    simp only[kQ,dD]at he;subst he;rcases Int.lt_trichotomy i j with h|h|h
    ·rw[if_pos h];have key:=ad j (.var i);refine br eY Tryz.func101 wm fun aR=>?_;unfold tY;simp;(with_reducible repeat' first|refine ak ?_|refine aF fP ?_|refine aG fP ?_|refine aF dV ?_|refine aG dV ?_|refine aF key ?_|refine aG key ?_|simp[h]);simp[bz,aY,a6,aX];simp[ft]
    ·subst h;rw[if_neg Ω,if_pos rfl];have bB:¬i<i:=Ω
     refine br eY Tryz.func101 wm fun aR=>?_;unfold tY;simp;(with_reducible repeat' first|refine ak ?_|refine aF fP ?_|refine aG fP ?_|refine aF dV ?_|refine aG dV ?_|simp[bB]);simp[bz,aY,a6,aX];simp[ft]
    ·rw[if_neg Ω,if_neg Ω];have key:=ad i (.var j);have bB:¬i<j:=Ω
     have U:¬i=j:=Ω
     refine br eY Tryz.func101 wm fun aR=>?_;unfold tY;simp;((with_reducible repeat' first|refine ak ?_|refine aF fP ?_|refine aG fP ?_|refine aF dV ?_|refine aG dV ?_|refine aF key ?_|refine aG key ?_|simp[bB,U]|((first|apply bN|apply bP|apply bO)<;>intro h<;>try simp at h))<;>(try exact cf));simp[bz,aY,a6,aX];simp[ft]
   ·have xi:oQ s i y=o:=by cases y<;>first|(simp at aB;done)|exact eV he
    subst xi;have key:=ad i y;refine br eY Tryz.func101 wm fun aR=>?_;unfold tY;simp;(with_reducible repeat' first|refine ak ?_|refine aF fP ?_|refine aG fP ?_|refine aF dV ?_|refine aG dV ?_|refine aF key ?_|refine aG key ?_|simp[rM y aB]);simp[bz,aY,a6,aX];simp[ft]
  ·by_cases aB:y.kind=1
   ·obtain⟨j,rfl⟩:∃j,y= .var j:=by cases y<;>simp at aB;exact⟨_,rfl⟩
    have xi:oQ s j x=o:=by cases x<;>first|(simp at ab;done)|exact eV he
    subst xi;have key:=ad j x;refine br eY Tryz.func101 wm fun aR=>?_;unfold tY;simp;(with_reducible repeat' first|refine ak ?_|refine aF fP ?_|refine aG fP ?_|refine aF dV ?_|refine aG dV ?_|refine aF key ?_|refine aG key ?_|simp[rM x ab]);simp[bz,aY,a6,aX];simp[ft]
   ·rw[aqd n s ab aB]at he;cases hle:zu x y with
    |false=>
     rw[hle]at he;simp at he;subst he;have MV:(x.kind !=y.kind)=true\/((x.kind !=y.kind)=false/\((x.int !=y.int)=true\/((x.int !=y.int)=false/\(x.name !=y.name)=true))):=by simp only[zu]at hle;simp only[bne];cases ar:(x.kind==y.kind)<;>cases aE:(x.int==y.int)<;>cases bA:(x.name==y.name)<;>simp_all
     rcases MV with aW|⟨aW,bj|⟨bj,bM⟩⟩
     ·refine br eY Tryz.func101 wm fun aR=>?_;unfold tY;simp;(with_reducible repeat' first|refine ak ?_|refine aF fP ?_|refine aG fP ?_|refine aF dV ?_|refine aG dV ?_|simp[rM x ab,rM y aB,aW]);simp[bz,aY,a6,aX];simp[ft]
     ·refine br eY Tryz.func101 wm fun aR=>?_;unfold tY;simp;(with_reducible repeat' first|refine ak ?_|refine aF fP ?_|refine aG fP ?_|refine aF dV ?_|refine aG dV ?_|simp[rM x ab,rM y aB,aW,bj]);simp[bz,aY,a6,aX];simp[ft]
     ·refine br eY Tryz.func101 wm fun aR=>?_;unfold tY;simp;have Ji:¬x.name=y.name:=by simpa using bM
      have an3:decide (x.name=y.name)=false:=by simp[Ji]
      ((with_reducible repeat' first|refine ak ?_|refine aF fP ?_|refine aG fP ?_|refine aF dV ?_|refine aG dV ?_|simp[rM x ab,rM y aB,aW,bj,bM,Ji,an3]|((first|apply bN|apply bP|apply bO)<;>intro h<;>try simp at h))<;>(try exact cf));simp[bz,aY,a6,aX];simp[ft]
    |true=>
     rw[hle,if_pos rfl]at he;have MV:(x.kind !=y.kind)=false/\(x.int !=y.int)=false/\(x.name !=y.name)=false:=by simp only[zu]at hle;simp only[bne];cases ar:(x.kind==y.kind)<;>cases aE:(x.int==y.int)<;>cases bA:(x.name==y.name)<;>simp_all
     obtain⟨aW,bj,bM⟩:=MV;have hlen:=akW hle;have Ji:x.name=y.name:=by simpa using bM
     have mS:x.args.length<=2:=by cases x<;>simp
     refine br eY Tryz.func101 wm fun aR=>?_;unfold tY;simp;(with_reducible repeat' first|refine ak ?_|refine aF fP ?_|refine aG fP ?_|refine aF dV ?_|refine aG dV ?_|simp[rM x ab,rM y aB,aW,bj,Ji]);refine hH (α:=List ah) (fun i ai=>⟨[(5,.ptr (.loc 1) 0),(96,.slice 4 .no (x.args.map T.e)),(97,.int .i64 x.args.length),(0,.slice 5 .no (ai.map ah.e)),(98,.int .i64 i)],[(.loc 1,[.int .i64 y.kind,.int .i64 y.int,.str y.name,.slice 4 .no (y.args.map T.e)])],[],2,[]⟩) x.args.length (fun i ai=>(eQ ai/\fT ai)/\CK n ((x.args.zip y.args).drop i) ai=some o) s b0 ⟨⟨af,aO⟩,by simpa using he⟩ (fun ai ag _=>?_) (fun i ai hi ag _=>?_)
     ·obtain⟨_,ag⟩:=ag;rw[List.drop_eq_nil_of_le (by simp[hlen])]at ag;simp[CK]at ag;subst ag;simp;(with_reducible repeat' first|refine ak ?_|simp);simp[bz,aY,a6,aX];simp[ft]
     ·obtain⟨⟨g1,g2⟩,ag⟩:=ag;obtain⟨bF,bk⟩:∃a,x.args[i]? =some a:=⟨_,cm hi⟩;obtain⟨b1,gn⟩:∃b,y.args[i]? =some b:=⟨_,cm Ω⟩;have oc:∀h,(x.args[i]'h)=bF:=fun h=>by rw[cm hi]at bk;exact eV bk
      have cK:∀h,(y.args[i]'h)=b1:=fun h=>by rw[cm h]at gn;exact eV gn
      have sS:i<y.args.length:=Ω
      have aD:(x.args.zip y.args).drop i=(bF,b1)::(x.args.zip y.args).drop (i+1):=by rw[lA d7];simp[oc,cK]
      rw[aD]at ag;simp only[CK]at ag;simp[hi,oc,cK,sS];cases hu:ly n ai bF b1 with
      |none=>rw[hu]at ag;cases ag
      |some hh=>
       have key:=bK ai bF b1 hh g1 g2 hu;rw[hu]at ag;cases hh with
       |none=>simp at ag;subst ag;(with_reducible repeat' first|refine ak ?_|refine aF key ?_|refine aG key ?_|simp[oc,cK,hi,sS]);simp[bz,aY,a6,aX];simp[ft]
       |some s1=>have ajH:=aqf g1 g2 hu;(with_reducible repeat' first|refine ak ?_|refine aF key ?_|refine aG key ?_|simp[oc,cK,hi,sS]);refine bS.rng s1 hi ⟨ajH.1,ag⟩ ?_;exact b0
theorem QF(s:List ah)(a b:T)(af:eQ s)(aO:fT s):bR aA 101 [.slice 5 .no (s.map ah.e),a.e,b.e] (ft (mgu s [(a,b)])):=by obtain⟨n,o,I,U⟩:=Kc af aO a b;rw[qz U];exact aqQ n s a b o af aO I
def aku(s:List ah)(E:List (T×T))(i:Nat)(ai:List ah):Prop:=(eQ ai/\fT ai)/\mgu ai (E.drop i)=mgu s E
theorem aqM(s:List ah)(l r:List T)(aw:l.length=r.length)(af:eQ s)(aO:fT s)(y5:l.length<=1000000):bR aA 156 [.slice 5 .no (s.map ah.e),.slice 4 .no (l.map T.e),.slice 4 .no (r.map T.e)] (ft (mgu s (l.zip r))):=by
 refine br eY Tryz.func156 anu fun aR=>?_;unfold TI;simp;refine hH (α:=List ah) (fun i ai=>⟨[(2,.slice 4 .no (r.map T.e)),(12,.slice 4 .no (l.map T.e)),(13,.int .i64 l.length),(0,.slice 5 .no (ai.map ah.e)),(14,.int .i64 i)],[],[],0,[]⟩) l.length (aku s (l.zip r)) s b0 ⟨⟨af,aO⟩,Ψ⟩ (fun ai ag _=>?_) (fun i ai hi ag _=>?_)
 ·obtain⟨⟨g1,g2⟩,ag⟩:=ag;rw[List.drop_eq_nil_of_le (by simp[aw]),ES g1 g2]at ag;rw[<-ag];simp;(with_reducible repeat' first|refine ak ?_|simp);simp[bz,aY,a6,aX];simp[ft]
 ·obtain⟨⟨g1,g2⟩,ag⟩:=ag;obtain⟨a,bk⟩:∃a,l[i]? =some a:=⟨_,cm hi⟩;obtain⟨b,gn⟩:∃b,r[i]? =some b:=⟨_,cm Ω⟩;have oc:∀h,(l[i]'h)=a:=fun h=>by rw[cm hi]at bk;exact eV bk
  have cK:∀h,(r[i]'h)=b:=fun h=>by rw[cm h]at gn;exact eV gn
  have sS:i<r.length:=Ω
  have aD:(l.zip r).drop i=(a,b)::(l.zip r).drop (i+1):=by rw[lA d7];simp[oc,cK]
  rw[aD,Ou g1 g2]at ag;simp[hi,oc,cK,sS];have key:=QF ai a b g1 g2;cases hu:mgu ai [(a,b)]with
  |none=>rw[hu]at ag key;simp only at ag;rw[<-ag];(with_reducible repeat' first|refine ak ?_|refine aF key ?_|refine aG key ?_|simp[oc,cK,hi,sS]);simp[bz,aY,a6,aX];simp[ft]
  |some s1=>have oi:=pU g1 g2 hu;rw[hu]at ag key;(with_reducible repeat' first|refine ak ?_|refine aF key ?_|refine aG key ?_|simp[oc,cK,hi,sS]);refine bS.rng s1 hi ⟨oi,ag⟩ ?_;exact b0
theorem kT(n:Int):bR aA 84 [.int .i64 n] (T.var n).e:=by refine br fY Tryz.func84 YY fun aR=>?_;unfold Lp;exact cu
def aky(t:List ah)(i:Nat)(p:List T×List T):Prop:=p.1=(t.take i).map (fun b=>T.var b.v)/\p.2=(t.take i).map (·.t)
theorem aqO(s t:List ah)(af:eQ s)(aO:fT s)(aC:t.length<=1000000):bR aA 123 [.slice 5 .no (s.map ah.e),.slice 5 .no (t.map ah.e)] (ft (mgu s (e0 t))):=by
 have a8:(t.map fun b=>T.var b.v).zip (t.map (·.t))=e0 t:=by rw[e0,List.zip_map']
 refine br eY Tryz.func123 anv fun aR=>?_;unfold TJ;simp;refine hH (α:=List T×List T) (fun i p=>⟨[(0,.slice 5 .no (s.map ah.e)),(12,.slice 5 .no (t.map ah.e)),(13,.int .i64 t.length),(6,.slice 4 (.own (.loc 0)) (p.1.map T.e)),(7,.slice 4 (.own (.loc 1)) (p.2.map T.e)),(14,.int .i64 i)],[],[(.loc 0,⟨p.1.length,36,4,none⟩),(.loc 1,⟨p.2.length,36,4,none⟩)],2,[]⟩) t.length (aky t) ([],[]) b0 ⟨Ψ,Ψ⟩ (fun p ag _=>?_) (fun i p hi ag _=>?_)
 ·obtain⟨A,B⟩:=p;obtain⟨bm,jn⟩:=ag;simp only at bm jn⊢;rw[hV (eo _)]at bm jn;have key:=aqM s A B (by rw[bm,jn];simp) af aO (by rw[bm];simpa using aC);rw[bm,jn,a8,<-bm,<-jn]at key;simp;(with_reducible repeat' first|refine ak ?_|refine aF key ?_|refine aG key ?_|simp);simp[bz,aY,a6,aX];simp[ft]
 ·obtain⟨A,B⟩:=p;obtain⟨bm,jn⟩:=ag;simp only at bm jn⊢;obtain⟨b,az,gw⟩:=en hi;have xz:t.take (i+1)=t.take i++[b]:=by rw[List.take_succ,az];rfl
  have ahW:A.length<=1000000:=by rw[bm];simp;omega
  have ahX:B.length<=1000000:=by rw[jn];simp;omega
  simp[hi,gw];(with_reducible repeat' first|refine ak ?_|refine aF (kT _) ?_|refine aG (kT _) ?_|simp[gw,hi]);all_goals first|(refine⟨by unfold lim;omega,?_⟩)|skip
  (with_reducible repeat' first|refine ak ?_|simp);all_goals first|(refine⟨by unfold lim;omega,?_⟩)|skip
  (with_reducible repeat' first|refine ak ?_|simp);refine bS.rng (A++[.var b.v],B++[b.t]) hi ⟨by rw[xz,bm];simp,by rw[xz,jn];simp⟩ ?_;simp;exact⟨by simp[fresh,aP,aK,cq,inObs,Pv.look,jY],et (by simp[fresh,aP,aK,cq,inObs,Pv.look,jY]),eu (by simp[fresh,aP,aK,ee,inObs,Pv.look,jY]),Ψ⟩
theorem dC(n lo hi:Int):bR aA 67 [.int .i64 n,.int .i64 lo,.int .i64 hi] (.bool (decide (lo<=n/\n<=hi))):=by
 refine br eY Tryz.func67 ana fun aR=>?_;unfold Tp;simp;((with_reducible repeat' first|refine ak ?_|simp|((first|apply bN|apply bP|apply bO)<;>intro h<;>try simp at h))<;>(try exact cf));all_goals simp[bz,aY,a6,aX]
 all_goals first|omega|(simp;done)|(simp;omega)
def shp:bZ->Bool
 | .mk k n s [a,b]=>k==4&&n==0&&s==[]&&shp a&&shp b
 | .mk k n s []=>l8 k n s
 |_=>false
theorem JY:∀x:T,shp x.tm=x.ok
 | .nil=>by simp[T.tm,shp,l8,T.ok]
 | .var _=>by simp[T.tm,shp,l8,T.ok]
 | .sym _=>by simp[T.tm,shp,l8,T.ok]
 | .num _=>by simp[T.tm,shp,l8,T.ok]
 | .pair a b=>by simp[T.tm,shp,T.ok,JY a,JY b]
theorem apB:∀(m:Nat) (t:bZ),t.sz<=m->shp t=true->∃x:T,x.tm=t:=by
 intro m;induction m with
 |zero=>intro t aC;cases t;simp[bZ.sz]at aC
 |succ m bK=>
  rintro⟨k,n,s,args⟩ aC h;match args with
  |[a,b]=>
   simp[bZ.sz,bZ.szL]at aC;simp only[shp,cv,dO]at h;obtain⟨⟨⟨⟨rfl,rfl⟩,ao⟩,I⟩,U⟩:=h;obtain⟨x,rfl⟩:=bK a Ω I;obtain⟨y,rfl⟩:=bK b Ω U;have:s=[]:=by simpa using ao
   subst this;exact⟨.pair x y,rfl⟩
  |[]=>
   simp only[shp,l8]at h;split at h
   ·subst_vars;simp at h;exact⟨.nil,by simp[T.tm,h]⟩
   split at h
   ·subst_vars;simp at h;exact⟨.var n,by simp[T.tm,h]⟩
   split at h
   ·subst_vars;simp at h;exact⟨.sym s,by simp[T.tm,h]⟩
   split at h
   ·subst_vars;simp at h;exact⟨.num n,by simp[T.tm,h]⟩
   ·simp at h
  |[_]=>simp[shp]at h
  |_::_::_::_=>simp[shp]at h
theorem agO(t:bZ):t.fits=(decide (mm t 5000<=5000)&&shp t):=by
 by_cases h:shp t=true
 ·obtain⟨x,rfl⟩:=apB _ t (eo _) h;have:=(G1 x 5000 Ω).1;rw[bZ.fits_T,T.fit,h];rw[JY]at h;simp[h,this];omega
 ·have bB:t.fits=false:=by
   cases aO:t.fits with
   |false=>rfl
   |true=>obtain⟨x,rfl,ab⟩:=bZ.fits_ex aO;rw[JY]at h;simp[T.fit]at ab;exact absurd ab.1 h
  simp at h;rw[bB,h];simp
def NF(s:List UInt8)(i:Nat):Prop:=i<=s.length/\∀k,k<i->nG (s.getD k 0)=true/\(k=0->low (s.getD k 0)=true)
theorem akr{s:List UInt8}(h:NF s s.length):iB s=decide (1<=s.length/\s.length<=12):=by
 unfold iB;by_cases aw:1<=s.length
 ·have I:=(h.2 0 Ω).2 rfl;have U:(s.drop 1).all nG=true:=by rw[fi];intro b ad;obtain⟨i,hi,e⟩:=oL ad;simp at hi e;have:=(h.2 (i+1) Ω).1;rw[List.getD_eq_getElem?_getD,cm Ω]at this;simp only[ib]at this;rw[<-e];exact this
  rw[I,U];simp
 ·have:decide (1<=s.length/\s.length<=12)=false:=by simp;omega
  rw[this];simp
theorem akq{s:List UInt8}{i:Nat}(hi:i<s.length)(h:nG (s.getD i 0)=false\/(i=0/\low (s.getD i 0)=false)):iB s=false:=by
 cases e:iB s with
 |false=>rfl
 |true=>
  exfalso;simp only[iB,cv,fi]at e;obtain⟨⟨_,ar⟩,aE⟩:=e;rcases h with h|⟨rfl,h⟩
  ·by_cases bB:i=0
   ·subst bB;rw[nG,ar]at h;simp at h
   ·have:=aE (s.getD i 0) (by rw[List.getD_eq_getElem?_getD,cm hi];simp only[ib];refine List.mem_iff_getElem.2 ⟨i-1,by simp;omega,?_⟩;simp[show i-1+1=i from by omega])
    rw[this]at h;cases h
  ·rw[ar]at h;cases h
theorem hB(s:List UInt8):bR aA 119 [.str s] (.bool (iB s)):=by
 generalize bI:iB s=R;refine br eY Tryz.func119 am0 fun aR=>?_;unfold Tf;have ik:s.length<=68719476736:=by simp[gO,gj,gE,lim]at aR;omega
 simp;refine w6 [0] (fun(i:Nat)=>[(3,.int .i64 i)]) (fun i=>s.length-i) (NF s) 0 b0 ⟨Ω,fun k ae=>Ω⟩ (fun i ag _=>?_);have dX:=ag.1;by_cases hi:i<s.length
 ·have cW:=akq hi;rw[bI]at cW;obtain⟨c,aq,jF⟩:=en hi;have VY:s.getD i 0=c:=by simp[List.getD_eq_getElem?_getD,aq]
  rw[VY]at cW;have da:nG c=true->(i=0->low c=true)->NF s (i+1):=fun I U=>⟨Ω,fun k ae=>by
   rcases(by omega:k<i\/k=i)with h|rfl
   ·exact ag.2 k h
   ·rw[VY];exact⟨I,U⟩⟩
  have hw:nR.wrap (c.toNat:Int)=c.toNat:=nl _ (by have:=c.toNat_lt;omega);simp[hi,jF,aq];by_cases aW:(97:Int)<=c.toNat
  ·by_cases bj:(c.toNat:Int)<=122
   ·have aw:low c=true:=by simp[low];omega
    (with_reducible repeat' first|refine ak ?_|refine aF (dC _ _ _) ?_|refine aG (dC _ _ _) ?_|simp[hi,jF,aq,aW,bj]);exact bS.whl (i+1) Ω (da (by simp[nG,aw]) (fun _=>aw)) b0
   ·have aw:low c=false:=by simp[low];omega
    by_cases bB:i=0
    ·rw[cW (.inr ⟨bB,aw⟩)];have sI:((i:Int)==0)=true:=by simp[bB]
     (with_reducible repeat' first|refine ak ?_|refine aF (dC _ _ _) ?_|refine aG (dC _ _ _) ?_|simp[hi,jF,aq,aW,bj,sI,hw]);simp[bz,aY,a6,aX]
    ·have sI:((i:Int)==0)=false:=by simp[bB]
     by_cases bM:(c.toNat:Int)=45
     ·have tt:((c.toNat:Int) !=45)=false:=by simp[bM]
      (with_reducible repeat' first|refine ak ?_|refine aF (dC _ _ _) ?_|refine aG (dC _ _ _) ?_|simp[hi,jF,aq,aW,bj,sI,hw,bM,tt]);all_goals exact bS.whl (i+1) Ω (da (by simp[nG];omega) (fun h=>absurd h bB)) b0
     ·have tt:((c.toNat:Int) !=45)=true:=by simp[bM]
      by_cases cL:(48:Int)<=c.toNat/\(c.toNat:Int)<=57
      ·(with_reducible repeat' first|refine ak ?_|refine aF (dC _ _ _) ?_|refine aG (dC _ _ _) ?_|simp[hi,jF,aq,aW,bj,sI,hw,bM,tt,cL]);all_goals exact bS.whl (i+1) Ω (da (by simp[nG];omega) (fun h=>absurd h bB)) b0
      ·rw[cW (.inl (by simp[nG,aw];omega))];(with_reducible repeat' first|refine ak ?_|refine aF (dC _ _ _) ?_|refine aG (dC _ _ _) ?_|simp[hi,jF,aq,aW,bj,sI,hw,bM,tt,cL]);simp[bz,aY,a6,aX]
  ·have aw:low c=false:=by simp[low];omega
   by_cases bB:i=0
   ·rw[cW (.inr ⟨bB,aw⟩)];have sI:((i:Int)==0)=true:=by simp[bB]
    (with_reducible repeat' first|refine ak ?_|refine aF (dC _ _ _) ?_|refine aG (dC _ _ _) ?_|simp[hi,jF,aq,aW,sI,hw]);simp[bz,aY,a6,aX]
   ·have sI:((i:Int)==0)=false:=by simp[bB]
    by_cases bM:(c.toNat:Int)=45
    ·have tt:((c.toNat:Int) !=45)=false:=by simp[bM]
     (with_reducible repeat' first|refine ak ?_|refine aF (dC _ _ _) ?_|refine aG (dC _ _ _) ?_|simp[hi,jF,aq,aW,sI,hw,bM,tt]);all_goals exact bS.whl (i+1) Ω (da (by simp[nG];omega) (fun h=>absurd h bB)) b0
    ·have tt:((c.toNat:Int) !=45)=true:=by simp[bM]
     by_cases cL:(48:Int)<=c.toNat/\(c.toNat:Int)<=57
     ·(with_reducible repeat' first|refine ak ?_|refine aF (dC _ _ _) ?_|refine aG (dC _ _ _) ?_|simp[hi,jF,aq,aW,sI,hw,bM,tt,cL]);all_goals exact bS.whl (i+1) Ω (da (by simp[nG];omega) (fun h=>absurd h bB)) b0
     ·rw[cW (.inl (by simp[nG,aw];omega))];(with_reducible repeat' first|refine ak ?_|refine aF (dC _ _ _) ?_|refine aG (dC _ _ _) ?_|simp[hi,jF,aq,aW,sI,hw,bM,tt,cL]);simp[bz,aY,a6,aX]
 ·have:i=s.length:=Ω
  subst this;rw[akr ag]at bI;simp[hi];(with_reducible repeat' first|refine ak ?_|refine aF (dC _ _ _) ?_|refine aG (dC _ _ _) ?_|simp[hi]);simp[bz,aY,a6,aX];rw[<-bI,qP];simp;omega
def wL:List bZ->Bool
 |[a,b]=>shp a&&shp b
 |_=>false
theorem apA(k n:Int)(s:List UInt8)(args:List bZ):shp ⟨k,n,s,args⟩=if k≠1/\k≠3/\n≠0 then false else if k≠2/\s≠[]then false else if k≠4/\args≠[]then false else if k=0 then true else if k=1 then decide (0<=n/\n<=100000)else if k=2 then iB s else if k=3 then decide (-1000000000<=n/\n<=1000000000)else if k=4 then wL args else false:=by
 by_cases hz:k=0
 ·subst hz;match args with
  |[]=>by_cases au:n=0<;>by_cases af:s=[]<;>simp[shp,l8,au,af]
  |[a]=>simp[shp]
  |[a,b]=>simp[shp]
  |_::_::_::_=>simp[shp]
 by_cases aS:k=1
 ·subst aS;match args with
  |[]=>by_cases af:s=[]<;>simp[shp,l8,af]
  |[a]=>simp[shp]
  |[a,b]=>simp[shp]
  |_::_::_::_=>simp[shp]
 by_cases bh:k=2
 ·subst bh;match args with
  |[]=>by_cases au:n=0<;>simp[shp,l8,au]
  |[a]=>simp[shp]
  |[a,b]=>simp[shp]
  |_::_::_::_=>simp[shp]
 by_cases bX:k=3
 ·subst bX;match args with
  |[]=>by_cases af:s=[]<;>simp[shp,l8,af]
  |[a]=>simp[shp]
  |[a,b]=>simp[shp]
  |_::_::_::_=>simp[shp]
 by_cases ed:k=4
 ·subst ed;match args with
  |[]=>simp[shp,l8,wL]
  |[a]=>simp[shp,wL]
  |[a,b]=>by_cases au:n=0<;>by_cases af:s=[]<;>simp[shp,wL,au,af]
  |_::_::_::_=>simp[shp,wL]
 ·match args with
  |[]=>simp[shp,l8,hz,aS,bh,bX,ed]
  |[a]=>simp[shp,hz,aS,bh,bX,ed]
  |[a,b]=>simp[shp,hz,aS,bh,bX,ed]
  |_::_::_::_=>simp[shp,hz,aS,bh,bX,ed]
set_option maxRecDepth 8000 in
theorem aqI(m:Nat):∀(t:bZ),t.sz<=m->bR aA 127 [enc t] (.bool (shp t)):=by
 induction m with
 |zero=>intro t aC;cases t;simp[bZ.sz]at aC
 |succ m bK=>
 rintro⟨k,n,s,args⟩ aC;generalize bI:shp ⟨k,n,s,args⟩=R;have c3:=apA k n s args;rw[bI]at c3;by_cases b1:k≠1/\k≠3/\n≠0
 ·rw[if_pos b1]at c3;obtain⟨aS,bX,n0⟩:=b1;have BH:(k !=1)=true:=by simp[aS]
  have BI:(k !=3)=true:=by simp[bX]
  have Oz:(n !=0)=true:=by simp[n0]
  subst c3;refine br eY Tryz.func127 nO fun aR=>?_;unfold mQ;simp[bZ.kind,bZ.num,bZ.name,bZ.args];(with_reducible repeat' first|refine ak ?_|refine aF (dC _ _ _) ?_|refine aG (dC _ _ _) ?_|refine aF (hB _) ?_|refine aG (hB _) ?_|simp[BH,BI,Oz]);all_goals simp[bz,aY,a6,aX]
 rw[if_neg b1]at c3;have C8:(if k !=1 then k !=3 else false)=true->(n !=0)=false:=by intro h;simp at h⊢;exact Classical.byContradiction fun au=>b1 ⟨h.1,h.2,au⟩
 by_cases b2:k≠2/\s≠[]
 ·rw[if_pos b2]at c3;have Iv:(k !=2)=true:=by simp[b2.1]
  have PU:s.isEmpty=false:=by simp[b2.2]
  by_cases aS:k=1
  ·subst aS;subst c3;refine br eY Tryz.func127 nO fun aR=>?_;unfold mQ;simp[bZ.kind,bZ.num,bZ.name,bZ.args];(with_reducible repeat' first|refine ak ?_|refine aF (dC _ _ _) ?_|refine aG (dC _ _ _) ?_|refine aF (hB _) ?_|refine aG (hB _) ?_|simp[PU]);all_goals simp[bz,aY,a6,aX]
  by_cases bX:k=3
  ·subst bX;subst c3;refine br eY Tryz.func127 nO fun aR=>?_;unfold mQ;simp[bZ.kind,bZ.num,bZ.name,bZ.args];(with_reducible repeat' first|refine ak ?_|refine aF (dC _ _ _) ?_|refine aG (dC _ _ _) ?_|refine aF (hB _) ?_|refine aG (hB _) ?_|simp[PU]);all_goals simp[bz,aY,a6,aX]
  have BH:(k !=1)=true:=by simp[aS]
  have BI:(k !=3)=true:=by simp[bX]
  have Oz:(n !=0)=false:=C8 (by simp[aS,bX]);subst c3;refine br eY Tryz.func127 nO fun aR=>?_;unfold mQ;simp[bZ.kind,bZ.num,bZ.name,bZ.args];(with_reducible repeat' first|refine ak ?_|refine aF (dC _ _ _) ?_|refine aG (dC _ _ _) ?_|refine aF (hB _) ?_|refine aG (hB _) ?_|simp[BH,BI,Oz,Iv,PU]);all_goals simp[bz,aY,a6,aX]
 rw[if_neg b2]at c3;by_cases hz:k=0
 ·subst hz;have n0:n=0:=by simpa using C8 (by decide)
  have s0:s=[]:=Classical.byContradiction fun h=>b2 ⟨Ω,h⟩;subst n0 s0;by_cases a0:args=[];rotate_left
  ·rw[if_pos ⟨Ω,a0⟩]at c3;have vk:(0:Int)<args.length:=by have:=List.length_pos_iff.2 a0;omega
   subst c3;refine br eY Tryz.func127 nO fun aR=>?_;unfold mQ;simp[bZ.kind,bZ.num,bZ.name,bZ.args];((with_reducible repeat' first|refine ak ?_|refine aF (dC _ _ _) ?_|refine aG (dC _ _ _) ?_|refine aF (hB _) ?_|refine aG (hB _) ?_|simp[sp,vk]|((first|apply bN|apply bP|apply bO)<;>intro h<;>try simp at h))<;>(try exact cf));all_goals simp[bz,aY,a6,aX]
  rw[if_neg (by simp[a0])]at c3;subst a0;simp at c3;subst c3;refine br eY Tryz.func127 nO fun aR=>?_;unfold mQ;simp[bZ.kind,bZ.num,bZ.name,bZ.args];(with_reducible repeat' first|refine ak ?_|refine aF (dC _ _ _) ?_|refine aG (dC _ _ _) ?_|refine aF (hB _) ?_|refine aG (hB _) ?_|simp[sp]);all_goals simp[bz,aY,a6,aX]
 by_cases aS:k=1
 ·subst aS;have s0:s=[]:=Classical.byContradiction fun h=>b2 ⟨Ω,h⟩;subst s0;by_cases a0:args=[];rotate_left
  ·rw[if_pos ⟨Ω,a0⟩]at c3;have vk:(0:Int)<args.length:=by have:=List.length_pos_iff.2 a0;omega
   subst c3;refine br eY Tryz.func127 nO fun aR=>?_;unfold mQ;simp[bZ.kind,bZ.num,bZ.name,bZ.args];((with_reducible repeat' first|refine ak ?_|refine aF (dC _ _ _) ?_|refine aG (dC _ _ _) ?_|refine aF (hB _) ?_|refine aG (hB _) ?_|simp[sp,vk]|((first|apply bN|apply bP|apply bO)<;>intro h<;>try simp at h))<;>(try exact cf));all_goals simp[bz,aY,a6,aX]
  rw[if_neg (by simp[a0])]at c3;subst a0;simp at c3;subst c3;refine br eY Tryz.func127 nO fun aR=>?_;unfold mQ;simp[bZ.kind,bZ.num,bZ.name,bZ.args];(with_reducible repeat' first|refine ak ?_|refine aF (dC _ _ _) ?_|refine aG (dC _ _ _) ?_|refine aF (hB _) ?_|refine aG (hB _) ?_|simp[sp]);all_goals simp[bz,aY,a6,aX]
 by_cases bh:k=2
 ·subst bh;have n0:n=0:=by simpa using C8 (by decide)
  subst n0;by_cases a0:args=[];rotate_left
  ·rw[if_pos ⟨Ω,a0⟩]at c3;have vk:(0:Int)<args.length:=by have:=List.length_pos_iff.2 a0;omega
   subst c3;refine br eY Tryz.func127 nO fun aR=>?_;unfold mQ;simp[bZ.kind,bZ.num,bZ.name,bZ.args];((with_reducible repeat' first|refine ak ?_|refine aF (dC _ _ _) ?_|refine aG (dC _ _ _) ?_|refine aF (hB _) ?_|refine aG (hB _) ?_|simp[sp,vk]|((first|apply bN|apply bP|apply bO)<;>intro h<;>try simp at h))<;>(try exact cf));all_goals simp[bz,aY,a6,aX]
  rw[if_neg (by simp[a0])]at c3;subst a0;simp at c3;subst c3;refine br eY Tryz.func127 nO fun aR=>?_;unfold mQ;simp[bZ.kind,bZ.num,bZ.name,bZ.args];(with_reducible repeat' first|refine ak ?_|refine aF (dC _ _ _) ?_|refine aG (dC _ _ _) ?_|refine aF (hB _) ?_|refine aG (hB _) ?_|simp[sp]);all_goals simp[bz,aY,a6,aX]
 by_cases bX:k=3
 ·subst bX;have s0:s=[]:=Classical.byContradiction fun h=>b2 ⟨Ω,h⟩;subst s0;by_cases a0:args=[];rotate_left
  ·rw[if_pos ⟨Ω,a0⟩]at c3;have vk:(0:Int)<args.length:=by have:=List.length_pos_iff.2 a0;omega
   subst c3;refine br eY Tryz.func127 nO fun aR=>?_;unfold mQ;simp[bZ.kind,bZ.num,bZ.name,bZ.args];((with_reducible repeat' first|refine ak ?_|refine aF (dC _ _ _) ?_|refine aG (dC _ _ _) ?_|refine aF (hB _) ?_|refine aG (hB _) ?_|simp[sp,vk]|((first|apply bN|apply bP|apply bO)<;>intro h<;>try simp at h))<;>(try exact cf));all_goals simp[bz,aY,a6,aX]
  rw[if_neg (by simp[a0])]at c3;subst a0;simp at c3;subst c3;refine br eY Tryz.func127 nO fun aR=>?_;unfold mQ;simp[bZ.kind,bZ.num,bZ.name,bZ.args];(with_reducible repeat' first|refine ak ?_|refine aF (dC _ _ _) ?_|refine aG (dC _ _ _) ?_|refine aF (hB _) ?_|refine aG (hB _) ?_|simp[sp]);all_goals simp[bz,aY,a6,aX]
 by_cases ed:k=4
 ·subst ed;have n0:n=0:=by simpa using C8 (by decide)
  have s0:s=[]:=Classical.byContradiction fun h=>b2 ⟨Ω,h⟩;subst n0 s0;simp at c3;match args,c3 with
  |[a,b],c3=>
   simp[bZ.sz,bZ.szL]at aC;have bk:=bK a Ω;have ad:=bK b Ω;simp only[wL]at c3;subst c3;refine br eY Tryz.func127 nO fun aR=>?_;unfold mQ;simp[bZ.kind,bZ.num,bZ.name,bZ.args];cases q:shp a with
   |true=>rw[q]at bk;(with_reducible repeat' first|refine ak ?_|refine aF bk ?_|refine aG bk ?_|refine aF ad ?_|refine aG ad ?_|simp[sp]);all_goals simp[bz,aY,a6,aX]
   |false=>rw[q]at bk;(with_reducible repeat' first|refine ak ?_|refine aF bk ?_|refine aG bk ?_|refine aF ad ?_|refine aG ad ?_|simp[sp]);all_goals simp[bz,aY,a6,aX]
  |[],c3=>simp only[wL]at c3;subst c3;refine br eY Tryz.func127 nO fun aR=>?_;unfold mQ;simp[bZ.kind,bZ.num,bZ.name,bZ.args];(with_reducible repeat' first|refine ak ?_|refine aF (dC _ _ _) ?_|refine aG (dC _ _ _) ?_|refine aF (hB _) ?_|refine aG (hB _) ?_|simp[sp]);all_goals simp[bz,aY,a6,aX]
  |[_],c3=>simp only[wL]at c3;subst c3;refine br eY Tryz.func127 nO fun aR=>?_;unfold mQ;simp[bZ.kind,bZ.num,bZ.name,bZ.args];(with_reducible repeat' first|refine ak ?_|refine aF (dC _ _ _) ?_|refine aG (dC _ _ _) ?_|refine aF (hB _) ?_|refine aG (hB _) ?_|simp[sp]);all_goals simp[bz,aY,a6,aX]
  |_::_::_::l,c3=>
   simp only[wL]at c3;have aw:((l.length:Int)+1+1+1==2)=false:=by simp;omega
   subst c3;refine br eY Tryz.func127 nO fun aR=>?_;unfold mQ;simp[bZ.kind,bZ.num,bZ.name,bZ.args];(with_reducible repeat' first|refine ak ?_|refine aF (dC _ _ _) ?_|refine aG (dC _ _ _) ?_|refine aF (hB _) ?_|refine aG (hB _) ?_|simp[aw]);all_goals simp[bz,aY,a6,aX]
 have n0:(n !=0)=false:=C8 (by simp[aS,bX]);have s0:s=[]:=Classical.byContradiction fun h=>b2 ⟨bh,h⟩;subst s0;have Xe:(k==0)=false:=by simp[hz]
 have BH:(k==1)=false:=by simp[aS]
 have Iv:(k==2)=false:=by simp[bh]
 have BI:(k==3)=false:=by simp[bX]
 have Xi:(k==4)=false:=by simp[ed]
 have Xf:(k !=1)=true:=by simp[aS]
 have Xg:(k !=2)=true:=by simp[bh]
 have Xh:(k !=3)=true:=by simp[bX]
 have Xj:(k !=4)=true:=by simp[ed]
 by_cases a0:args=[]
 ·subst a0;simp[hz,aS,bh,bX,ed]at c3;subst c3;refine br eY Tryz.func127 nO fun aR=>?_;unfold mQ;simp[bZ.kind,bZ.num,bZ.name,bZ.args];(with_reducible repeat' first|refine ak ?_|refine aF (dC _ _ _) ?_|refine aG (dC _ _ _) ?_|refine aF (hB _) ?_|refine aG (hB _) ?_|simp[Xe,BH,Iv,BI,Xi,Xf,Xg,Xh,Xj,n0]);all_goals simp[bz,aY,a6,aX]
 ·rw[if_pos ⟨ed,a0⟩]at c3;have vk:(0:Int)<args.length:=by have:=List.length_pos_iff.2 a0;omega
  subst c3;refine br eY Tryz.func127 nO fun aR=>?_;unfold mQ;simp[bZ.kind,bZ.num,bZ.name,bZ.args];((with_reducible repeat' first|refine ak ?_|refine aF (dC _ _ _) ?_|refine aG (dC _ _ _) ?_|refine aF (hB _) ?_|refine aG (hB _) ?_|simp[vk,Xe,BH,Iv,BI,Xi,Xf,Xg,Xh,Xj,n0]|((first|apply bN|apply bP|apply bO)<;>intro h<;>try simp at h))<;>(try exact cf));all_goals simp[bz,aY,a6,aX]
theorem FY(t:bZ):bR aA 76 [enc t] (.bool t.fits):=by
 rw[agO];have aq:=abD t 5000 Ω Ω;have af:=aqI t.sz t (eo _);refine br eY Tryz.func76 am7 fun aR=>?_;unfold Tm;simp;by_cases q:mm t 5000<=5000
 ·exact cu
 ·exact cu
def Tg:C:=(aa [bp 2 false] (.seq (aa [J 5 0,cH 6 5,cb 7 0] (fm 8 7 6 (.seq (.block 1 (aa [J 9 7,cE 10 2 5 7,aZ 11 2 10,cS (.alloc 4 none (.agg [.int .i64 0,.int .i64 0])),J 3 9,bu 2 4 11] (.seq (.drawn true 42 [J 12 3,aU 13 .gtr 12 0,J 14 13,b6 14 true 15 0,b6 14 true 16 3,av 14 true (aU 17 .sub 16 1),av 14 true (cE 18 2 15 17),av 14 true (aJ 19 0 1 18),av 14 true (ay 20 1 19),av 14 true (aJ 21 0 1 4),av 14 true (ay 22 1 21),av 14 true (bC 23 .geq 20 22),dB 24 14 23,J 25 24,av 25 false (aJ 26 0 1 4),av 25 false (ay 27 1 26),av 25 false (c4 28 67 [.t 27,(ef 0),(ef 100000)]),av 25 false (ct 29 28),c8 30 25 29,J 31 30,av 31 false (aJ 32 1 1 4),av 31 false (ay 33 1 32),av 31 false (aU 34 .neq 33 2),b6 31 false 35 34,av 35 true (aJ 36 1 1 4),av 35 true (ay 37 1 36),av 35 true (aU 38 .neq 37 3),av 31 false (dB 39 35 38),c8 40 31 39]) (a1 40 (aa [bp 2 false] .ret) .skip)))) (.region [aU 41 .add 7 1,J 7 41])))) (aa [bp 2 true] .ret)))
def Tk:C:=(aa [bp 2 false] (.seq (aa [J 5 0,cH 6 5,cb 7 0] (fm 8 7 6 (.seq (.block 1 (aa [J 9 7,cE 10 2 5 7,aZ 11 2 10,cS (.alloc 4 none (.agg [.int .i64 0,.str []])),J 3 9,bu 2 4 11] (.seq (.drawn true 37 [J 12 3,aU 13 .gtr 12 0,J 14 13,b6 14 true 15 0,b6 14 true 16 3,av 14 true (aU 17 .sub 16 1),av 14 true (cE 18 2 15 17),av 14 true (aZ 19 2 18),av 14 true (aZ 20 2 4),av 14 true (ch 21 118 19 20),av 14 true (ct 22 21),dB 23 14 22,J 24 23,av 24 false (aJ 25 0 1 4),av 24 false (ay 26 1 25),av 24 false (c4 27 67 [.t 26,(ef 0),(ef 100000)]),av 24 false (ct 28 27),c8 29 24 28,J 30 29,av 30 false (aJ 31 1 1 4),av 30 false (ay 32 1 31),av 30 false (cD 33 119 32),av 30 false (ct 34 33),c8 35 30 34]) (a1 35 (aa [bp 2 false] .ret) .skip)))) (.region [aU 36 .add 7 1,J 7 36])))) (aa [bp 2 true] .ret)))
def AK:C:=(aa [c0 4 1,eO 6 2,bp 7 false] (.seq (aa [aJ 10 0 1 4,ay 11 1 10,aU 12 .neq 11 1] (a1 12 (.seq (.drawn true 73 [J 13 0,aJ 14 0 1 4,ay 15 1 14,J 16 2,bC 17 .eql 15 16,J 6 13,J 7 17]) .ret) .skip)) (aa [cb 8 0] (.seq (.block 0 (.loop (.seq (.seq (.drawn true 73 [J 18 8,J 19 0,cH 20 19,bC 21 .lss 18 20,J 22 21,b6 22 true 23 0,b6 22 true 24 8,av 22 true (cE 25 2 23 24),av 22 true (aJ 26 0 1 25),av 22 true (ay 27 1 26),av 22 true (aJ 28 1 1 4),av 22 true (ay 29 1 28),av 22 true (bC 30 .lss 27 29),dB 31 22 30]) (a1 31 .skip (.exit 0))) (.block 1 (.region [J 32 8,aU 33 .add 32 1,J 8 33]))))) (.seq (.seq (.drawn true 73 [J 34 8,J 35 0,cH 36 35,bC 37 .lss 34 36,J 38 37,b6 38 true 39 0,b6 38 true 40 8,av 38 true (cE 41 2 39 40),av 38 true (aJ 42 0 1 41),av 38 true (ay 43 1 42),av 38 true (aJ 44 1 1 4),av 38 true (ay 45 1 44),av 38 true (bC 46 .eql 43 45),dB 47 38 46]) (a1 47 (.seq (.drawn true 73 [J 48 0,J 49 0,J 50 8,cE 51 2 49 50,aJ 52 1 1 51,ay 53 1 52,J 54 2,bC 55 .eql 53 54,J 6 48,J 7 55]) .ret) .skip)) (aa [ea 56 2 59 [],J 57 0,J 58 8,bT 59 (.lsl 2 (.t 57) none (some (.t 58))),gT 60 2 59 56 59,J 9 60] (aa [J 61 9,aJ 62 1 1 4,ay 63 1 62,J 64 2,bT 65 (.build [.int .i64 0,.int .i64 0] [(0,1,(.t 63)),(1,1,(.t 64))]),ea 66 2 59 [.t 65],gT 67 2 59 61 66,J 9 67] (aa [J 68 9,J 69 0,J 70 8,bT 71 (.lsl 2 (.t 69) (some (.t 70)) none),gT 72 2 59 68 71,J 6 72,bp 7 true] .ret))))))))
def Lq:C:=(aa [c0 4 1,eO 6 2,bp 7 false] (.seq (aa [aZ 13 4 4,J 14 2,ch 15 132 13 14] (a1 15 (aa [eO 6 2,bp 7 false] .ret) .skip)) (.seq (aa [aZ 16 4 4,c4 17 77 [.t 16,(.c (.slice 1 .nil []))],cH 18 17,cb 19 0] (fm 20 19 18 (.seq (.block 1 (aa [cE 21 1 17 19,ay 22 1 21,J 9 22] (aa [J 23 9,J 24 2,bT 25 (.build [.int .i64 0,.str []] [(0,1,(.t 23)),(1,1,(.t 24))]),cS (.alloc 10 none (.agg [.int .i64 0,.str []])),bu 2 10 25] (aa [cb 11 0] (.seq (.block 2 (.loop (.seq (.seq (.drawn true 68 [J 26 11,J 27 0,cH 28 27,bC 29 .lss 26 28,J 30 29,b6 30 true 31 0,b6 30 true 32 11,av 30 true (cE 33 2 31 32),av 30 true (aZ 34 2 33),av 30 true (aZ 35 2 10),av 30 true (ch 36 118 34 35),dB 37 30 36]) (a1 37 .skip (.exit 2))) (.block 3 (.region [J 38 11,aU 39 .add 38 1,J 11 39]))))) (.seq (.drawn true 68 [J 40 11,J 41 0,cH 42 41,bC 43 .eql 40 42,J 44 43,av 44 false (aZ 45 2 10),b6 44 false 46 0,b6 44 false 47 11,av 44 false (cE 48 2 46 47),av 44 false (aZ 49 2 48),av 44 false (ch 50 118 45 49),c8 51 44 50]) (a1 51 (aa [ea 52 2 56 [],J 53 0,J 54 11,bT 55 (.lsl 2 (.t 53) none (some (.t 54))),gT 56 2 56 52 55,J 12 56] (aa [J 57 12,aZ 58 2 10,ea 59 2 56 [.t 58],gT 60 2 56 57 59,J 12 60] (.region [J 61 12,J 62 0,J 63 11,bT 64 (.lsl 2 (.t 62) (some (.t 63)) none),gT 65 2 56 61 64,J 0 65]))) .skip))))))) (.fg false 0 (.region [aU 66 .add 19 1,J 19 66]))))) (aa [J 67 0,J 6 67,bp 7 true] .ret))))
def GX:C:=(aa [c0 2 0,c0 3 1,bp 4 false] (aa [aJ 5 0 1 2,ay 6 1 5,aJ 7 0 1 3,ay 8 1 7,bC 9 .lss 6 8,J 10 9,av 10 false (aJ 11 0 1 2),av 10 false (ay 12 1 11),av 10 false (aJ 13 0 1 3),av 10 false (ay 14 1 13),av 10 false (bC 15 .eql 12 14),b6 10 false 16 15,av 16 true (aJ 17 1 1 2),av 16 true (ay 18 1 17),av 16 true (aJ 19 1 1 3),av 16 true (ay 20 1 19),av 16 true (bC 21 .lss 18 20),av 10 false (dB 22 16 21),c8 23 10 22,J 4 23] .ret))
def TP:C:=(aa [eO 4 2,bp 5 false] (aa [ea 10 2 59 [],J 6 10] (aa [bp 7 true] (.seq (.seq (.fg false 6 (.region [J 11 1,cH 12 11,cb 13 0])) (fm 14 13 12 (.seq (.block 1 (aa [cE 15 2 11 13,aZ 16 2 15,cS (.alloc 9 none (.agg [.int .i64 0,.int .i64 0])),bu 2 9 16] (.seq (.drawn true 33 [J 18 6,J 19 0,aJ 20 0 1 9,ay 21 1 20,cD 22 84 21,ch 23 151 19 22,aJ 24 1 1 9,ay 25 1 24,c4 26 103 [.t 18,.t 23,.t 25],J 17 26,cg 27 0 17,cg 28 1 17,J 6 27,J 7 28]) (aa [J 29 7,ct 30 29] (a1 30 (aa [eO 4 2,bp 5 false] .ret) .skip))))) (.region [aU 31 .add 13 1,J 13 31])))) (aa [J 32 6,J 4 32,bp 5 true] .ret)))))
def TQ:C:=(aa [eO 4 2,bp 5 false] (aa [ea 10 2 56 [],J 6 10] (aa [bp 7 true] (.seq (.seq (.fg false 6 (.region [J 11 1,cH 12 11,cb 13 0])) (fm 14 13 12 (.seq (.block 1 (aa [cE 15 2 11 13,aZ 16 2 15,cS (.alloc 9 none (.agg [.int .i64 0,.str []])),bu 2 9 16] (.seq (.drawn true 33 [J 18 6,J 19 0,aJ 20 0 1 9,ay 21 1 20,cD 22 84 21,ch 23 151 19 22,aJ 24 1 1 9,ay 25 1 24,c4 26 104 [.t 18,.t 23,.t 25],J 17 26,cg 27 0 17,cg 28 1 17,J 6 27,J 7 28]) (aa [J 29 7,ct 30 29] (a1 30 (aa [eO 4 2,bp 5 false] .ret) .skip))))) (.region [aU 31 .add 13 1,J 13 31])))) (aa [J 32 6,J 4 32,bp 5 true] .ret)))))
def AJ:C:=(aa [c0 2 0,bp 4 false] (.seq (aa [aJ 7 3 1 2,ay 8 1 7,cH 9 8,cb 10 0] (fm 11 10 9 (.seq (.block 1 (aa [cE 12 4 8 10,aZ 13 4 12,cP 6 dk,bu 4 6 13] (aa [aZ 14 4 6,J 15 1,ch 16 132 14 15] (a1 16 (aa [bp 4 true] .ret) .skip)))) (.region [aU 17 .add 10 1,J 10 17])))) (aa [aJ 18 0 1 2,ay 19 1 18,aU 20 .eql 19 2,J 21 20,av 21 true (aJ 22 2 1 2),av 21 true (ay 23 1 22),b6 21 true 24 1,av 21 true (bC 25 .eql 23 24),dB 26 21 25,J 4 26] .ret)))
def wR:List (Nat×dG):=[
 (3,⟨1,8,.int .i64,.int .i64 0⟩),
 (9,⟨1,16,.str,.str []⟩),
 (25,⟨1,24,.slice 59,.slice 2 .nil []⟩),
 (26,⟨1,24,.slice 56,.slice 2 .nil []⟩),
 (34,⟨1,24,.slice 36,.slice 4 .nil []⟩),
 (36,⟨4,56,.struct [(0,3),(1,3),(2,9),(3,34)],.agg [.int .i64 0,.int .i64 0,.str [],.slice 4 .nil []]⟩),
 (56,⟨2,24,.struct [(0,3),(1,9)],.agg [.int .i64 0,.str []]⟩),
 (59,⟨2,16,.struct [(0,3),(1,3)],.agg [.int .i64 0,.int .i64 0]⟩),
 (97,⟨1,24,.slice 3,.slice 1 .nil []⟩)]
theorem nh:fX aA wR=true:=by kernel_rfl
theorem am1:b7 wR Tg [.tmp 2] 1 Tryz.f70=true:=by kernel_rfl
theorem am5:b7 wR Tk [.tmp 2] 1 Tryz.f71=true:=by kernel_rfl
theorem E4:b7 wR AK [.tmp 6,.tmp 7] 3 Tryz.f103=true:=by kernel_rfl
theorem YZ:b7 wR Lq [.tmp 6,.tmp 7] 3 Tryz.f104=true:=by kernel_rfl
theorem OV:b7 wR GX [.tmp 4] 2 Tryz.f118=true:=by kernel_rfl
theorem anC:b7 wR TP [.tmp 4,.tmp 5] 2 Tryz.f121=true:=by kernel_rfl
theorem anD:b7 wR TQ [.tmp 4,.tmp 5] 2 Tryz.f122=true:=by kernel_rfl
theorem E3:b7 wR AJ [.tmp 4] 2 Tryz.f132=true:=by kernel_rfl
open Classical in
theorem arh(l:List bV):bR aA 70 [.slice 2 .no (l.map bV.e)] (.bool (decide (ho l))):=by
 generalize bI:decide (ho l)=R;refine br nh Tryz.func70 am1 fun aR=>?_;unfold Tg;have ik:l.length<=68719476736:=by simp[gO,gj,gE,lim]at aR;omega
 simp;refine ep [0,5,6] (fun i (_:Unit)=>[(7,.int .i64 i)]) l.length (fun i _=> ∀j,j<i->iV na ou l j) () b0 (fun k ae=>Ω) (fun _ ag _=>?_) (fun i _ hi ag _=>?_)
 ·have:R=true:=by rw[<-bI,eA,IB];exact ag
  rw[this];exact cu
 ·obtain⟨b,ad⟩:∃b,l[i]? =some b:=⟨_,cm hi⟩;obtain⟨c,aq⟩:∃c,l[i-1]? =some c:=⟨_,cm Ω⟩;have cK:∀h,(l[i]'h)=b:=fun h=>by rw[cm hi]at ad;exact eV ad
  have cW:¬iV na ou l i->R=false:=fun h=>by rw[<-bI,gJ];exact fun b4=>h (IB.1 b4 i hi)
  have da:iV na ou l i->∀j,j<i+1->iV na ou l j:=fun h j j9=>by
   by_cases e:j=i
   ·rw[e];exact h
   ·exact ag j Ω
  have qp:iV na ou l i->na b:=fun h=>(h b ad).1;have bD:iV na ou l i->0<i->c.v<b.v:=fun h bB=>(h b ad).2 c bB aq;have eh:na b->(0<i->c.v<b.v)->iV na ou l i:=fun I U b3 gn=>by rw[ad]at gn;cases gn;exact⟨I,fun cr bB hJ=>by rw[aq]at hJ;cases hJ;exact U bB⟩
  unfold na at qp eh;by_cases g0:0<i/\¬c.v<b.v
  ·rw[cW (fun h=>g0.2 (bD h g0.1))];have as5:=g0.1;have xa:b.v<=c.v:=Ω
   exact cu
  have aD:(decide (0<i)&&decide (b.v<=c.v))=false:=by simp;intro h;by_cases cA:c.v<b.v;exact cA;exact absurd ⟨h,cA⟩ g0
  by_cases g1:0<=b.v/\b.v<=100000;rotate_left
  ·rw[cW (fun h=>g1 (qp h).1)];have l3:decide (0<=b.v/\b.v<=100000)=false:=by simp only[gJ];exact g1
   by_cases bB:0<i
   ·have xa:¬b.v<=c.v:=by simp[bB]at aD;omega
    simp[hi,cK,aq];(with_reducible repeat' first|refine ak ?_|refine aF (dC _ _ _) ?_|refine aG (dC _ _ _) ?_|simp[cK,aq,hi,bB,xa,l3,g1]);all_goals simp[bz,aY,a6,aX]
   ·obtain rfl:i=0:=Ω
    simp[hi,cK,aq];(with_reducible repeat' first|refine ak ?_|refine aF (dC _ _ _) ?_|refine aG (dC _ _ _) ?_|simp[cK,aq,hi,l3,g1]);all_goals simp[bz,aY,a6,aX]
  have l3:decide (0<=b.v/\b.v<=100000)=true:=by simp only[eA];exact g1
  by_cases g2:b.k=2\/b.k=3;rotate_left
  ·rw[cW (fun h=>g2 (qp h).2)];have g21:(b.k !=2)=true:=by simp;omega
   have g22:(b.k !=3)=true:=by simp;omega
   by_cases bB:0<i
   ·have xa:¬b.v<=c.v:=by simp[bB]at aD;omega
    simp[hi,cK,aq];(with_reducible repeat' first|refine ak ?_|refine aF (dC _ _ _) ?_|refine aG (dC _ _ _) ?_|simp[cK,aq,hi,bB,xa,l3,g1,g21,g22]);all_goals simp[bz,aY,a6,aX]
   ·obtain rfl:i=0:=Ω
    simp[hi,cK,aq];(with_reducible repeat' first|refine ak ?_|refine aF (dC _ _ _) ?_|refine aG (dC _ _ _) ?_|simp[cK,aq,hi,l3,g1,g21,g22]);all_goals simp[bz,aY,a6,aX]
  have ds:=da (eh ⟨g1,g2⟩ fun bB=>by simp[bB]at aD;omega);have Ho:((b.k !=2)=false)\/((b.k !=2)=true/\(b.k !=3)=false):=by
   rcases g2 with h|h
   ·left;simp[h]
   ·right;simp[h]
  rcases Ho with g21|⟨g21,g22⟩
  ·by_cases bB:0<i
   ·have xa:¬b.v<=c.v:=by simp[bB]at aD;omega
    simp[hi,cK,aq];(with_reducible repeat' first|refine ak ?_|refine aF (dC _ _ _) ?_|refine aG (dC _ _ _) ?_|simp[cK,aq,hi,bB,xa,l3,g1,g21]);all_goals exact bS.rng () hi ds b0
   ·obtain rfl:i=0:=Ω
    simp[hi,cK,aq];(with_reducible repeat' first|refine ak ?_|refine aF (dC _ _ _) ?_|refine aG (dC _ _ _) ?_|simp[cK,aq,hi,l3,g1,g21]);all_goals exact bS.rng () hi ds b0
  ·by_cases bB:0<i
   ·have xa:¬b.v<=c.v:=by simp[bB]at aD;omega
    simp[hi,cK,aq];(with_reducible repeat' first|refine ak ?_|refine aF (dC _ _ _) ?_|refine aG (dC _ _ _) ?_|simp[cK,aq,hi,bB,xa,l3,g1,g21,g22]);all_goals exact bS.rng () hi ds b0
   ·obtain rfl:i=0:=Ω
    simp[hi,cK,aq];(with_reducible repeat' first|refine ak ?_|refine aF (dC _ _ _) ?_|refine aG (dC _ _ _) ?_|simp[cK,aq,hi,l3,g1,g21,g22]);all_goals exact bS.rng () hi ds b0
theorem mK(a b:bn):bR aA 118 [a.e,b.e] (.bool (im fs a b)):=by
 rw[<-Yo];have bI:uS a b=(decide (a.v<b.v)||(a.v==b.v&&h2 a.s b.s)):=rfl;rcases Int.lt_trichotomy a.v b.v with h|h|h
 ·have:uS a b=true:=by rw[bI];simp[h]
  rw[this];refine br nh Tryz.func118 OV fun aR=>?_;unfold GX;exact cu
 ·have I:¬a.v<b.v:=Ω
  have U:(a.v==b.v)=true:=by simp[h]
  have:uS a b=h2 a.s b.s:=by rw[bI];simp[h]
  rw[this];refine br nh Tryz.func118 OV fun aR=>?_;unfold GX;exact cu
 ·have I:¬a.v<b.v:=Ω
  have U:¬a.v=b.v:=Ω
  have ao:(a.v==b.v)=false:=by simp[U]
  have:uS a b=false:=by rw[bI];simp[I,U]
  rw[this];refine br nh Tryz.func118 OV fun aR=>?_;unfold GX;exact cu
def Xb(l:List dS)(i:Nat)(_:Unit):Prop:= ∀j,j<i->B6 l j
open Classical in
theorem abJ(l:List dS):bR aA 75 [.slice 5 .no (l.map dS.e)] (.bool (decide (wV l))):=by
 generalize bI:decide (wV l)=R;refine br eY Tryz.func75 ant fun aR=>?_;unfold TH;have ik:l.length<=68719476736:=by simp[gO,gj,gE,lim]at aR;omega
 simp;refine ep [0,5,6] (fun i (_:Unit)=>[(7,.int .i64 i)]) l.length (Xb l) () b0 (fun k ae=>Ω) (fun _ ag _=>?_) (fun i _ hi ag _=>?_)
 ·have:R=decide (l.length<=400):=by rw[<-bI,decide_eq_decide];exact⟨fun h=>h.1,fun h=>⟨h,fun j j9=>ag j j9⟩⟩
  rw[this];simp;(with_reducible repeat' first|refine ak ?_|simp);simp[bz,aY,a6,aX];all_goals(first|done|omega|(simp;done)|(simp;omega))
 ·obtain⟨b,ad⟩:∃b,l[i]? =some b:=⟨_,cm hi⟩;obtain⟨c,aq⟩:∃c,l[i-1]? =some c:=⟨_,cm Ω⟩;have cK:∀h,(l[i]'h)=b:=fun h=>by rw[cm hi]at ad;exact eV ad
  have cW:¬B6 l i->R=false:=fun h=>by rw[<-bI,gJ];exact fun b4=>h (b4.2 i hi)
  have da:B6 l i->Xb l (i+1) ():=fun h j j9=>by
   by_cases e:j=i
   ·rw[e];exact h
   ·exact ag j Ω
  simp[hi,cK,aq];((with_reducible repeat' first|refine ak ?_|refine aF (dC _ _ _) ?_|refine aG (dC _ _ _) ?_|refine aF (FY _) ?_|refine aG (FY _) ?_|simp[cK,aq,hi]|((first|apply bN|apply bP|apply bO)<;>intro h<;>try simp at h))<;>(try exact cf));all_goals first
   |(have au:¬B6 l i:=by(intro b4;have I:=b4 b ad;have U:=I.2.1 c;have ao:=I.2.2;first|omega|(have a7:=U Ω aq;omega)|(rw[ao]at h;cases h)|(simp_all;done)|(simp_all;omega))
     rw[cW au]
     simp[bz,aY,a6,aX]
     done)
   |(refine bS.rng () hi (da fun b3 gn=>?_) ?_
     ·rw[ad]at gn;cases gn
      refine⟨?_,fun cr bB hJ=>?_,?_⟩
      ·omega
      ·rw[aq]at hJ;cases hJ;omega
      ·first|assumption|simp_all
     ·exact b0)
def nI(n:Int):List Int->List Int
 |[]=>[n]
 |c::l=>if c<n then c::nI n l else if c=n then c::l else n::c::l
def tP(l:List Int):Prop:=l.Pairwise (· < ·)
theorem W4(n:Int):∀(l:List Int) (k:Nat),(∀i c,i<k->l[i]? =some c->c<n)->(∀c,l[k]? =some c->n<=c)->k<=l.length->nI n l=if l[k]? =some n then l else l.take k++n::l.drop k
 |[],k,_,_,ae=>by simp at ae;subst ae;rfl
 |c::l,0,_,U,_=>by
  have:=U c rfl;by_cases e:c=n
  ·simp[nI,e]
  ·have ao:¬c<n:=Ω
   simp[nI,ao,e]
 |c::l,k+1,I,U,ae=>by have bB:=I 0 c Ω rfl;simp only[nI,if_pos bB,List.take_succ_cons,List.drop_succ_cons,bQ,List.getElem?_cons_succ];rw[W4 n l k (fun i d hi aD=>I (i+1) d Ω (by simpa using aD)) (fun d aD=>U d (by simpa using aD)) (by simpa using ae)];split<;>rfl
theorem Om{n m:Int}:∀{l:List Int},m∈nI n l↔m=n\/m∈l
 |[]=>by simp[nI]
 |c::l=>by
  simp only[nI];split
  ·simp only[eU,Om (l:=l)];constructor
   ·rintro(h|h|h)
    ·exact .inr (.inl h)
    ·exact .inl h
    ·exact .inr (.inr h)
   ·rintro(h|h|h)
    ·exact .inr (.inl h)
    ·exact .inl h
    ·exact .inr (.inr h)
  ·split
   ·rename_i h;subst h;simp
   ·simp
theorem W3{n:Int}:∀{l:List Int},tP l->tP (nI n l)
 |[],_=>by simp[nI,tP]
 |c::l,h=>by
  obtain⟨I,U⟩:=nm.1 h;simp only[nI];split
  ·rename_i ao;refine nm.2 ⟨fun m hm=>?_,W3 U⟩;rcases Om.1 hm with rfl|hm
   ·exact ao
   ·exact I m hm
  ·split
   ·exact h
   ·refine nm.2 ⟨fun m hm=>?_,h⟩;rcases eU.1 hm with rfl|hm
    ·omega
    ·have:=I m hm;omega
theorem W5(n:Int):∀l:List Int,(nI n l).length<=l.length+1
 |[]=>by simp[nI]
 |c::l=>by
  have:=W5 n l;simp only[nI];split
  ·simp;omega
  ·split<;>simp
theorem Es(l:List Int)(i:Nat):(eE l)[i]? =(l[i]?).map (aj.int .i64):=by simp[eE]
theorem fh(l:List Int):(eE l).length=l.length:=by simp[eE]
theorem Ab:∀l:List Int,du (eE l)=eE l
 |[]=>by simp[eE,du]
 |a::l=>by have:=Ab l;simp only[eE,hc,du,ej]at this⊢;rw[this]
theorem Io(l:List Int)(n:Int)(k:Nat):du (p7 k (eE l)++aj.int .i64 n::List.drop k (p7 l.length (eE l)))=eE (p7 k l++n::List.drop k l):=by
 have e:p7 l.length (eE l)=eE l:=hV (by simp[eE]);have aE:p7 k (eE l)++aj.int .i64 n::List.drop k (eE l)=eE (p7 k l++n::List.drop k l):=by simp only[eE,List.map_append,hc,List.map_take,List.map_drop]
 rw[e,aE];exact Ab _
theorem aqH(l:List Int)(n:Int)(aw:l.length<=1000000)(bk:tP l):bR aA 128 [.slice 1 .no (eE l),.int .i64 n] (.slice 1 .no (eE (nI n l))):=by
 refine br eY Tryz.func128 ani fun aR=>?_;unfold Tw;simp;refine w6 [0,1] (fun(k:Nat)=>[(5,.int .i64 k)]) (fun k=>k) (fun k=>k<=l.length/\∀c,l[k]? =some c->n<=c) l.length b0 ⟨Ω,fun c h=>by simp at h⟩ (fun k ag _=>?_);obtain⟨ae,ag⟩:=ag;have ur:(∀c,0<k->l[k-1]? =some c->c<n)->nI n l=if l[k]? =some n then l else l.take k++n::l.drop k:=fun h=>W4 n l k (fun i c hi aq=>by
  obtain⟨d,aD⟩:∃d,l[k-1]? =some d:=⟨_,cm Ω⟩;have I:=h d Ω aD;rcases Nat.lt_or_ge i (k-1)with U|U
  ·have uu:=(fG.1 aq);have kD:=(fG.1 aD);have:=p6.1 bk i (k-1) uu.1 kD.1 U;rw[uu.2,kD.2]at this;omega
  ·have:i=k-1:=Ω
   subst this;rw[aD]at aq;cases aq;exact I) ag ae
 have ks:∀c,l[k]? =some c->∀h,((eE l)[k]'h)= .int .i64 c:=fun c h b4=>by have:=Es l k;rw[h,cm b4]at this;exact eV this
 have ds:(0<k->∃d,l[k-1]? =some d/\d<n)->∀P:Prop,(nI n l=(if l[k]? =some n then l else l.take k++n::l.drop k)->P)->P:=fun h P h5=>h5 (ur fun c bB aq=>by obtain⟨d,aD,I⟩:=h bB;rw[aD]at aq;cases aq;exact I)
 rcases Nat.eq_zero_or_pos k with bB|fW
 ·have a8:decide ((0:Int)<k)=false:=by simp;omega
  refine ds (fun h=>Ω) _ fun e=>?_;by_cases iz:k<l.length
  ·obtain⟨c,aq⟩:∃c,l[k]? =some c:=⟨_,cm iz⟩;have hJ:=ks c aq;rw[aq]at e;by_cases q:c=n
   ·have gq:(c==n)=true:=by simp[q]
    rw[if_pos (by rw[q])]at e;rw[e];simp[a8,iz];((with_reducible repeat' first|refine ak ?_|simp[a8,iz,hJ,gq]|((first|apply bN|apply bP|apply bO)<;>intro h<;>try simp at h))<;>(try exact cf));all_goals simp[bz,aY,a6,aX]
   ·have gq:(c==n)=false:=by simp[q]
    rw[if_neg (by simp[q])]at e;rw[e];simp[a8,iz];((with_reducible repeat' first|refine ak ?_|simp[a8,iz,hJ,gq]|((first|apply bN|apply bP|apply bO)<;>intro h<;>try simp at h))<;>(try exact cf));all_goals simp[bz,aY,a6,aX]
    all_goals exact Io l n k
  ·rw[rq Ω]at e;simp only[reduceCtorEq,if_false]at e;rw[e];simp[a8,iz];((with_reducible repeat' first|refine ak ?_|simp[a8,iz]|((first|apply bN|apply bP|apply bO)<;>intro h<;>try simp at h))<;>(try exact cf));all_goals simp[bz,aY,a6,aX]
   all_goals exact Io l n k
 ·obtain⟨d,aD⟩:∃d,l[k-1]? =some d:=⟨_,cm Ω⟩;have ar:((k:Int)-1).toNat=k-1:=Ω
  have aE:∀h,((eE l)[k-1]'h)= .int .i64 d:=fun b4=>by have:=Es l (k-1);rw[aD,cm b4]at this;exact eV this
  have jI:(0:Int)<k:=Ω
  have mX:k-1<l.length:=Ω
  by_cases ad:n<=d
  ·simp[fW,jI,ar,aE,ad,mX];(with_reducible repeat' first|refine ak ?_|simp[fW,jI,ar,aE,ad,mX]);refine bS.whl (k-1) Ω ⟨Ω,fun c aq=>by rw[aD]at aq;cases aq;exact ad⟩ ?_;have bA:((k-1:Nat):Int)=(k:Int)-1:=Ω
   simp[bA];exact b0
  ·refine ds (fun _=>⟨d,aD,Ω⟩) _ fun e=>?_;by_cases iz:k<l.length
   ·obtain⟨c,aq⟩:∃c,l[k]? =some c:=⟨_,cm iz⟩;have hJ:=ks c aq;rw[aq]at e;by_cases q:c=n
    ·have gq:(c==n)=true:=by simp[q]
     rw[if_pos (by rw[q])]at e;rw[e];simp[fW,jI,ar,aE,ad,mX,iz];((with_reducible repeat' first|refine ak ?_|simp[fW,jI,ar,aE,ad,mX,iz,hJ,gq]|((first|apply bN|apply bP|apply bO)<;>intro h<;>try simp at h))<;>(try exact cf));all_goals simp[bz,aY,a6,aX]
    ·have gq:(c==n)=false:=by simp[q]
     rw[if_neg (by simp[q])]at e;rw[e];simp[fW,jI,ar,aE,ad,mX,iz];(with_reducible repeat' first|refine ak ?_|simp[fW,jI,ar,aE,ad,mX,iz,hJ,gq]);all_goals simp[bz,aY,a6,aX]
     all_goals exact Io l n k
   ·rw[rq Ω]at e;simp only[reduceCtorEq,if_false]at e;rw[e];simp[fW,jI,ar,aE,ad,mX,iz];(with_reducible repeat' first|refine ak ?_|simp[fW,jI,ar,aE,ad,mX,iz]);all_goals simp[bz,aY,a6,aX]
    all_goals exact Io l n k
def iQ:T->List Int->List Int
 | .var n,l=>nI n l
 | .pair a b,l=>iQ b (iQ a l)
 |_,l=>l
theorem QP:∀(t:T) {l:List Int},tP l->tP (iQ t l)
 | .var _,_,h=>W3 h
 | .pair a b,_,h=>QP b (QP a h)
 | .nil,_,h=>h
 | .sym _,_,h=>h
 | .num _,_,h=>h
theorem EP{m:Int}:∀(t:T) {l:List Int},m∈iQ t l↔t.occ m=true\/m∈l
 | .var n,l=>by simp only[iQ,Om,T.occ,dO];constructor<;>rintro(h|h)<;>first|exact .inr h|exact .inl h.symm
 | .pair a b,l=>by
  simp only[iQ,EP b,EP a,T.occ,mg];constructor
  ·rintro(h|h|h)
   ·exact .inl (.inr h)
   ·exact .inl (.inl h)
   ·exact .inr h
  ·rintro((h|h)|h)
   ·exact .inr (.inl h)
   ·exact .inl h
   ·exact .inr (.inr h)
 | .nil,l=>by simp[iQ,T.occ]
 | .sym _,l=>by simp[iQ,T.occ]
 | .num _,l=>by simp[iQ,T.occ]
theorem CT:∀(t:T) (l:List Int),(iQ t l).length<=l.length+t.size
 | .var n,l=>by have:=W5 n l;simp only[iQ,T.size];omega
 | .pair a b,l=>by have I:=CT a l;have U:=CT b (iQ a l);simp only[iQ,T.size];omega
 | .nil,l=>by simp[iQ]
 | .sym _,l=>by simp[iQ]
 | .num _,l=>by simp[iQ]
theorem FW:∀(t:T) (l:List Int),l.length+t.size<=1000000->tP l->bR aA 77 [t.e,.slice 1 .no (eE l)] (.slice 1 .no (eE (iQ t l)))
 | .var n,l,aw,bk=>by
  simp only[T.size]at aw;have key:=aqH l n Ω bk;refine br eY Tryz.func77 E2 fun aR=>?_;unfold AI;simp;(with_reducible repeat' first|refine ak ?_|refine aF key ?_|refine aG key ?_|simp);all_goals simp[bz,aY,a6,aX]
  all_goals simp[iQ,Ab]
 | .pair a b,l,aw,bk=>by
  simp only[T.size]at aw;have NW:=CT a l;have aS:=FW a l Ω bk;have bh:=FW b (iQ a l) Ω (QP a bk);refine br eY Tryz.func77 E2 fun aR=>?_;unfold AI;simp;refine ep [15,16] (fun i (_:Unit)=>[(1,.slice 1 .no (eE (if i=0 then l else if i=1 then iQ a l else iQ b (iQ a l)))),(17,.int .i64 i)]) 2 (fun _ _=>True) () b0 trivial (fun _ _ _=>?_) (fun i _ hi _ _=>?_)
  ·simp;(with_reducible repeat' first|refine ak ?_|simp);simp[bz,aY,a6,aX];simp[iQ,Ab]
  ·rcases(by omega:i=0\/i=1)with rfl|rfl
   ·simp;((with_reducible repeat' first|refine ak ?_|refine aF aS ?_|refine aG aS ?_|simp|((first|apply bN|apply bP|apply bO)<;>intro h<;>try simp at h))<;>(try exact cf));exact bS.rng () hi trivial b0
   ·simp;((with_reducible repeat' first|refine ak ?_|refine aF bh ?_|refine aG bh ?_|simp|((first|apply bN|apply bP|apply bO)<;>intro h<;>try simp at h))<;>(try exact cf));exact bS.rng () hi trivial b0
 | .nil,l,aw,bk=>by refine br eY Tryz.func77 E2 fun aR=>?_;unfold AI;simp;refine ep [15,16] (fun i (_:Unit)=>[(1,.slice 1 .no (eE l)),(17,.int .i64 i)]) 0 (fun _ _=>True) () b0 trivial (fun _ _ _=>?_) (fun i _ hi _ _=>Ω);simp;((with_reducible repeat' first|refine ak ?_|simp|((first|apply bN|apply bP|apply bO)<;>intro h<;>try simp at h))<;>(try exact cf));simp[bz,aY,a6,aX];simp[iQ,Ab]
 | .sym _,l,aw,bk=>by refine br eY Tryz.func77 E2 fun aR=>?_;unfold AI;simp;refine ep [15,16] (fun i (_:Unit)=>[(1,.slice 1 .no (eE l)),(17,.int .i64 i)]) 0 (fun _ _=>True) () b0 trivial (fun _ _ _=>?_) (fun i _ hi _ _=>Ω);simp;(with_reducible repeat' first|refine ak ?_|simp);simp[bz,aY,a6,aX];simp[iQ,Ab]
 | .num _,l,aw,bk=>by refine br eY Tryz.func77 E2 fun aR=>?_;unfold AI;simp;refine ep [15,16] (fun i (_:Unit)=>[(1,.slice 1 .no (eE l)),(17,.int .i64 i)]) 0 (fun _ _=>True) () b0 trivial (fun _ _ _=>?_) (fun i _ hi _ _=>Ω);simp;(with_reducible repeat' first|refine ak ?_|simp);simp[bz,aY,a6,aX];simp[iQ,Ab]
def akx(s:List UInt8)(a b:T)(i:Nat)(_:Unit):Prop:=(1<=i->a.has s=false)/\(2<=i->b.has s=false)
theorem Kl(s:List UInt8):∀t:T,bR aA 132 [t.e,.str s] (.bool (t.has s))
 | .pair a b=>by
  have dQ:=Kl s a;have dR:=Kl s b;refine br nh Tryz.func132 E3 fun aR=>?_;unfold AJ;simp;refine ep [1,2,8,9] (fun i (_:Unit)=>[(10,.int .i64 i)]) 2 (akx s a b) () b0 ⟨fun h=>Ω,fun h=>Ω⟩ (fun _ ag _=>?_) (fun i _ hi ag _=>?_)
  ·simp;(with_reducible repeat' first|refine ak ?_|simp);simp[bz,aY,a6,aX];simp[T.has,ag.1,ag.2]
  ·rcases(by omega:i=0\/i=1)with rfl|rfl
   ·cases bk:a.has s
    ·rw[bk]at dQ;simp;((with_reducible repeat' first|refine ak ?_|refine aF dQ ?_|refine aG dQ ?_|simp|((first|apply bN|apply bP|apply bO)<;>intro h<;>try simp at h))<;>(try exact cf));exact bS.rng () hi ⟨fun _=>bk,fun h=>Ω⟩ b0
    ·rw[bk]at dQ;simp;((with_reducible repeat' first|refine ak ?_|refine aF dQ ?_|refine aG dQ ?_|simp|((first|apply bN|apply bP|apply bO)<;>intro h<;>try simp at h))<;>(try exact cf));simp[bz,aY,a6,aX];simp[T.has,bk]
   ·cases ad:b.has s
    ·rw[ad]at dR;simp;((with_reducible repeat' first|refine ak ?_|refine aF dR ?_|refine aG dR ?_|simp|((first|apply bN|apply bP|apply bO)<;>intro h<;>try simp at h))<;>(try exact cf));exact bS.rng () hi ⟨fun _=>ag.1 Ω,fun _=>ad⟩ b0
    ·rw[ad]at dR;simp;((with_reducible repeat' first|refine ak ?_|refine aF dR ?_|refine aG dR ?_|simp|((first|apply bN|apply bP|apply bO)<;>intro h<;>try simp at h))<;>(try exact cf));simp[bz,aY,a6,aX];simp[T.has,ad]
 | .sym n=>by
  refine br nh Tryz.func132 E3 fun aR=>?_;unfold AJ;simp;refine ep [1,2,8,9] (fun i (_:Unit)=>[(10,.int .i64 i)]) 0 (fun i _=>True) () b0 trivial (fun _ ag _=>?_) (fun i _ hi ag _=>Ω);simp;(with_reducible repeat' first|refine ak ?_|simp);all_goals simp[bz,aY,a6,aX]
  all_goals simp[T.has]
 | .num n=>by
  refine br nh Tryz.func132 E3 fun aR=>?_;unfold AJ;simp;refine ep [1,2,8,9] (fun i (_:Unit)=>[(10,.int .i64 i)]) 0 (fun i _=>True) () b0 trivial (fun _ ag _=>?_) (fun i _ hi ag _=>Ω);simp;(with_reducible repeat' first|refine ak ?_|simp);all_goals simp[bz,aY,a6,aX]
  all_goals simp[T.has]
 | .var n=>by
  refine br nh Tryz.func132 E3 fun aR=>?_;unfold AJ;simp;refine ep [1,2,8,9] (fun i (_:Unit)=>[(10,.int .i64 i)]) 0 (fun i _=>True) () b0 trivial (fun _ ag _=>?_) (fun i _ hi ag _=>Ω);simp;(with_reducible repeat' first|refine ak ?_|simp);all_goals simp[bz,aY,a6,aX]
  all_goals simp[T.has]
 | .nil=>by
  refine br nh Tryz.func132 E3 fun aR=>?_;unfold AJ;simp;refine ep [1,2,8,9] (fun i (_:Unit)=>[(10,.int .i64 i)]) 0 (fun i _=>True) () b0 trivial (fun _ ag _=>?_) (fun i _ hi ag _=>Ω);simp;(with_reducible repeat' first|refine ak ?_|simp);all_goals simp[bz,aY,a6,aX]
  all_goals simp[T.has]
def oC(l:List bV)(o:Option (List bV)):aj:= .tuple [.slice 2 .no ((o.getD l).map bV.e),.bool o.isSome]
@[simp]theorem auk(S:aM->Prop)(l:List bV)(o:Option (List bV)):aK S (oC l o)=True:=by simp[oC]
def xF(l:List bV)(n:Int)(i:Nat):Prop:=i<=l.length/\∀j y,j<i->l[j]? =some y->y.v<n
theorem xF.none{l:List bV}{n:Int}{i:Nat}(h:xF l n i)(bk:l.Pairwise fun x y=>x.v<y.v)(aq:∀c,l[i]? =some c->n<c.v):jb l n=none:=zq.2 fun x ab=>by
 obtain⟨j,dX,rfl⟩:=oL ab;have e:=cm dX;rcases Nat.lt_or_ge j i with I|I
 ·have:=h.2 j _ I e;omega
 ·have HO:i<l.length:=Ω
  have aE:=cm HO;have ao:=aq _ aE;rcases Nat.lt_or_ge i j with U|U
  ·have:=p6.1 bk i j HO dX U;omega
  ·obtain rfl:i=j:=Ω
   omega
theorem xF.ins{l:List bV}{n k:Int}{i:Nat}(h:xF l n i)(aq:∀c,l[i]? =some c->n<c.v):mD ⟨n,k⟩ l=l.take i++⟨n,k⟩::l.drop i:=W6 ⟨n,k⟩ l i (fun j y I U=>h.2 j y I U) (fun y aB=>by have:=aq y aB;simp;omega) h.1
theorem xF.step{l:List bV}{n:Int}{i:Nat}{b:bV}(h:xF l n i)(ad:l[i]? =some b)(au:b.v<n):xF l n (i+1):=⟨(fG.1 ad).1,fun j y I U=>by
 rcases(by omega:j<i\/j=i)with ao|rfl
 ·exact h.2 j y ao U
 ·rw[ad]at U;cases U;exact au⟩
theorem aqV(l:List bV)(aw:l.length<=1000000)(bk:l.Pairwise fun x y=>x.v<y.v)(n k:Int):bR aA 103 [.slice 2 .no (l.map bV.e),(T.var n).e,.int .i64 k] (oC l (gU l (.var n) k)):=by
 generalize di:gU l (.var n) k=O;have ec:(match jb l n with|some bJ=>if bJ=k then some l else none|none=>some (mD ⟨n,k⟩ l))=O:=by rw[<-di];rfl
 clear di;refine br nh Tryz.func103 E4 fun aR=>?_;unfold AK;simp;refine w6 [0,2,4] (fun(i:Nat)=>[(8,.int .i64 i)]) (fun i=>l.length-i) (xF l n) 0 b0 ⟨Ω,fun j y h=>Ω⟩ (fun i ag _=>?_);have ae:=ag.1;by_cases hi:i<l.length
 ·obtain⟨b,ad,cK⟩:=en hi;rcases Int.lt_trichotomy b.v n with h|h|h
  ·have af:=ag.step ad h;clear ec ag ad bk;simp[hi,cK,h];((with_reducible repeat' first|refine ak ?_|simp[hi,cK,h]|((first|apply bN|apply bP|apply bO)<;>intro h<;>try simp at h))<;>(try exact cf));exact bS.whl (i+1) Ω af b0
  ·have aT:jb l n=some b.k:=by rw[<-h];exact zr bk (ek ad)
   have I:¬b.v<n:=Ω
   have U:(b.v==n)=true:=by simp[h]
   rw[aT]at ec;simp only at ec;subst ec;clear ag ad bk aT;simp[hi,cK,I,U];(with_reducible repeat' first|refine ak ?_|simp[hi,cK,I,U]);all_goals simp[bz,aY,a6,aX]
   all_goals(by_cases e:b.k=k<;>simp[oC,e])
  ·have I:¬b.v<n:=Ω
   have U:(b.v==n)=false:=by simp;omega
   have aq:∀c,l[i]? =some c->n<c.v:=fun c aq=>by rw[ad]at aq;cases aq;exact h
   rw[ag.none bk aq]at ec;simp only[ag.ins aq]at ec;subst ec;clear ag ad bk aq;simp[hi,cK,I,U];(with_reducible repeat' first|refine ak ?_|simp[hi,cK,I,U]);all_goals simp[bz,aY,a6,aX]
   all_goals simp[oC]
   rw[hV (by simp:(l.map bV.e).length<=l.length),<-List.map_take,<-List.map_drop,<-hc,<-List.map_append];exact Qg _
 ·have aq:∀c,l[i]? =some c->n<c.v:=fun c aq=>by rw[rq Ω]at aq;cases aq
  rw[ag.none bk aq]at ec;simp only[ag.ins aq]at ec;have HO:i=l.length:=Ω
  clear ag bk aq;subst ec;subst HO;simp;(with_reducible repeat' first|refine ak ?_|simp);all_goals simp[bz,aY,a6,aX]
  all_goals simp[oC]
  rw[hV (by simp:(l.map bV.e).length<=l.length),show [(⟨n,k⟩:bV).e]=[(⟨n,k⟩:bV)].map bV.e from rfl,<-List.map_append];exact Qg _
theorem QH(l:List bV)(aw:l.length<=1000000)(bk:l.Pairwise fun x y=>x.v<y.v)(t:T)(k:Int):bR aA 103 [.slice 2 .no (l.map bV.e),t.e,.int .i64 k] (oC l (gU l t k)):=by
 cases t with
 |var n=>exact aqV l aw bk n k
 |nil=>
  refine br nh Tryz.func103 E4 fun aR=>?_;unfold AK;simp;(with_reducible repeat' first|refine ak ?_|simp);all_goals simp[bz,aY,a6,aX]
  all_goals(by_cases e:0=k<;>simp[oC,gU,e])
 |sym n=>
  refine br nh Tryz.func103 E4 fun aR=>?_;unfold AK;simp;(with_reducible repeat' first|refine ak ?_|simp);all_goals simp[bz,aY,a6,aX]
  all_goals(by_cases e:2=k<;>simp[oC,gU,e])
 |num n=>
  refine br nh Tryz.func103 E4 fun aR=>?_;unfold AK;simp;(with_reducible repeat' first|refine ak ?_|simp);all_goals simp[bz,aY,a6,aX]
  all_goals(by_cases e:3=k<;>simp[oC,gU,e])
 |pair a b=>
  refine br nh Tryz.func103 E4 fun aR=>?_;unfold AK;simp;(with_reducible repeat' first|refine ak ?_|simp);all_goals simp[bz,aY,a6,aX]
  all_goals(by_cases e:4=k<;>simp[oC,gU,e])
theorem abY(s:List ah)(v:Int):hS s (.var v)=aV s v:=rfl
theorem QI{s:List ah}(af:ei s){l:List bV}(aw:ho l):bR aA 121 [.slice 5 .no (s.map ah.e),.slice 2 .no (l.map bV.e)] (gd (e3 s l [])):=by
 have y7:=o5 aw;refine br nh Tryz.func121 anC fun aR=>?_;unfold TP;simp;refine ep [0,11,12] (fun i (a:List bV)=>[(6,.slice 2 .no (a.map bV.e)),(13,.int .i64 i)]) l.length (W9 s l) [] b0 ⟨⟨Ψ,Ψ⟩,rfl⟩ (fun a ag _=>?_) (fun i a hi ag _=>?_)
 ·obtain⟨_,ag⟩:=ag;rw[List.drop_length]at ag;simp only[e3]at ag;rw[<-ag];simp;(with_reducible repeat' first|refine ak ?_|simp);simp[bz,aY,a6,aX];simp[gd]
 ·obtain⟨bk,ag⟩:=ag;obtain⟨b,ad,cK⟩:=en hi;have pG:=aw.at' b (ek ad);rw[lA hi,cK]at ag;simp only[e3]at ag;have eL:=Kk s af.len (.var b.v);rw[abY]at eL;have fC:=QH a (by have:=o5 bk;omega) bk.asc (aV s b.v) b.k;simp[hi,cK];cases ec:gU a (aV s b.v) b.k with
  |none=>rw[ec]at ag fC;simp only at ag;rw[<-ag];simp only[oC]at fC;(with_reducible repeat' first|refine ak ?_|refine aF (kT _) ?_|refine aG (kT _) ?_|refine aF eL ?_|refine aG eL ?_|refine aF fC ?_|refine aG fC ?_|simp[cK,hi]);simp[bz,aY,a6,aX];simp[gd]
  |some bq=>rw[ec]at ag fC;simp only[oC]at fC;(with_reducible repeat' first|refine ak ?_|refine aF (kT _) ?_|refine aG (kT _) ?_|refine aF eL ?_|refine aG eL ?_|refine aF fC ?_|refine aG fC ?_|simp[cK,hi]);exact bS.rng bq hi ⟨Gq bk (z1 af pG.1) pG.2 ec,ag⟩ b0
open Classical in
theorem ari(l:List bn):bR aA 71 [.slice 2 .no (l.map bn.e)] (.bool (decide (ju l))):=by
 generalize bI:decide (ju l)=R;refine br nh Tryz.func71 am5 fun aR=>?_;unfold Tk;have ik:l.length<=68719476736:=by simp[gO,gj,gE,lim]at aR;omega
 simp;refine ep [0,5,6] (fun i (_:Unit)=>[(7,.int .i64 i)]) l.length (fun i _=> ∀j,j<i->iV k1 lq l j) () b0 (fun k ae=>Ω) (fun _ ag _=>?_) (fun i _ hi ag _=>?_)
 ·have:R=true:=by rw[<-bI,eA,IP];exact ag
  rw[this];exact cu
 ·obtain⟨b,ad⟩:∃b,l[i]? =some b:=⟨_,cm hi⟩;obtain⟨c,aq⟩:∃c,l[i-1]? =some c:=⟨_,cm Ω⟩;have cK:∀h,(l[i]'h)=b:=fun h=>by rw[cm hi]at ad;exact eV ad
  have cW:¬iV k1 lq l i->R=false:=fun h=>by rw[<-bI,gJ];exact fun b4=>h (IP.1 b4 i hi)
  have da:iV k1 lq l i->∀j,j<i+1->iV k1 lq l j:=fun h j j9=>by
   by_cases e:j=i
   ·rw[e];exact h
   ·exact ag j Ω
  have eg:∀p:Prop,(p->eI)->(iV k1 lq l i->p)->R=false:=fun p I U=>cW fun h=>I (U h);have qp:iV k1 lq l i->k1 b:=fun h=>(h b ad).1;have bD:iV k1 lq l i->0<i->im fs c b=true:=fun h bB=>by simpa[im,lq]using(h b ad).2 c bB aq
  have eh:k1 b->(0<i->im fs c b=true)->iV k1 lq l i:=fun I U b3 gn=>by rw[ad]at gn;cases gn;exact⟨I,fun cr bB hJ=>by rw[aq]at hJ;cases hJ;simpa[im,lq]using U bB⟩
  unfold k1 at qp eh;by_cases g4:0<i
  ·cases g5:im fs c b
   ·rw[eg _ (fun h=>by rw[h]at g5;cases g5) (fun h=>bD h g4)];simp[hi,cK,aq];(with_reducible repeat' first|refine ak ?_|refine aF (mK _ _) ?_|refine aG (mK _ _) ?_|simp[cK,aq,hi,g4,g5]);all_goals simp[bz,aY,a6,aX]
   ·by_cases g1:0<=b.v/\b.v<=100000;rotate_left
    ·rw[eg _ (fun h=>g1 h) (fun h=>(qp h).1)];have l3:decide (0<=b.v/\b.v<=100000)=false:=by simp only[gJ];exact g1
     simp[hi,cK,aq];(with_reducible repeat' first|refine ak ?_|refine aF (mK _ _) ?_|refine aG (mK _ _) ?_|refine aF (dC _ _ _) ?_|refine aG (dC _ _ _) ?_|simp[cK,aq,hi,g4,g5,l3,g1]);all_goals simp[bz,aY,a6,aX]
    have l3:decide (0<=b.v/\b.v<=100000)=true:=by simp only[eA];exact g1
    cases g3:iB b.s
    ·rw[eg _ (fun h=>by rw[h]at g3;cases g3) (fun h=>(qp h).2)];have cj:=hB b.s;rw[g3]at cj;simp[hi,cK,aq];(with_reducible repeat' first|refine ak ?_|refine aF (mK _ _) ?_|refine aG (mK _ _) ?_|refine aF (dC _ _ _) ?_|refine aG (dC _ _ _) ?_|refine aF cj ?_|refine aG cj ?_|simp[cK,aq,hi,g4,g5,l3,g1]);all_goals simp[bz,aY,a6,aX]
    have cj:=hB b.s;rw[g3]at cj;have ds:=da (eh ⟨g1,g3⟩ fun _=>g5);simp[hi,cK,aq];(with_reducible repeat' first|refine ak ?_|refine aF (mK _ _) ?_|refine aG (mK _ _) ?_|refine aF (dC _ _ _) ?_|refine aG (dC _ _ _) ?_|refine aF cj ?_|refine aG cj ?_|simp[cK,aq,hi,g4,g5,l3,g1]);all_goals exact bS.rng () hi ds b0
  ·obtain rfl:i=0:=Ω
   by_cases g1:0<=b.v/\b.v<=100000;rotate_left
   ·rw[eg _ (fun h=>g1 h) (fun h=>(qp h).1)];have l3:decide (0<=b.v/\b.v<=100000)=false:=by simp only[gJ];exact g1
    simp[hi,cK,aq];(with_reducible repeat' first|refine ak ?_|refine aF (mK _ _) ?_|refine aG (mK _ _) ?_|refine aF (dC _ _ _) ?_|refine aG (dC _ _ _) ?_|simp[cK,aq,hi,g4,l3,g1]);all_goals simp[bz,aY,a6,aX]
   have l3:decide (0<=b.v/\b.v<=100000)=true:=by simp only[eA];exact g1
   cases g3:iB b.s
   ·rw[eg _ (fun h=>by rw[h]at g3;cases g3) (fun h=>(qp h).2)];have cj:=hB b.s;rw[g3]at cj;simp[hi,cK,aq];(with_reducible repeat' first|refine ak ?_|refine aF (mK _ _) ?_|refine aG (mK _ _) ?_|refine aF (dC _ _ _) ?_|refine aG (dC _ _ _) ?_|refine aF cj ?_|refine aG cj ?_|simp[cK,aq,hi,g4,l3,g1]);all_goals simp[bz,aY,a6,aX]
   have cj:=hB b.s;rw[g3]at cj;have ds:=da (eh ⟨g1,g3⟩ fun h=>absurd h g4);simp[hi,cK,aq];(with_reducible repeat' first|refine ak ?_|refine aF (mK _ _) ?_|refine aG (mK _ _) ?_|refine aF (dC _ _ _) ?_|refine aG (dC _ _ _) ?_|refine aF cj ?_|refine aG cj ?_|simp[cK,aq,hi,g4,l3,g1]);all_goals exact bS.rng () hi ds b0
def qo(s:List UInt8)(bc:List Int)(l:List bn):List bn:=bc.foldl (fun a v=>kZ fs ⟨v,s⟩ a) l
theorem Md(s:List UInt8):∀(bc:List Int) {l:List bn},hG fs l->hG fs (qo s bc l)
 |[],_,h=>h
 |v::bc,_,h=>Md s bc (Nz lQ h)
theorem X3(s:List UInt8){x:bn}:∀(bc:List Int) {l:List bn},x∈qo s bc l↔x∈l\/(x.s=s/\x.v∈bc)
 |[],l=>by simp[qo]
 |v::bc,l=>by
  have:=X3 s (x:=x) bc (l:=kZ fs ⟨v,s⟩ l);rw[show qo s (v::bc) l=qo s bc (kZ fs ⟨v,s⟩ l)from rfl,this,IU lQ,eU];constructor
  ·rintro((rfl|h)|⟨I,U⟩)
   ·exact .inr ⟨rfl,.inl rfl⟩
   ·exact .inl h
   ·exact .inr ⟨I,.inr U⟩
  ·rintro(h|⟨I,U|U⟩)
   ·exact .inl (.inr h)
   ·refine .inl (.inl ?_);cases x;simp_all
   ·exact .inr ⟨I,U⟩
theorem U9(s:List UInt8):∀(bc:List Int) (l:List bn),(qo s bc l).length<=l.length+bc.length
 |[],l=>by simp[qo]
 |v::bc,l=>by have I:=U9 s bc (kZ fs ⟨v,s⟩ l);have U:=NB (c:=fs) (⟨v,s⟩:bn) l;rw[show qo s (v::bc) l=qo s bc (kZ fs ⟨v,s⟩ l)from rfl];simp only[mM];omega
theorem agT{t:T}{s:List UInt8}(cA:t.has s=false){l:List bn}(bk:hG fs l):hv l t s=some (qo s (iQ t []) l):=KK cA (Md s _ bk) fun x=>by rw[X3,EP];simp
def Ey(l:List bn)(bc:List Int)(s:List UInt8)(i:Nat)(a:List bn):Prop:=a=qo s (bc.take i) l
def BG(a:List bn)(m:bn)(k:Nat):Prop:=k<=a.length/\∀j y,j<k->a[j]? =some y->fs y m<0
theorem BG.step{a:List bn}{m:bn}{k:Nat}{b:bn}(h:BG a m k)(ad:a[k]? =some b)(au:fs b m<0):BG a m (k+1):=⟨(fG.1 ad).1,fun j y I U=>by
 rcases(by omega:j<k\/j=k)with ao|rfl
 ·exact h.2 j y ao U
 ·rw[ad]at U;cases U;exact au⟩
theorem BG.fin{a:List bn}{m:bn}{k:Nat}(h:BG a m k)(aq:∀y,a[k]? =some y->0<=fs y m):kZ fs m a=if(match a[k]? with|some y=>decide (fs y m=0)|none=>false)=true then a else a.take k++m::a.drop k:=(NA lQ m a k (fun j y I U=>h.2 j y I U) aq h.1).trans (by cases a[k]?<;>rfl)
theorem Ym(a:List bn)(k:Nat)(m:bn):p7 k (a.map bn.e)++m.e::List.drop k (a.map bn.e)=(a.take k++m::a.drop k).map bn.e:=by simp
theorem BZ(a:List bn)(k:Nat)(m:bn):du (p7 k (a.map bn.e)++m.e::List.drop k (a.map bn.e))=p7 k (a.map bn.e)++m.e::List.drop k (a.map bn.e):=by rw[Ym,Qh]
theorem BY(S:aM->Prop)(a:List bn)(k:Nat)(m:bn):aP S (p7 k (a.map bn.e)++m.e::List.drop k (a.map bn.e))=True:=by rw[Ym,XA]
theorem Yl(a:List bn)(m:bn):a.map bn.e++[m.e]=(a++[m]).map bn.e:=by simp
theorem BX(a:List bn)(m:bn):du (a.map bn.e++[m.e])=a.map bn.e++[m.e]:=by rw[Yl,Qh]
theorem BW(S:aM->Prop)(a:List bn)(m:bn):aP S (a.map bn.e++[m.e])=True:=by rw[Yl,XA]
theorem abM(l:List bn)(aw:l.length<=68719470000)(t:T)(aC:t.size<=5000)(s:List UInt8)(bk:hG fs l):bR aA 104 [.slice 2 .no (l.map bn.e),t.e,.str s] (iE (hv l t s)):=by
 have jt:=Kl s t;cases cA:t.has s;rotate_left
 ·have bB:hv l t s=none:=by simp[hv,cA]
  rw[bB];rw[cA]at jt;refine br nh Tryz.func104 YZ fun aR=>?_;unfold Lq;simp;(with_reducible repeat' first|refine ak ?_|refine aF jt ?_|refine aG jt ?_|simp);all_goals simp[bz,aY,a6,aX]
  all_goals simp[iE]
 ·rw[cA]at jt;have ec:=agT cA bk;have kH:=CT t [];have hg:=FW t [] d7 (by simp[tP]);have A8:eE []=[]:=rfl;rw[A8]at hg;rw[ec];clear ec cA;generalize iQ t []=bc at hg kH⊢;have lh:bc.length<=5000:=by simp at kH;omega
  generalize fa:qo s bc l=F;refine br nh Tryz.func104 YZ fun aR=>?_;unfold Lq;simp;(with_reducible repeat' first|refine ak ?_|refine aF jt ?_|refine aG jt ?_|refine aF hg ?_|refine aG hg ?_|simp[fh]);refine ep [2,17,18] (fun i (a:List bn)=>[(0,.slice 2 .no (a.map bn.e)),(19,.int .i64 i)]) bc.length (Ey l bc s) l ⟨by simp[fresh,aP,aK,cq,inObs,Pv.look,fh],et gt,eu g8,Ψ⟩ (by simp[Ey,qo]) (fun a ag _=>?_) (fun i a hi ag _=>?_)
  ·rw[Ey,lB,fa]at ag;subst ag;simp[fh];(with_reducible repeat' first|refine ak ?_|simp[fh]);all_goals simp[bz,aY,a6,aX]
   all_goals simp[iE]
  ·obtain⟨v,az⟩:∃v,bc[i]? =some v:=⟨_,cm hi⟩;have rT:∀h,((eE bc)[i]'h)= .int .i64 v:=fun b4=>by have:=Es bc i;rw[az,cm b4]at this;exact eV this
   have sL:hG fs a:=by rw[ag];exact Md s _ bk
   have mS:a.length<=68719475000:=by have:=U9 s (bc.take i) l;rw[ag];simp at this⊢;omega
   have fQ:Ey l bc s (i+1) (kZ fs ⟨v,s⟩ a):=by rw[Ey,List.take_succ,az,ag];simp[qo]
   generalize hm:(⟨v,s⟩:bn)=m at fQ;have ai9:m.v=v:=by rw[<-hm]
   have vO:m.s=s:=by rw[<-hm]
   subst ai9;subst vO;clear ag fa;simp[hi,rT,fh];(with_reducible repeat' first|refine ak ?_|simp[hi,rT,fh]);refine w6 [0,2,10,17,18,19] (fun(k:Nat)=>[(11,.int .i64 k)]) (fun k=>a.length-k) (BG a m) 0 ⟨by simp[fresh,aP,aK,cq,inObs,Pv.look,fh],et gt,eu g8,Ψ⟩ ⟨Ω,fun j y h=>Ω⟩ (fun k ag _=>?_);have ae:=ag.1;by_cases hY:k<a.length
   ·obtain⟨b,ad,cK⟩:=en hY;cases bD:im fs b m
    ·have xk:0<=fs b m:=by simpa[im]using bD
     have ds:=ag.fin (fun y aB=>by rw[ad]at aB;cases aB;exact xk);rw[ad]at ds;cases HN:im fs m b
     ·have hle:0<=fs m b:=by simpa[im]using HN
      have bB:fs b m=0:=by have:=lQ.neg b m;omega
      rw[if_pos (by simp[bB])]at ds;rw[ds]at fQ;clear ag ad ds mS sL;simp[hY,cK];((with_reducible repeat' first|refine ak ?_|refine aF (mK _ _) ?_|refine aG (mK _ _) ?_|simp[hY,cK,bD,HN]|((first|apply bN|apply bP|apply bO)<;>intro h<;>try simp at h))<;>(try exact cf));all_goals exact bS.rng a hi fQ ⟨by simp[fresh,aP,aK,cq,inObs,Pv.look,fh],et gt,eu g8,Ψ⟩
     ·have hle:fs m b<0:=by simpa[im]using HN
      have bB:¬fs b m=0:=by have:=lQ.neg b m;omega
      rw[if_neg (by simp[bB])]at ds;rw[ds]at fQ;clear ag ad ds sL;simp[hY,cK];((with_reducible repeat' first|refine ak ?_|refine aF (mK _ _) ?_|refine aG (mK _ _) ?_|simp[hY,cK,bD,HN]|((first|apply bN|apply bP|apply bO)<;>intro h<;>try simp at h))<;>(try exact cf));all_goals first|(refine⟨by unfold lim;omega,?_⟩)|skip
      all_goals(with_reducible repeat' first|refine ak ?_|simp)
      all_goals first|(refine⟨by unfold lim;omega,?_⟩)|skip
      all_goals((with_reducible repeat' first|refine ak ?_|simp|((first|apply bN|apply bP|apply bO)<;>intro h<;>try simp at h))<;>(try exact cf))
      all_goals exact bS.rng _ hi fQ ⟨by simp[fresh,aP,aK,cq,inObs,Pv.look,fh,hV,BZ,BY,BX,BW],et (by simp[fresh,aP,aK,cq,inObs,Pv.look,fh,hV,BZ,BY,BX,BW]),eu (by simp[fresh,aP,aK,ee,inObs,Pv.look,fh,hV,BZ,BY,BX,BW]),Ψ⟩
    ·have xt:fs b m<0:=by simpa[im]using bD
     have af:=ag.step ad xt;clear ag ad sL fQ;simp[hY,cK];((with_reducible repeat' first|refine ak ?_|refine aF (mK _ _) ?_|refine aG (mK _ _) ?_|simp[hY,cK,bD]|((first|apply bN|apply bP|apply bO)<;>intro h<;>try simp at h))<;>(try exact cf));all_goals exact bS.whl (k+1) Ω af ⟨by simp[fresh,aP,aK,cq,inObs,Pv.look,fh],et gt,eu g8,Ψ⟩
   ·have ds:=ag.fin (fun y aB=>by rw[rq Ω]at aB;cases aB);rw[rq Ω]at ds;simp only[hk,if_false]at ds;rw[ds]at fQ;have iz:k=a.length:=Ω
    clear ag ds sL;subst iz;simp;(with_reducible repeat' first|refine ak ?_|simp);all_goals first|(refine⟨by unfold lim;omega,?_⟩)|skip
    all_goals(with_reducible repeat' first|refine ak ?_|simp)
    all_goals first|(refine⟨by unfold lim;omega,?_⟩)|skip
    all_goals(with_reducible repeat' first|refine ak ?_|simp)
    all_goals exact bS.rng _ hi fQ ⟨by simp[fresh,aP,aK,cq,inObs,Pv.look,fh,hV,BZ,BY,BX,BW],et (by simp[fresh,aP,aK,cq,inObs,Pv.look,fh,hV,BZ,BY,BX,BW]),eu (by simp[fresh,aP,aK,ee,inObs,Pv.look,fh,hV,BZ,BY,BX,BW]),Ψ⟩
theorem QJ{s:List ah}(af:ei s){l:List bn}(aw:ju l){G:List (List UInt8)}(hI:G.length<=687000)(aT:lv G l):bR aA 122 [.slice 5 .no (s.map ah.e),.slice 2 .no (l.map bn.e)] (iE (eS s l [])):=by
 have hlen:∀{a:List bn},ju a->lv G a->a.length<=68719470000:=fun I U=>by have:=EN I U;omega
 have y7:=hlen aw aT;refine br nh Tryz.func122 anD fun aR=>?_;unfold TQ;simp;refine ep [0,11,12] (fun i (a:List bn)=>[(6,.slice 2 .no (a.map bn.e)),(13,.int .i64 i)]) l.length (Xa s G l) [] b0 ⟨⟨Ψ,by simp[hG]⟩,fun x ab=>by simp at ab,rfl⟩ (fun a ag _=>?_) (fun i a hi ag _=>?_)
 ·obtain⟨_,_,ag⟩:=ag;rw[List.drop_length]at ag;simp only[eS]at ag;rw[<-ag];simp;(with_reducible repeat' first|refine ak ?_|simp);simp[bz,aY,a6,aX];simp[iE]
 ·obtain⟨bk,Ej,ag⟩:=ag;obtain⟨b,ad,cK⟩:=en hi;have pG:=aw.at' b (ek ad);have MD:=aT b (ek ad);rw[lA hi,cK]at ag;simp only[eS]at ag;have eL:=Kk s af.len (.var b.v);rw[abY]at eL;have fC:=abM a (hlen bk Ej) (aV s b.v) (FH af b.v) b.s bk.asc;simp[hi,cK];cases ec:hv a (aV s b.v) b.s with
  |none=>rw[ec]at ag fC;simp only at ag;rw[<-ag];simp only[iE]at fC;(with_reducible repeat' first|refine ak ?_|refine aF (kT _) ?_|refine aG (kT _) ?_|refine aF eL ?_|refine aG eL ?_|refine aF fC ?_|refine aG fC ?_|simp[cK,hi]);simp[bz,aY,a6,aX];simp[iE]
  |some bq=>rw[ec]at ag fC;simp only[iE]at fC;(with_reducible repeat' first|refine ak ?_|refine aF (kT _) ?_|refine aG (kT _) ?_|refine aF eL ?_|refine aG eL ?_|refine aF fC ?_|refine aG fC ?_|simp[cK,hi]);exact bS.rng bq hi ⟨Gr bk (z1 af pG.1) pG.2 ec,C5 Ej MD ec,ag⟩ b0
theorem ap1{s:List ah}(ax:k2 s)(bk:gD s)(aO:fT s):gR (s.map ah.b)=s.all (nq s):=by
 rw[qP,fi,se,<-aaL bk];constructor
 ·rintro⟨ai,I,U,ao,a7⟩;rw[rD I];exact ao
 ·intro ao;exact⟨s,rfl,ax,ao,aO⟩
theorem ac9{s:List ah}(bk:gD s)(b:ah):nq s b=true↔(∀v∈iQ b.t [],cO s v=none)/\(b.t.kind==1&&decide (b.v<=b.t.int))=false:=by unfold nq;rw[cv,Va bk];simp only[true_and,oJ,EP,List.not_mem_nil,or_false]
def Ex(s:List ah)(bc:List Int)(i:Nat)(_:Unit):Prop:= ∀v∈bc.take i,cO s v=none
theorem Ex.step{s:List ah}{bc:List Int}{i:Nat}(h:Ex s bc i ()){v:Int}(az:bc[i]? =some v)(au:cO s v=none):Ex s bc (i+1) ():=fun w hw=>by
 rw[List.take_succ,az]at hw;simp only[h3,Option.toList_some,iG]at hw;rcases hw with hw|rfl
 ·exact h w hw
 ·exact au
theorem QL(l:List dS):bR aA 68 [.slice 5 .no (l.map dS.e)] (.bool (gR l)):=by
 have az:=abJ l;by_cases h:wV l;rotate_left
 ·have bB:gR l=false:=by unfold gR;simp only[gJ];rintro⟨s,I,U,ao,a7⟩;exact h (Ai.2 ⟨s,I,U,ao.asc,a7⟩)
  rw[bB];refine br eY Tryz.func68 YW fun aR=>?_;unfold Ln;exact cu
 ·obtain⟨s,rfl,ax,bk,aO⟩:=Ai.1 h;have aw:s.length<=1000000:=by have:=aO.1;omega
  rw[ap1 ax bk aO];rw[uQ]at az⊢;simp only[h,decide_true]at az;clear h;generalize bI:s.all (nq s)=R;refine br eY Tryz.func68 YW fun aR=>?_;unfold Ln;simp;(with_reducible repeat' first|refine ak ?_|refine aF az ?_|refine aG az ?_|simp);refine ep [0,12,13] (fun i (_:Unit)=>[(14,.int .i64 i)]) s.length (lj (nq s) s) () b0 (fun k b ae=>Ω) (fun _ ag _=>?_) (fun i _ hi ag _=>?_)
  ·have:R=true:=by rw[<-bI,fi];intro b ad;obtain⟨k,ae,e⟩:=oL ad;exact ag k b ae (by rw[cm ae,e])
   rw[this];exact cu
  ·obtain⟨b,ad,cK⟩:=en hi;have eg:¬nq s b=true->R=false:=fun h=>by rw[<-bI,Bool.eq_false_iff];intro b4;rw[fi]at b4;exact h (b4 b (ek ad))
   have sR:nq s b=true->lj (nq s) s (i+1) ():=fun h=>ag.step ad h;have vJ:=ac9 bk b;have dY:=aO.2 b (ek ad);have kH:=CT b.t [];have hg:=FW b.t [] d7 (by simp[tP]);have A8:eE []=[]:=rfl;rw[A8]at hg;generalize iQ b.t []=bc at hg kH vJ;have lh:bc.length<=5000:=by simp at kH;omega
   rw[vJ]at eg sR;clear vJ ag kH ad;simp[hi,cK];cases ae:(b.t.kind==1&&decide (b.v<=b.t.int));rotate_left
   ·rw[eg (by rw[ae];simp)];rw[cv]at ae;have gQ:=ae.1;have jo:b.v<=b.t.int:=of_decide_eq_true ae.2;exact cu
   ·rw[ae]at eg sR;simp only[and_true]at eg sR;cases gQ:(b.t.kind==1)
    ·clear ae;(with_reducible repeat' first|refine ak ?_|refine aF hg ?_|refine aG hg ?_|simp[cK,hi,fh,gQ]);refine ep [0,12,13,14,32,33] (fun j (_:Unit)=>[(34,.int .i64 j)]) bc.length (Ex s bc) () ⟨by simp[fresh,aP,aK,cq,inObs,Pv.look,fh],et gt,eu g8,Ψ⟩ (fun v az=>by simp at az) (fun _ ag _=>?_) (fun j _ dX ag _=>?_)
     ·have aT:=sR (fun v az=>ag v (by rwa[lB]));simp[fh];(with_reducible repeat' first|refine ak ?_|simp[fh]);exact bS.rng () hi aT ⟨by simp[fresh,aP,aK,cq,inObs,Pv.look,fh],et gt,eu g8,Ψ⟩
     ·obtain⟨v,az⟩:∃v,bc[j]? =some v:=⟨_,cm dX⟩;have rT:∀h,((eE bc)[j]'h)= .int .i64 v:=fun b4=>by have:=Es bc j;rw[az,cm b4]at this;exact eV this
      have jX:=sk s v aw;cases ij:cO s v with
      |none=>have au:=ag.step az ij;rw[ij]at jX;simp only[jy,je]at jX;clear ag sR eg ij;simp[dX,rT,fh];(with_reducible repeat' first|refine ak ?_|refine aF jX ?_|refine aG jX ?_|simp[dX,rT,fh]);exact bS.rng () dX au ⟨by simp[fresh,aP,aK,cq,inObs,Pv.look,fh],et gt,eu g8,Ψ⟩
      |some x=>rw[eg (fun h=>by have:=h v (ek az);rw[ij]at this;cases this)];rw[ij]at jX;simp only[ib,lZ]at jX;clear ag sR eg ij;simp[dX,rT,fh];(with_reducible repeat' first|refine ak ?_|refine aF jX ?_|refine aG jX ?_|simp[dX,rT,fh]);simp[bz,aY,a6,aX]
    ·have jo:¬b.v<=b.t.int:=by rw[gQ]at ae;simpa using ae
     clear ae;(with_reducible repeat' first|refine ak ?_|refine aF hg ?_|refine aG hg ?_|simp[cK,hi,fh,gQ,jo]);refine ep [0,12,13,14,32,33] (fun j (_:Unit)=>[(34,.int .i64 j)]) bc.length (Ex s bc) () ⟨by simp[fresh,aP,aK,cq,inObs,Pv.look,fh],et gt,eu g8,Ψ⟩ (fun v az=>by simp at az) (fun _ ag _=>?_) (fun j _ dX ag _=>?_)
     ·have aT:=sR (fun v az=>ag v (by rwa[lB]));simp[fh];(with_reducible repeat' first|refine ak ?_|simp[fh]);exact bS.rng () hi aT ⟨by simp[fresh,aP,aK,cq,inObs,Pv.look,fh],et gt,eu g8,Ψ⟩
     ·obtain⟨v,az⟩:∃v,bc[j]? =some v:=⟨_,cm dX⟩;have rT:∀h,((eE bc)[j]'h)= .int .i64 v:=fun b4=>by have:=Es bc j;rw[az,cm b4]at this;exact eV this
      have jX:=sk s v aw;cases ij:cO s v with
      |none=>have au:=ag.step az ij;rw[ij]at jX;simp only[jy,je]at jX;clear ag sR eg ij;simp[dX,rT,fh];(with_reducible repeat' first|refine ak ?_|refine aF jX ?_|refine aG jX ?_|simp[dX,rT,fh]);exact bS.rng () dX au ⟨by simp[fresh,aP,aK,cq,inObs,Pv.look,fh],et gt,eu g8,Ψ⟩
      |some x=>rw[eg (fun h=>by have:=h v (ek az);rw[ij]at this;cases this)];rw[ij]at jX;simp only[ib,lZ]at jX;clear ag sR eg ij;simp[dX,rT,fh];(with_reducible repeat' first|refine ak ?_|refine aF jX ?_|refine aG jX ?_|simp[dX,rT,fh]);simp[bz,aY,a6,aX]
theorem QM{s:List ah}(h:ei s):bR aA 68 [.slice 5 .no (s.map ah.e)] (.bool true):=by have:=QL (s.map ah.b);rw[uQ,se.2 ⟨s,rfl,h.ok,h.sol,h.fits⟩]at this;exact this
def TL:C:=(aa [bp 2 false] (.seq (aa [J 5 0,cH 6 5,cb 7 0] (fm 8 7 6 (.seq (.block 1 (aa [cE 9 1 5 7,ay 10 1 9,J 4 10] (aa [J 11 4,cD 12 68 11,ct 13 12] (a1 13 (aa [bp 2 false] .ret) .skip)))) (.region [aU 14 .add 7 1,J 7 14])))) (aa [bp 2 true] .ret)))
def TT:C:=(aa [bp 4 false] (.seq (aa [J 7 0,cH 8 7,cb 9 0] (fm 10 9 8 (.seq (.block 1 (aa [cE 11 5 7 9,aZ 12 5 11,cP 6 iC,bu 5 6 12] (aa [aJ 13 0 1 6,ay 14 1 13,J 15 1,bC 16 .geq 14 15,J 17 16,av 17 false (hN 18 1 4 6),av 17 false (aZ 19 4 18),b6 17 false 20 1,av 17 false (ch 21 120 19 20),av 17 false (ct 22 21),c8 23 17 22] (a1 23 (aa [bp 4 false] .ret) .skip)))) (.region [aU 24 .add 9 1,J 9 24])))) (aa [bp 4 true] .ret)))
def TK:C:=(aa [eO 4 5] (aa [ea 10 5 54 [],J 5 10] (.seq (aa [J 11 1,cH 12 11,cb 13 0] (fm 14 13 12 (.seq (.block 1 (aa [cE 15 5 11 13,aZ 16 5 15,cP 7 iC,bu 5 7 16] (aa [J 18 0,aJ 19 0 1 7,ay 20 1 19,ch 21 78 18 20,J 17 21,cg 22 0 17,cg 23 1 17,cP 8 dk,bu 4 8 22,J 9 23] (aa [J 24 9,ct 25 24] (a1 25 (.region [J 26 5,aZ 27 5 7,ea 28 5 54 [.t 27],gT 29 5 54 26 28,J 5 29]) .skip))))) (.region [aU 30 .add 13 1,J 13 30])))) (aa [J 31 5,J 4 31] .ret))))
def AL:C:=(aa [c0 2 0,bp 4 false] (.seq (aa [aJ 7 3 1 2,ay 8 1 7,cH 9 8,cb 10 0] (fm 11 10 9 (.seq (.block 1 (aa [cE 12 4 8 10,aZ 13 4 12,cP 6 dk,bu 4 6 13] (aa [aZ 14 4 6,J 15 1,ch 16 120 14 15,ct 17 16] (a1 17 (aa [bp 4 false] .ret) .skip)))) (.region [aU 18 .add 10 1,J 10 18])))) (aa [aJ 19 0 1 2,ay 20 1 19,aU 21 .neq 20 1,J 22 21,av 22 false (aJ 23 1 1 2),av 22 false (ay 24 1 23),b6 22 false 25 1,av 22 false (bC 26 .lss 24 25),c8 27 22 26,J 4 27] .ret)))
def TO:C:=(aa [eO 2 1] (aa [ea 11 1 23 [],J 3 11] (.seq (.seq (.fg false 3 (.region [J 12 0,cH 13 12,cb 14 0])) (fm 15 14 13 (.seq (.block 1 (aa [cE 16 1 12 14,ay 17 1 16,J 5 17] (aa [bp 6 true] (.seq (aa [J 18 0,cH 19 18,cb 20 0] (.block 2 (.loop (aa [bC 21 .lss 20 19] (.seq (a1 21 .skip (.exit 2)) (.seq (.block 3 (aa [cE 22 1 18 20,ay 23 1 22,J 8 23] (.region [J 24 6,J 25 24,b6 25 true 26 8,b6 25 true 27 5,av 25 true (ch 28 125 26 27),av 25 true (aU 29 .eql 28 0),b6 25 true 30 29,b6 30 false 31 8,b6 30 false 32 5,av 30 false (ch 33 157 31 32),av 30 false (ct 34 33),av 25 true (c8 35 30 34),dB 36 25 35,J 6 36]))) (.region [aU 37 .add 20 1,J 20 37]))))))) (aa [J 38 3,cH 39 38,J 9 39] (.seq (.block 4 (.loop (.seq (aa [J 40 9,aU 41 .gtr 40 0,J 42 41,b6 42 true 43 3,b6 42 true 44 9,av 42 true (aU 45 .sub 44 1),av 42 true (cE 46 1 43 45),av 42 true (ay 47 1 46),b6 42 true 48 5,av 42 true (ch 49 125 47 48),av 42 true (aU 50 .geq 49 0),dB 51 42 50] (a1 51 .skip (.exit 4))) (.block 5 (.region [J 52 9,aU 53 .sub 52 1,J 9 53]))))) (aa [J 54 6,J 55 54,b6 55 true 56 9,b6 55 true 57 3,av 55 true (cH 58 57),av 55 true (bC 59 .eql 56 58),b6 55 true 60 59,b6 60 false 61 3,b6 60 false 62 9,av 60 false (cE 63 1 61 62),av 60 false (ay 64 1 63),b6 60 false 65 5,av 60 false (ch 66 125 64 65),av 60 false (aU 67 .neq 66 0),av 55 true (c8 68 60 67),dB 69 55 68] (a1 69 (aa [ea 70 1 23 [],J 71 3,J 72 9,bT 73 (.lsl 1 (.t 71) none (some (.t 72))),gT 74 1 23 70 73,J 10 74] (aa [J 75 10,J 76 5,ea 77 1 23 [.t 76],gT 78 1 23 75 77,J 10 78] (.region [J 79 10,J 80 3,J 81 9,bT 82 (.lsl 1 (.t 80) (some (.t 81)) none),gT 83 1 23 79 82,J 3 83]))) .skip)))))))) (.fg false 3 (.region [aU 84 .add 14 1,J 14 84]))))) (aa [J 85 3,J 2 85] .ret))))
def TM:C:=(aa [cb 4 0] (.seq (aa [cb 5 0] (.block 0 (.loop (.seq (aa [J 7 5,J 8 0,cH 9 8,bC 10 .lss 7 9,J 11 10,b6 11 true 12 5,b6 11 true 13 1,av 11 true (cH 14 13),av 11 true (bC 15 .lss 12 14),dB 16 11 15] (a1 16 .skip (.exit 0))) (.seq (.block 1 (.seq (.seq (.drawn true 67 [J 19 0,J 20 5,cE 21 5 19 20,aJ 22 0 1 21,ay 23 1 22,J 24 1,J 25 5,cE 26 5 24 25,aJ 27 0 1 26,ay 28 1 27,bC 29 .neq 23 28]) (a1 29 (.seq (.drawn true 67 [J 30 0,J 31 5,cE 32 5 30 31,aJ 33 0 1 32,ay 34 1 33,J 35 1,J 36 5,cE 37 5 35 36,aJ 38 0 1 37,ay 39 1 38,bC 40 .lss 34 39,cD 41 158 40,J 4 41]) .ret) .skip)) (.seq (.drawn true 67 [J 42 0,J 43 5,cE 44 5 42 43,hN 45 1 4 44,aZ 46 4 45,J 47 1,J 48 5,cE 49 5 47 48,hN 50 1 4 49,aZ 51 4 50,ch 52 130 46 51,J 6 52]) (aa [J 53 6,aU 54 .neq 53 0] (a1 54 (aa [J 55 6,J 4 55] .ret) .skip))))) (.region [J 17 5,aU 18 .add 17 1,J 5 18])))))) (.seq (aa [J 56 0,cH 57 56,J 58 1,cH 59 58,bC 60 .neq 57 59] (a1 60 (aa [J 61 0,cH 62 61,J 63 1,cH 64 63,bC 65 .lss 62 64,cD 66 158 65,J 4 66] .ret) .skip)) (aa [cb 4 0] .ret))))
def Tl:C:=(aa [bp 4 false] (.seq (aa [J 11 0,cD 12 68 11,ct 13 12,J 14 13,b6 14 false 15 1,av 14 false (cD 16 68 15),av 14 false (ct 17 16),c8 18 14 17] (a1 18 (aa [bp 4 false] .ret) .skip)) (.seq (aa [J 19 0,cH 20 19,cb 21 0] (fm 22 21 20 (.seq (.block 1 (aa [cE 23 5 19 21,aZ 24 5 23,cP 6 iC,bu 5 6 24] (aa [J 26 1,aJ 27 0 1 6,ay 28 1 27,cD 29 84 28,ch 30 79 26 29,J 25 30,cg 31 0 25,cg 32 1 25,cP 7 dk,bu 4 7 31,J 8 32] (aa [J 34 1,hN 35 1 4 6,aZ 36 4 35,ch 37 79 34 36,J 33 37,cg 38 0 33,cg 39 1 33,cP 9 dk,bu 4 9 38,J 10 39] (aa [J 40 8,ct 41 40,J 42 41,b6 42 false 43 10,av 42 false (ct 44 43),c8 45 42 44,J 46 45,av 46 false (aZ 47 4 7),av 46 false (aZ 48 4 9),av 46 false (ch 49 80 47 48),av 46 false (ct 50 49),c8 51 46 50] (a1 51 (aa [bp 4 false] .ret) .skip)))))) (.region [aU 52 .add 21 1,J 21 52])))) (aa [bp 4 true] .ret))))
def yd:List (Nat×dG):=[
 (3,⟨1,8,.int .i64,.int .i64 0⟩),
 (23,⟨1,24,.slice 54,.slice 5 .nil []⟩),
 (24,⟨1,24,.slice 23,.slice 1 .nil []⟩),
 (34,⟨1,24,.slice 36,.slice 4 .nil []⟩),
 (36,⟨4,56,.struct [(0,3),(1,3),(2,9),(3,34)],.agg [.int .i64 0,.int .i64 0,.str [],.slice 4 .nil []]⟩),
 (54,⟨5,64,.struct [(0,3),(1,36)],.agg [.int .i64 0,.int .i64 0,.int .i64 0,.str [],.slice 4 .nil []]⟩)]
theorem tG:fX aA yd=true:=by kernel_rfl
theorem anx:b7 yd TL [.tmp 2] 1 Tryz.f69=true:=by kernel_rfl
theorem anG:b7 yd TT [.tmp 4] 2 Tryz.f72=true:=by kernel_rfl
theorem anw:b7 yd TK [.tmp 4] 2 Tryz.f102=true:=by kernel_rfl
theorem E5:b7 yd AL [.tmp 4] 2 Tryz.f120=true:=by kernel_rfl
theorem anB:b7 yd TO [.tmp 2] 1 Tryz.f124=true:=by kernel_rfl
theorem anz:b7 yd TM [.tmp 4] 2 Tryz.f125=true:=by kernel_rfl
theorem am6:b7 yd Tl [.tmp 4] 2 Tryz.f157=true:=by kernel_rfl
def TA:C:=(aa [c0 2 0,c0 3 1,bp 4 false] (aa [aZ 5 4 2,aZ 6 4 3,ch 7 130 5 6,aU 8 .eql 7 0,J 4 8] .ret))
def Di:C:=(aa [c0 2 0,c0 3 1,cb 4 0] (.seq (aa [aJ 7 0 1 2,ay 8 1 7,aJ 9 0 1 3,ay 10 1 9,bC 11 .neq 8 10] (a1 11 (aa [aJ 12 0 1 2,ay 13 1 12,aJ 14 0 1 3,ay 15 1 14,bC 16 .lss 13 15,cD 17 158 16,J 4 17] .ret) .skip)) (.seq (aa [aJ 18 1 1 2,ay 19 1 18,aJ 20 1 1 3,ay 21 1 20,bC 22 .neq 19 21] (a1 22 (aa [aJ 23 1 1 2,ay 24 1 23,aJ 25 1 1 3,ay 26 1 25,bC 27 .lss 24 26,cD 28 158 27,J 4 28] .ret) .skip)) (.seq (aa [aJ 29 2 1 2,ay 30 1 29,aJ 31 2 1 3,ay 32 1 31,bC 33 .neq 30 32] (a1 33 (aa [aJ 34 2 1 2,ay 35 1 34,aJ 36 2 1 3,ay 37 1 36,bC 38 .lss 35 37,cD 39 158 38,J 4 39] .ret) .skip)) (.seq (aa [cb 5 0] (.block 0 (.loop (.seq (aa [J 40 5,aJ 41 3 1 2,ay 42 1 41,cH 43 42,bC 44 .lss 40 43,J 45 44,b6 45 true 46 5,av 45 true (aJ 47 3 1 3),av 45 true (ay 48 1 47),av 45 true (cH 49 48),av 45 true (bC 50 .lss 46 49),dB 51 45 50] (a1 51 .skip (.exit 0))) (.seq (.block 1 (.seq (.drawn true 68 [aJ 54 3 1 2,ay 55 1 54,J 56 5,cE 57 4 55 56,aZ 58 4 57,aJ 59 3 1 3,ay 60 1 59,J 61 5,cE 62 4 60 61,aZ 63 4 62,ch 64 130 58 63,J 6 64]) (aa [J 65 6,aU 66 .neq 65 0] (a1 66 (aa [J 67 6,J 4 67] .ret) .skip)))) (.region [J 52 5,aU 53 .add 52 1,J 5 53])))))) (aa [cb 4 0] .ret))))))
def TB:C:=(aa [cb 2 0] (.seq (aa [J 3 0] (a1 3 (aa [cb 2 (-1)] .ret) .skip)) (aa [cb 2 1] .ret)))
def J9:List (Nat×dG):=[
 (3,⟨1,8,.int .i64,.int .i64 0⟩),
 (4,⟨1,1,.bool,.bool false⟩),
 (9,⟨1,16,.str,.str []⟩),
 (34,⟨1,24,.slice 36,.slice 4 .nil []⟩),
 (36,⟨4,56,.struct [(0,3),(1,3),(2,9),(3,34)],.agg [.int .i64 0,.int .i64 0,.str [],.slice 4 .nil []]⟩)]
theorem CH:fX aA J9=true:=by kernel_rfl
theorem anm:b7 J9 TA [.tmp 4] 2 Tryz.f80=true:=by kernel_rfl
theorem I6:b7 J9 Di [.tmp 4] 2 Tryz.f130=true:=by kernel_rfl
theorem ann:b7 J9 TB [.tmp 2] 1 Tryz.f158=true:=by kernel_rfl
theorem acA{t u:T}(I:t.kind=u.kind)(U:t.int=u.int)(ao:t.name=u.name)(a7:t.args=u.args):t=u:=by cases t<;>cases u<;>simp_all
theorem sj(b:Bool):bR aA 158 [.bool b] (.int .i64 (if b then-1 else 1)):=by
 refine br CH Tryz.func158 ann fun aR=>?_;unfold TB;simp;((with_reducible repeat' first|refine ak ?_|simp|((first|apply bN|apply bP|apply bO)<;>intro h<;>try simp at h))<;>(try exact cf));all_goals simp[bz,aY,a6,aX]
 all_goals simp_all
theorem anM{a b:T}(bk:a.args=[]\/b.args=[])(I:a.kind=b.kind)(U:a.int=b.int):eM a b=lr a.name b.name:=by cases a<;>cases b<;>simp_all[eM]
def Ew(a b:T)(i:Nat)(_:Unit):Prop:=a.args.take i=b.args.take i
theorem abC(a:T)(bK:∀x∈a.args,∀b:T,bR aA 130 [x.e,b.e] (.int .i64 (eM x b)))(b:T):bR aA 130 [a.e,b.e] (.int .i64 (eM a b)):=by
 have hle:a.args.length<=2:=by cases a<;>simp
 by_cases ae:a.kind=b.kind
 ·by_cases hi:a.int=b.int
  ·by_cases au:a.name=b.name
   ·have hlen:a.args.length=b.args.length:=by cases a<;>cases b<;>simp at ae⊢
    refine br CH Tryz.func130 I6 fun aR=>?_;unfold Di;simp[ae,hi,au];refine ep [2,3] (fun i (_:Unit)=>[(5,.int .i64 i)]) a.args.length (Ew a b) () b0 (by simp[Ew]) (fun _ ag _=>?_) (fun i _ bD ag _=>?_)
    ·simp;(with_reducible repeat' first|refine ak ?_|simp);simp[bz,aY,a6,aX];unfold Ew at ag;rw[hV Ω,hV Ω]at ag;exact((r5 a b).2 (acA ae hi au ag)).symm
    ·have rQ:i<b.args.length:=Ω
     obtain⟨x,ab⟩:∃x,x=a.args[i]:=⟨_,rfl⟩;obtain⟨y,aB⟩:∃y,y=b.args[i]:=⟨_,rfl⟩;have qv:=bK x (by rw[ab];exact List.getElem_mem bD) y;simp[bD,rQ,<-ab,<-aB];(with_reducible repeat' first|((first|apply bN|apply bP|apply bO)<;>intro h<;>try simp at h)|refine ak ?_|refine aF qv ?_|refine aG qv ?_|simp)
     ·simp[bz,aY,a6,aX];unfold Ew at ag;cases a with
      |pair bF a2=>
       cases b with
       |pair b1 b2=>
        simp at bD ag ab aB;rcases(by omega:i=0\/i=1)with rfl|rfl
        ·simp at ab aB;subst ab aB;simp[eM,h]
        ·simp at ag ab aB;subst ab aB ag;simp[eM,(r5 bF bF).2 rfl]
       |_=>simp at ae
      |_=>simp at bD
     ·refine bS.rng () bD ?_ b0;unfold Ew at ag⊢;rw[List.take_succ,List.take_succ,ag,cm bD,cm rQ,<-ab,<-aB,(r5 x y).1 h]
   ·refine br CH Tryz.func130 I6 fun aR=>?_;unfold Di;simp[ae,hi,au];((with_reducible repeat' first|refine ak ?_|refine aF (sj _) ?_|refine aG (sj _) ?_|simp|((first|apply bN|apply bP|apply bO)<;>intro h<;>try simp at h))<;>(try exact cf));simp[bz,aY,a6,aX];have:a.args=[]\/b.args=[]:=by cases a<;>cases b<;>simp at ae au⊢
    rw[anM this ae hi,lr,if_neg au]
  ·refine br CH Tryz.func130 I6 fun aR=>?_;unfold Di;simp[ae,hi];((with_reducible repeat' first|refine ak ?_|refine aF (sj _) ?_|refine aG (sj _) ?_|simp|((first|apply bN|apply bP|apply bO)<;>intro h<;>try simp at h))<;>(try exact cf));simp[bz,aY,a6,aX];cases a<;>cases b<;>simp at ae hi
   ·rw[Y5];simp[eN];split<;>(try split)<;>omega
   ·rw[Y4];simp[eN];split<;>(try split)<;>omega
 ·refine br CH Tryz.func130 I6 fun aR=>?_;unfold Di;simp[ae];((with_reducible repeat' first|refine ak ?_|refine aF (sj _) ?_|refine aG (sj _) ?_|simp|((first|apply bN|apply bP|apply bO)<;>intro h<;>try simp at h))<;>(try exact cf));simp[bz,aY,a6,aX];rw[tq ae];simp[eN];split<;>(try split)<;>omega
theorem Kh(a:T):∀b:T,bR aA 130 [a.e,b.e] (.int .i64 (eM a b)):=by
 induction a with
 |pair x y qv ta=>
  refine abC _ fun z a8=>?_;simp at a8;rcases a8 with rfl|rfl
  ·exact qv
  ·exact ta
 |_=>exact abC _ fun x ab=>by simp at ab
theorem Kj(a b:T):bR aA 80 [a.e,b.e] (.bool (decide (a=b))):=by refine br CH Tryz.func80 anm fun aR=>?_;unfold TA;simp;(with_reducible repeat' first|refine ak ?_|refine aF (Kh _ _) ?_|refine aG (Kh _ _) ?_|simp);simp[bz,aY,a6,aX];have:=r5 a b;by_cases h:eM a b=0<;>simp_all
theorem aqP{s t:List ah}(af:ei s)(aC:ei t):bR aA 102 [.slice 5 .no (s.map ah.e),.slice 5 .no (t.map ah.e)] (.slice 5 .no ((dx s t).map ah.e)):=by
 have ajF:=aC.len;generalize bI:dx s t=R;refine br tG Tryz.func102 anw fun aR=>?_;unfold TK;simp;refine hH (α:=List ah) (fun i out=>⟨[(0,.slice 5 .no (s.map ah.e)),(11,.slice 5 .no (t.map ah.e)),(12,.int .i64 t.length),(5,.slice 5 (.own (.loc 0)) (out.map ah.e)),(13,.int .i64 i)],[],[(.loc 0,⟨out.length,54,5,none⟩)],1,[]⟩) t.length (rV s t) [] b0 (by simp[rV,dx]) (fun out ag _=>?_) (fun i out hi ag _=>?_)
 ·rw[rV,hV (eo _),bI]at ag;rw[<-ag];exact cu
 ·obtain⟨b,az,gw⟩:=en hi;have Bn:out.length<=1000000:=by
   have:out.length<=(t.take i).length:=by rw[ag];exact List.length_filter_le _ _
   simp at this;omega
  have jX:=sk s b.v af.len;cases ad:cO s b.v with
  |none=>
   have au:rV s t (i+1) (out++[b]):=by rw[rV,lT az,dx,List.filter_append,ag];simp[dx,ad]
   rw[ad]at jX;simp only[jy,je]at jX;clear ag az ad;simp[hi,gw];(with_reducible repeat' first|refine ak ?_|refine aF jX ?_|refine aG jX ?_|simp[gw,hi]);all_goals first|(refine⟨by unfold lim;omega,?_⟩)|skip
   (with_reducible repeat' first|refine ak ?_|simp);refine bS.rng (out++[b]) hi au ?_;simp;exact⟨by simp[fresh,aP,aK,cq,inObs,Pv.look,jY],et (by simp[fresh,aP,aK,cq,inObs,Pv.look,jY]),eu (by simp[fresh,aP,aK,ee,inObs,Pv.look,jY]),Ψ⟩
  |some x=>
   have au:rV s t (i+1) out:=by rw[rV,lT az,dx,List.filter_append,ag];simp[dx,ad]
   rw[ad]at jX;simp only[ib,lZ]at jX;clear ag az ad;simp[hi,gw];(with_reducible repeat' first|refine ak ?_|refine aF jX ?_|refine aG jX ?_|simp[gw,hi]);refine bS.rng out hi au ?_;exact b0
theorem aqy{s t:List ah}(af:ei s)(aC:ei t):bR aA 157 [.slice 5 .no (s.map ah.e),.slice 5 .no (t.map ah.e)] (.bool (kN s t)):=by
 have q4:=af.len;generalize bI:kN s t=R;have c5:=QM af;have dz:=QM aC;refine br tG Tryz.func157 am6 fun aR=>?_;unfold Tl;simp;(with_reducible repeat' first|refine ak ?_|refine aF c5 ?_|refine aG c5 ?_|refine aF dz ?_|refine aG dz ?_|simp);refine ep [1,19,20] (fun i (_:Unit)=>[(21,.int .i64 i)]) s.length (lj (r1 t) s) () b0 (fun k b ae=>Ω) (fun _ ag _=>?_) (fun i _ hi ag _=>?_)
 ·have:R=true:=by rw[<-bI,kN,fi];intro b ad;obtain⟨k,ae,e⟩:=oL ad;exact ag k b ae (by rw[cm ae,e])
  rw[this];exact cu
 ·obtain⟨b,az,gw⟩:=en hi;have eg:r1 t b=false->R=false:=fun h=>by rw[<-bI,Bool.eq_false_iff];intro b4;rw[kN,fi]at b4;rw[b4 b (ek az)]at h;cases h
  have aS:=Ah t aC.len (.var b.v);have bh:=Ah t aC.len b.t;have zj:=FH aC b.v;have Ih:((T.var b.v).ap (aV t)).size<=5000:=zj;rw[hd Ih]at aS;rw[show(T.var b.v).ap (aV t)=aV t b.v from rfl]at aS;by_cases a8:(b.t.ap (aV t)).size<=5000
  ·rw[hd a8]at bh;by_cases he:aV t b.v=b.t.ap (aV t)
   ·have au:=ag.step az (by simp[r1,he]);have fp:=Kj (aV t b.v) (b.t.ap (aV t));rw[hd he]at fp;clear ag az;simp[hi,gw];(with_reducible repeat' first|refine ak ?_|refine aF (kT _) ?_|refine aG (kT _) ?_|refine aF aS ?_|refine aG aS ?_|refine aF bh ?_|refine aG bh ?_|refine aF fp ?_|refine aG fp ?_|simp[gw,hi]);exact bS.rng () hi au b0
   ·rw[eg (by simp[r1,he])];have fp:=Kj (aV t b.v) (b.t.ap (aV t));rw[jf he]at fp;clear ag az;simp[hi,gw];(with_reducible repeat' first|refine ak ?_|refine aF (kT _) ?_|refine aG (kT _) ?_|refine aF aS ?_|refine aG aS ?_|refine aF bh ?_|refine aG bh ?_|refine aF fp ?_|refine aG fp ?_|simp[gw,hi]);simp[bz,aY,a6,aX]
  ·rw[jf a8]at bh;rw[eg (by simp only[r1,gJ];intro e;rw[<-e]at a8;exact a8 zj)];clear ag az;simp[hi,gw];(with_reducible repeat' first|refine ak ?_|refine aF (kT _) ?_|refine aG (kT _) ?_|refine aF aS ?_|refine aG aS ?_|refine aF bh ?_|refine aG bh ?_|simp[gw,hi]);simp[bz,aY,a6,aX]
theorem QG(d e:List ah):bR aA 125 [.slice 5 .no (d.map ah.e),.slice 5 .no (e.map ah.e)] (.int .i64 (eG d e)):=by
 generalize bI:eG d e=R;refine br tG Tryz.func125 anz fun aR=>?_;unfold TM;have aD:d.length<=68719476736:=by simp[gO,gj,gE,lim]at aR;omega
 have he:e.length<=68719476736:=by simp[gO,gj,gE,lim]at aR;omega
 simp;refine w6 [0,1] (fun(i:Nat)=>[(5,.int .i64 i)]) (fun i=>d.length-i) (NG d e) 0 b0 ⟨Ω,Ω,Ψ⟩ (fun i ag _=>?_);obtain⟨I,U,ao⟩:=ag;rw[bI]at ao;by_cases hi:i<d.length
 ·by_cases h9:i<e.length
  ·obtain⟨x,ab⟩:∃x,d[i]? =some x:=⟨_,cm hi⟩;obtain⟨y,aB⟩:∃y,e[i]? =some y:=⟨_,cm h9⟩;have c1:∀h,(d[i]'h)=x:=fun h=>by rw[cm hi]at ab;exact eV ab
   have eR:∀h,(e[i]'h)=y:=fun h=>by rw[cm h9]at aB;exact eV aB
   have Bd:d.drop i=x::d.drop (i+1):=by rw[lA hi,c1]
   have Be:e.drop i=y::e.drop (i+1):=by rw[lA h9,eR]
   rw[Bd,Be]at ao;rw[Y2]at ao;by_cases aW:x.v=y.v
   ·have pW:eN x.v y.v=0:=(k3.zero _ _).2 aW;have uW:(x.v !=y.v)=false:=by simp[aW]
    rw[if_pos pW]at ao;by_cases bj:eM x.t y.t=0
    ·rw[if_pos bj]at ao;have au:NG d e (i+1):=⟨Ω,Ω,by rw[bI];exact ao⟩;have jt:=Kh x.t y.t;rw[bj]at jt;clear Bd Be ab aB ao pW;simp[hi,h9,c1,eR];((with_reducible repeat' first|refine ak ?_|refine aF jt ?_|refine aG jt ?_|simp[c1,eR,hi,h9,aW,uW]|((first|apply bN|apply bP|apply bO)<;>intro h<;>try simp at h))<;>(try exact cf));all_goals exact bS.whl (i+1) Ω au b0
    ·rw[if_neg bj]at ao;have jt:=Kh x.t y.t;have zK:(eM x.t y.t !=0)=true:=by simp[bj]
     clear Bd Be ab aB pW;simp[hi,h9,c1,eR];(with_reducible repeat' first|refine ak ?_|refine aF jt ?_|refine aG jt ?_|simp[c1,eR,hi,h9,aW,uW,bj,zK]);all_goals simp[bz,aY,a6,aX]
     all_goals exact ao
   ·have pW:¬eN x.v y.v=0:=fun h=>aW ((k3.zero _ _).1 h);have uW:(x.v !=y.v)=true:=by simp[aW]
    rw[if_neg pW]at ao;have c9:R=if decide (x.v<y.v)=true then-1 else 1:=by rw[<-ao];unfold eN;simp only[eA];(repeat' split)<;>omega
    clear Bd Be ab aB ao pW;rw[c9];simp[hi,h9,c1,eR];(with_reducible repeat' first|refine ak ?_|refine aF (sj _) ?_|refine aG (sj _) ?_|simp[c1,eR,hi,h9,aW,uW]);all_goals simp[bz,aY,a6,aX]
  ·have hle:e.length<d.length:=Ω
   have:(1:Int)=R:=by rw[<-ao,eG,EH _ _ _ (.inr (List.drop_eq_nil_of_le Ω))];simp only[tN];unfold eN;(repeat' split)<;>omega
   have cG:¬(d.length:Int)=e.length:=Ω
   have M2:((d.length:Int) !=e.length)=true:=by simp;omega
   have kt:¬(d.length:Int)<e.length:=Ω
   have D9:¬d.length<e.length:=Ω
   have ajd:¬d.length=e.length:=Ω
   clear ao;rw[<-this];simp[hi,h9];(with_reducible repeat' first|refine ak ?_|refine aF (sj _) ?_|refine aG (sj _) ?_|simp[hi,h9,cG,M2,kt,D9,ajd]);all_goals simp[bz,aY,a6,aX]
   all_goals(try simp[D9])
 ·have ff:i=d.length:=Ω
  by_cases aw:d.length=e.length
  ·have:(0:Int)=R:=by rw[<-ao,eG,EH _ _ _ (.inl (List.drop_eq_nil_of_le Ω))];simp only[tN];unfold eN;(repeat' split)<;>omega
   clear ao;rw[<-this];exact cu
  ·have:(-1:Int)=R:=by rw[<-ao,eG,EH _ _ _ (.inl (List.drop_eq_nil_of_le Ω))];simp only[tN];unfold eN;(repeat' split)<;>omega
   have cG:¬(d.length:Int)=e.length:=Ω
   have M2:((d.length:Int) !=e.length)=true:=by simp;omega
   have kt:(d.length:Int)<e.length:=Ω
   have D9:d.length<e.length:=Ω
   clear ao;rw[<-this];simp[hi];(with_reducible repeat' first|refine ak ?_|refine aF (sj _) ?_|refine aG (sj _) ?_|simp[hi,cG,M2,kt,D9,aw]);all_goals simp[bz,aY,a6,aX]
   all_goals(try simp[D9])
def akw(n:Int)(a b:T)(i:Nat)(_:Unit):Prop:=(1<=i->dy n a=true)/\(2<=i->dy n b=true)
theorem QK(n:Int):∀t:T,bR aA 120 [t.e,.int .i64 n] (.bool (dy n t))
 | .pair a b=>by
  have dQ:=QK n a;have dR:=QK n b;refine br tG Tryz.func120 E5 fun aR=>?_;unfold AL;simp;refine ep [1,2,8,9] (fun i (_:Unit)=>[(10,.int .i64 i)]) 2 (akw n a b) () b0 ⟨fun h=>Ω,fun h=>Ω⟩ (fun _ ag _=>?_) (fun i _ hi ag _=>?_)
  ·simp;(with_reducible repeat' first|refine ak ?_|simp);simp[bz,aY,a6,aX];simp[dy,ag.1,ag.2]
  ·rcases(by omega:i=0\/i=1)with rfl|rfl
   ·cases bk:dy n a
    ·rw[bk]at dQ;simp;(with_reducible repeat' first|refine ak ?_|refine aF dQ ?_|refine aG dQ ?_|simp);simp[bz,aY,a6,aX];simp[dy,bk]
    ·rw[bk]at dQ;simp;((with_reducible repeat' first|refine ak ?_|refine aF dQ ?_|refine aG dQ ?_|simp|((first|apply bN|apply bP|apply bO)<;>intro h<;>try simp at h))<;>(try exact cf));exact bS.rng () hi ⟨fun _=>bk,fun h=>Ω⟩ b0
   ·cases ad:dy n b
    ·rw[ad]at dR;simp;((with_reducible repeat' first|refine ak ?_|refine aF dR ?_|refine aG dR ?_|simp|((first|apply bN|apply bP|apply bO)<;>intro h<;>try simp at h))<;>(try exact cf));simp[bz,aY,a6,aX];simp[dy,ad]
    ·rw[ad]at dR;simp;((with_reducible repeat' first|refine ak ?_|refine aF dR ?_|refine aG dR ?_|simp|((first|apply bN|apply bP|apply bO)<;>intro h<;>try simp at h))<;>(try exact cf));exact bS.rng () hi ⟨fun _=>ag.1 Ω,fun _=>ad⟩ b0
 | .sym v=>by
  refine br tG Tryz.func120 E5 fun aR=>?_;unfold AL;simp;refine ep [1,2,8,9] (fun i (_:Unit)=>[(10,.int .i64 i)]) 0 (fun i _=>True) () b0 trivial (fun _ ag _=>?_) (fun i _ hi ag _=>Ω);simp;((with_reducible repeat' first|refine ak ?_|simp|((first|apply bN|apply bP|apply bO)<;>intro h<;>try simp at h))<;>(try exact cf));all_goals simp[bz,aY,a6,aX]
  all_goals simp[dy]
 | .num v=>by
  refine br tG Tryz.func120 E5 fun aR=>?_;unfold AL;simp;refine ep [1,2,8,9] (fun i (_:Unit)=>[(10,.int .i64 i)]) 0 (fun i _=>True) () b0 trivial (fun _ ag _=>?_) (fun i _ hi ag _=>Ω);simp;(with_reducible repeat' first|refine ak ?_|simp);all_goals simp[bz,aY,a6,aX]
  all_goals simp[dy]
 | .var v=>by
  refine br tG Tryz.func120 E5 fun aR=>?_;unfold AL;simp;refine ep [1,2,8,9] (fun i (_:Unit)=>[(10,.int .i64 i)]) 0 (fun i _=>True) () b0 trivial (fun _ ag _=>?_) (fun i _ hi ag _=>Ω);simp;(with_reducible repeat' first|refine ak ?_|simp);all_goals simp[bz,aY,a6,aX]
  all_goals simp[dy]
 | .nil=>by
  refine br tG Tryz.func120 E5 fun aR=>?_;unfold AL;simp;refine ep [1,2,8,9] (fun i (_:Unit)=>[(10,.int .i64 i)]) 0 (fun i _=>True) () b0 trivial (fun _ ag _=>?_) (fun i _ hi ag _=>Ω);simp;(with_reducible repeat' first|refine ak ?_|simp);all_goals simp[bz,aY,a6,aX]
  all_goals simp[dy]
theorem abN(s:List ah)(n:Int):bR aA 72 [.slice 5 .no (s.map ah.e),.int .i64 n] (.bool (s.all (lF n))):=by
 generalize bI:s.all (lF n)=R;refine br tG Tryz.func72 anG fun aR=>?_;unfold TT;have ik:s.length<=68719476736:=by simp[gO,gj,gE,lim]at aR;omega
 simp;refine ep [1,7,8] (fun i (_:Unit)=>[(9,.int .i64 i)]) s.length (lj (lF n) s) () b0 (fun k b ae=>Ω) (fun _ ag _=>?_) (fun i _ hi ag _=>?_)
 ·have:R=true:=by rw[<-bI,fi];intro b ad;obtain⟨k,ae,e⟩:=oL ad;exact ag k b ae (by rw[cm ae,e])
  rw[this];exact cu
 ·obtain⟨b,az,gw⟩:=en hi;have eg:lF n b=false->R=false:=fun h=>by rw[<-bI,Bool.eq_false_iff];intro b4;rw[fi]at b4;rw[b4 b (ek az)]at h;cases h
  have js:=QK n b.t;by_cases I:b.v<n
  ·have oV:¬n<=b.v:=Ω
   cases U:dy n b.t
   ·rw[eg (by simp[lF,U])];rw[U]at js;clear ag az;exact cu
   ·have au:=ag.step az (by simp[lF,I,U]);rw[U]at js;clear ag az;exact hj
  ·have oV:n<=b.v:=Ω
   rw[eg (by simp[lF,I])];clear ag az;exact cu
theorem aqR(l:List (List dS)):bR aA 69 [.slice 1 .no (l.map mo)] (.bool (l.all gR)):=by
 generalize bI:l.all gR=R;refine br tG Tryz.func69 anx fun aR=>?_;unfold TL;have ik:l.length<=68719476736:=by simp[gO,gj,gE,lim]at aR;omega
 simp;refine ep [5,6] (fun i (_:Unit)=>[(7,.int .i64 i)]) l.length (lj gR l) () b0 (fun k b ae=>Ω) (fun _ ag _=>?_) (fun i _ hi ag _=>?_)
 ·have:R=true:=by rw[<-bI,fi];intro b ad;obtain⟨k,ae,e⟩:=oL ad;exact ag k b ae (by rw[cm ae,e])
  rw[this];exact cu
 ·obtain⟨b,az,gw⟩:=en hi;have c5:bR aA 68 [mo b] (.bool (gR b)):=QL b;cases ad:gR b
  ·have:R=false:=by rw[<-bI,Bool.eq_false_iff];intro b4;rw[fi]at b4;rw[b4 b (ek az)]at ad;cases ad
   rw[this];rw[ad]at c5;clear ag az;exact cu
  ·have au:=ag.step az ad;rw[ad]at c5;clear ag az;exact hj
theorem Ue(a:List (List ah))(k:Nat)(m:List ah):p7 k (a.map cF)++cF m::List.drop k (a.map cF)=(a.take k++m::a.drop k).map cF:=by simp
theorem rI(a:List (List ah))(k:Nat)(m:List ah):du (p7 k (a.map cF)++cF m::List.drop k (a.map cF))=p7 k (a.map cF)++cF m::List.drop k (a.map cF):=by rw[Ue,Qi]
theorem rH(S:aM->Prop)(a:List (List ah))(k:Nat)(m:List ah):aP S (p7 k (a.map cF)++cF m::List.drop k (a.map cF))=True:=by rw[Ue,XB]
theorem G5(a:List (List ah))(m:List ah):a.map cF++[cF m]=(a++[m]).map cF:=by simp
theorem qi(a:List (List ah))(m:List ah):du (a.map cF++[cF m])=a.map cF++[cF m]:=by rw[G5,Qi]
theorem rG(S:aM->Prop)(a:List (List ah))(m:List ah):aP S (a.map cF++[cF m])=True:=by rw[G5,XB]
theorem abL(L:List (List ah))(e1:∀d∈L,ei d):bR aA 124 [.slice 1 .no (L.map cF)] (.slice 1 .no ((iN L).map cF)):=by
 generalize bI:iN L=R;rw[alu]at bI;refine br tG Tryz.func124 anB fun aR=>?_;unfold TO;have ik:L.length<=68719476736:=by simp[gO,gj,gE,lim]at aR;omega
 simp;refine ep [0,12,13] (fun i (a:List (List ah))=>[(3,.slice 1 .no (a.map cF)),(14,.int .i64 i)]) L.length (zn L) [] b0 (by simp[zn]) (fun a ag _=>?_) (fun i a hi ag _=>?_)
 ·rw[zn,lB,bI]at ag;subst ag;exact cu
 ·obtain⟨e,he,MK⟩:=en hi;have sL:hG eG a:=by rw[ag];exact Ox _ (by simp[hG])
  have mS:a.length<=i:=by have:=Yi (L:=L) (L.take i) [];rw[ag];simp at this⊢;omega
  have fQ:=ag.step he;have kY:=e1 e (ek he);have bh:∀d,bR aA 125 [cF d,cF e] (.int .i64 (eG d e)):=fun d=>QG d e;clear ag he;simp[hi,MK];(with_reducible repeat' first|refine ak ?_|simp[hi,MK]);refine ep [0,3,5,12,13,14,18,19] (fun j (b:Bool)=>[(6,.bool b),(20,.int .i64 j)]) L.length (q7 L e) true b0 (by simp[q7]) (fun keep ag _=>?_) (fun j keep dX ag _=>?_)
  ·rw[q7,lB]at ag;have Wg:keep=ja L e:=ag;rw[rh,<-Wg]at fQ;clear ag Wg;simp;(with_reducible repeat' first|refine ak ?_|simp);refine w6 [0,3,5,6,12,13,14] (fun(k:Nat)=>[(9,.int .i64 k)]) (fun k=>k) (Is a e) a.length b0 ⟨Ω,fun c h=>by simp at h⟩ (fun k ag _=>?_);have ae:=ag.1;rcases Nat.eq_zero_or_pos k with bB|fW
   ·have a8:decide ((0:Int)<k)=false:=by simp;omega
    have o4:¬(0:Int)<k:=Ω
    have ds:=ag.fin sL fun d h=>Ω
    clear ag sL;cases keep with
    |false=>simp only[hk,if_false]at fQ;clear ds;exact hj
    |true=>
     simp only[if_true]at fQ;by_cases hY:k<a.length
     ·obtain⟨c,aq,jF⟩:=en hY;rw[aq]at ds;by_cases q:eG c e=0
      ·rw[if_pos (by simp[q])]at ds;rw[ds]at fQ;clear ds aq;simp[hY,jF,a8,o4];((with_reducible repeat' first|refine ak ?_|refine aF (bh _) ?_|refine aG (bh _) ?_|simp[hY,jF,q,a8,o4]|((first|apply bN|apply bP|apply bO)<;>intro h<;>try simp at h))<;>(try exact cf));all_goals exact bS.rng a hi fQ b0
      ·rw[if_neg (by simp[q])]at ds;have gq:(eG c e !=0)=true:=by simp[q]
       rw[ds]at fQ;clear ds aq;simp[hY,jF,a8,o4];((with_reducible repeat' first|refine ak ?_|refine aF (bh _) ?_|refine aG (bh _) ?_|simp[hY,jF,q,gq,a8,o4]|((first|apply bN|apply bP|apply bO)<;>intro h<;>try simp at h))<;>(try exact cf));all_goals first|(refine⟨by unfold lim;omega,?_⟩)|skip
       all_goals(with_reducible repeat' first|refine ak ?_|simp)
       all_goals first|(refine⟨by unfold lim;omega,?_⟩)|skip
       all_goals((with_reducible repeat' first|refine ak ?_|simp|((first|apply bN|apply bP|apply bO)<;>intro h<;>try simp at h))<;>(try exact cf))
       all_goals exact bS.rng _ hi fQ ⟨by simp[fresh,aP,aK,cq,inObs,Pv.look,hV,rI,rH,qi,rG],et (by simp[fresh,aP,aK,cq,inObs,Pv.look,hV,rI,rH,qi,rG]),eu (by simp[fresh,aP,aK,ee,inObs,Pv.look,hV,rI,rH,qi,rG]),Ψ⟩
     ·rw[rq Ω]at ds;simp only[hk,if_false]at ds;rw[ds]at fQ;have iz:k=a.length:=Ω
      have q0:a.take k++e::a.drop k=a++[e]:=by rw[iz];simp
      rw[q0]at fQ;clear ds q0;simp[hY,a8,o4];((with_reducible repeat' first|refine ak ?_|refine aF (bh _) ?_|refine aG (bh _) ?_|simp[hY,iz,a8,o4]|((first|apply bN|apply bP|apply bO)<;>intro h<;>try simp at h))<;>(try exact cf));all_goals first|(refine⟨by unfold lim;omega,?_⟩)|skip
      all_goals(with_reducible repeat' first|refine ak ?_|simp)
      all_goals first|(refine⟨by unfold lim;omega,?_⟩)|skip
      all_goals((with_reducible repeat' first|refine ak ?_|simp|((first|apply bN|apply bP|apply bO)<;>intro h<;>try simp at h))<;>(try exact cf))
      all_goals exact bS.rng _ hi fQ ⟨by simp[fresh,aP,aK,cq,inObs,Pv.look,hV,rI,rH,qi,rG],et (by simp[fresh,aP,aK,cq,inObs,Pv.look,hV,rI,rH,qi,rG]),eu (by simp[fresh,aP,aK,ee,inObs,Pv.look,hV,rI,rH,qi,rG]),Ψ⟩
   ·obtain⟨d,aD⟩:∃d,a[k-1]? =some d:=⟨_,cm Ω⟩;have ar:((k:Int)-1).toNat=k-1:=Ω
    have aE:∀h,(a[k-1]'h)=d:=fun h=>by rw[cm h]at aD;exact eV aD
    have jI:(0:Int)<k:=Ω
    have mX:k-1<a.length:=Ω
    by_cases ad:0<=eG d e
    ·have af:Is a e (k-1):=⟨Ω,fun c aq=>by rw[aD]at aq;cases aq;exact ad⟩;clear ag sL fQ aD;simp[fW,jI,ar,aE,ad,mX];((with_reducible repeat' first|refine ak ?_|refine aF (bh _) ?_|refine aG (bh _) ?_|simp[fW,jI,ar,aE,ad,mX]|((first|apply bN|apply bP|apply bO)<;>intro h<;>try simp at h))<;>(try exact cf));refine bS.whl (k-1) Ω af ?_;have bA:((k-1:Nat):Int)=(k:Int)-1:=Ω
     simp[bA];exact b0
    ·have ds:=ag.fin sL fun cn _ kD=>by rw[aD]at kD;cases kD;omega
     clear ag sL aD;cases keep with
     |false=>simp only[hk,if_false]at fQ;clear ds;simp[fW,jI,ar,aE,ad,mX];(with_reducible repeat' first|refine ak ?_|refine aF (bh _) ?_|refine aG (bh _) ?_|simp[fW,jI,ar,aE,ad,mX]);all_goals exact bS.rng a hi fQ b0
     |true=>
      simp only[if_true]at fQ;by_cases hY:k<a.length
      ·obtain⟨c,aq,jF⟩:=en hY;rw[aq]at ds;by_cases q:eG c e=0
       ·rw[if_pos (by simp[q])]at ds;rw[ds]at fQ;clear ds aq;simp[hY,jF,fW,jI,ar,aE,ad,mX];((with_reducible repeat' first|refine ak ?_|refine aF (bh _) ?_|refine aG (bh _) ?_|simp[hY,jF,q,fW,jI,ar,aE,ad,mX]|((first|apply bN|apply bP|apply bO)<;>intro h<;>try simp at h))<;>(try exact cf));all_goals exact bS.rng a hi fQ b0
       ·rw[if_neg (by simp[q])]at ds;have gq:(eG c e !=0)=true:=by simp[q]
        rw[ds]at fQ;clear ds aq;simp[hY,jF,fW,jI,ar,aE,ad,mX];((with_reducible repeat' first|refine ak ?_|refine aF (bh _) ?_|refine aG (bh _) ?_|simp[hY,jF,q,gq,fW,jI,ar,aE,ad,mX]|((first|apply bN|apply bP|apply bO)<;>intro h<;>try simp at h))<;>(try exact cf));all_goals first|(refine⟨by unfold lim;omega,?_⟩)|skip
        all_goals(with_reducible repeat' first|refine ak ?_|simp)
        all_goals first|(refine⟨by unfold lim;omega,?_⟩)|skip
        all_goals((with_reducible repeat' first|refine ak ?_|simp|((first|apply bN|apply bP|apply bO)<;>intro h<;>try simp at h))<;>(try exact cf))
        all_goals exact bS.rng _ hi fQ ⟨by simp[fresh,aP,aK,cq,inObs,Pv.look,hV,rI,rH,qi,rG],et (by simp[fresh,aP,aK,cq,inObs,Pv.look,hV,rI,rH,qi,rG]),eu (by simp[fresh,aP,aK,ee,inObs,Pv.look,hV,rI,rH,qi,rG]),Ψ⟩
      ·rw[rq Ω]at ds;simp only[hk,if_false]at ds;rw[ds]at fQ;have iz:k=a.length:=Ω
       have q0:a.take k++e::a.drop k=a++[e]:=by rw[iz];simp
       rw[q0]at fQ;clear ds q0;simp[hY,fW,jI,ar,aE,ad,mX];((with_reducible repeat' first|refine ak ?_|refine aF (bh _) ?_|refine aG (bh _) ?_|simp[hY,iz,fW,jI,ar,aE,ad,mX]|((first|apply bN|apply bP|apply bO)<;>intro h<;>try simp at h))<;>(try exact cf));all_goals first|(refine⟨by unfold lim;omega,?_⟩)|skip
       all_goals(with_reducible repeat' first|refine ak ?_|simp)
       all_goals first|(refine⟨by unfold lim;omega,?_⟩)|skip
       all_goals(with_reducible repeat' first|refine ak ?_|simp)
       all_goals exact bS.rng _ hi fQ ⟨by simp[fresh,aP,aK,cq,inObs,Pv.look,hV,rI,rH,qi,rG],et (by simp[fresh,aP,aK,cq,inObs,Pv.look,hV,rI,rH,qi,rG]),eu (by simp[fresh,aP,aK,ee,inObs,Pv.look,hV,rI,rH,qi,rG]),Ψ⟩
  ·obtain⟨d,aD,hdi⟩:=en dX;have au:=ag.step aD;have jU:=e1 d (ek aD);have dZ:bR aA 157 [cF d,cF e] (.bool (kN d e)):=aqy jU kY;clear ag aD fQ sL;cases keep with
   |false=>simp only[Bool.false_and]at au;exact hj
   |true=>
    simp only[Bool.true_and,xI]at au;by_cases q:eG d e=0
    ·rw[hd ((lP.zero _ _).1 q),Bool.true_or]at au;simp[dX,hdi];(with_reducible repeat' first|refine ak ?_|refine aF (bh _) ?_|refine aG (bh _) ?_|simp[dX,hdi,q]);all_goals exact bS.rng true dX au b0
    ·rw[jf (fun h=>q ((lP.zero _ _).2 h)),Bool.false_or]at au;have gq:(eG d e==0)=false:=by simp[q]
     cases aT:kN d e
     ·rw[aT]at au dZ;simp[dX,hdi];(with_reducible repeat' first|refine ak ?_|refine aF (bh _) ?_|refine aG (bh _) ?_|refine aF dZ ?_|refine aG dZ ?_|simp[dX,hdi,q,gq]);all_goals exact bS.rng true dX au b0
     ·rw[aT]at au dZ;simp[dX,hdi];(with_reducible repeat' first|refine ak ?_|refine aF (bh _) ?_|refine aG (bh _) ?_|refine aF dZ ?_|refine aG dZ ?_|simp[dX,hdi,q,gq]);all_goals exact bS.rng false dX au b0
def w3:C:=(aa [c0 1 0,bp 2 false] (.seq (aa [aJ 11 0 1 1,ay 12 1 11,c4 13 67 [.t 12,(ef 0),(ef 100000)],ct 14 13,J 15 14,av 15 false (aJ 16 1 1 1),av 15 false (ay 17 1 16),av 15 false (cD 18 68 17),av 15 false (ct 19 18),c8 20 15 19,J 21 20,av 21 false (aJ 22 2 1 1),av 21 false (ay 23 1 22),av 21 false (cD 24 69 23),av 21 false (ct 25 24),c8 26 21 25,J 27 26,av 27 false (aJ 28 3 1 1),av 27 false (ay 29 1 28),av 27 false (cD 30 70 29),av 27 false (ct 31 30),c8 32 27 31,J 33 32,av 33 false (aJ 34 4 1 1),av 33 false (ay 35 1 34),av 33 false (cD 36 71 35),av 33 false (ct 37 36),c8 38 33 37,J 39 38,av 39 false (aJ 40 1 1 1),av 39 false (ay 41 1 40),av 39 false (aJ 42 0 1 1),av 39 false (ay 43 1 42),av 39 false (ch 44 72 41 43),av 39 false (ct 45 44),c8 46 39 45] (a1 46 (aa [bp 2 false] .ret) .skip)) (.seq (aa [aJ 47 2 1 1,ay 48 1 47,cH 49 48,cb 50 0] (fm 51 50 49 (.seq (.block 1 (aa [cE 52 1 48 50,ay 53 1 52,J 4 53] (aa [J 54 4,aJ 55 0 1 1,ay 56 1 55,ch 57 72 54 56,ct 58 57] (a1 58 (aa [bp 2 false] .ret) .skip)))) (.region [aU 59 .add 50 1,J 50 59])))) (.seq (aa [aJ 60 3 1 1,ay 61 1 60,cH 62 61,cb 63 0] (.block 2 (.loop (aa [bC 64 .lss 63 62] (.seq (a1 64 .skip (.exit 2)) (.seq (.block 3 (aa [cE 65 2 61 63,aZ 66 2 65,cS (.alloc 6 none (.agg [.int .i64 0,.int .i64 0])),bu 2 6 66] (aa [aJ 67 0 1 6,ay 68 1 67,aJ 69 0 1 1,ay 70 1 69,bC 71 .geq 68 70] (a1 71 (aa [bp 2 false] .ret) .skip)))) (.region [aU 72 .add 63 1,J 63 72]))))))) (.seq (aa [aJ 73 4 1 1,ay 74 1 73,cH 75 74,cb 76 0] (.block 4 (.loop (aa [bC 77 .lss 76 75] (.seq (a1 77 .skip (.exit 4)) (.seq (.block 5 (aa [cE 78 2 74 76,aZ 79 2 78,cS (.alloc 8 none (.agg [.int .i64 0,.str []])),bu 2 8 79] (aa [aJ 80 0 1 8,ay 81 1 80,aJ 82 0 1 1,ay 83 1 82,bC 84 .geq 81 83] (a1 84 (aa [bp 2 false] .ret) .skip)))) (.region [aU 85 .add 76 1,J 76 85]))))))) (aa [aZ 87 5 1,cD 88 73 87,J 86 88,cg 89 0 86,cg 90 1 86,cP 9 fD,bu 5 9 89,J 10 90] (aa [J 91 10,J 92 91,av 92 true (aZ 93 5 9),av 92 true (aZ 94 5 1),av 92 true (ch 95 74 93 94),dB 96 92 95,J 2 96] .ret)))))))
def GY:C:=(aa [c0 1 0,cP 2 fD,bp 3 false] (aa [aJ 20 1 1 1,ay 21 1 20,aJ 22 3 1 1,ay 23 1 22,ch 24 121 21 23,J 19 24,cg 25 0 19,cg 26 1 19,J 4 25,J 5 26] (aa [aJ 28 1 1 1,ay 29 1 28,aJ 30 4 1 1,ay 31 1 30,ch 32 122 29 31,J 27 32,cg 33 0 27,cg 34 1 27,J 6 33,J 7 34] (.seq (aa [J 35 5,ct 36 35,J 37 36,b6 37 false 38 7,av 37 false (ct 39 38),c8 40 37 39] (a1 40 (aa [gr 41 fD [],bu 5 2 41,bp 3 false] .ret) .skip)) (aa [aJ 42 0 1 1,ay 43 1 42,aJ 44 1 1 1,ay 45 1 44,J 46 4,gr 47 fD [(0,1,(.t 43)),(1,1,(.t 45)),(3,1,(.t 46))],cP 8 fD,bu 5 8 47] (.seq (aa [J 48 6,cH 49 48,cb 50 0] (fm 51 50 49 (.seq (.block 1 (aa [cE 52 2 48 50,aZ 53 2 52,cS (.alloc 10 none (.agg [.int .i64 0,.str []])),bu 2 10 53] (aa [J 55 4,aJ 56 0 1 10,ay 57 1 56,cD 58 84 57,c4 59 103 [.t 55,.t 58,(ef 2)],J 54 59,cg 60 0 54,cg 61 1 54,J 11 60,J 12 61] (aa [J 62 12] (a1 62 (.region [aJ 63 4 1 8,ay 64 1 63,aZ 65 2 10,ea 66 2 56 [.t 65],gT 67 2 56 64 66,aJ 68 4 1 8,bu 1 68 67]) .skip))))) (.region [aU 69 .add 50 1,J 50 69])))) (aa [ea 70 1 23 [],J 13 70] (.seq (aa [aJ 71 2 1 1,ay 72 1 71,cH 73 72,cb 74 0] (.block 2 (.loop (aa [bC 75 .lss 74 73] (.seq (a1 75 .skip (.exit 2)) (.seq (.block 3 (aa [cE 76 1 72 74,ay 77 1 76,J 15 77] (aa [aJ 79 1 1 1,ay 80 1 79,J 81 15,ch 82 123 80 81,J 78 82,cg 83 0 78,cg 84 1 78,J 16 83,J 17 84] (.seq (aa [J 85 17] (a1 85 (aa [J 87 16,aJ 88 3 1 8,ay 89 1 88,ch 90 121 87 89,J 86 90,cg 91 0 86,cg 92 1 86,J 5 92] (.region [J 94 16,aJ 95 4 1 8,ay 96 1 95,ch 97 122 94 96,J 93 97,cg 98 0 93,cg 99 1 93,J 7 99])) .skip)) (.seq (aa [J 100 17,ct 101 100,J 102 101,b6 102 false 103 5,av 102 false (ct 104 103),c8 105 102 104,J 106 105,b6 106 false 107 7,av 106 false (ct 108 107),c8 109 106 108] (a1 109 (aa [bp 5 true] (aa [bp 7 true] (.exit 3))) .skip)) (aa [aJ 110 1 1 1,ay 111 1 110,J 112 16,ch 113 102 111 112,J 18 113] (.seq (aa [J 114 18,cH 115 114,aU 116 .eql 115 0] (a1 116 (aa [gr 117 fD [],bu 5 2 117,bp 3 false] .ret) .skip)) (.region [J 118 13,J 119 18,ea 120 1 23 [.t 119],gT 121 1 23 118 120,J 13 121])))))))) (.region [aU 122 .add 74 1,J 74 122]))))))) (aa [J 123 13,cD 124 124 123,aJ 125 2 1 8,bu 1 125 124] (.seq (.fz true 8 (.drawn true 131 [bT 126 (.loadZ true 5 (.t 8)),aJ 127 2 1 8,bT 128 (.loadZ false 1 (.t 127)),cH 129 128,aU 130 .leq 129 30,bu 5 2 126,J 3 130])) .ret))))))))))
def yF:C:=(aa [c0 2 0,c0 3 1,bp 4 false] (.seq (aa [aJ 11 0 1 2,ay 12 1 11,aJ 13 0 1 3,ay 14 1 13,bC 15 .neq 12 14,J 16 15,av 16 false (aJ 17 1 1 2),av 16 false (ay 18 1 17),av 16 false (aJ 19 1 1 3),av 16 false (ay 20 1 19),av 16 false (ch 21 125 18 20),av 16 false (aU 22 .neq 21 0),c8 23 16 22,J 24 23,av 24 false (aJ 25 2 1 2),av 24 false (ay 26 1 25),av 24 false (cH 27 26),av 24 false (aJ 28 2 1 3),av 24 false (ay 29 1 28),av 24 false (cH 30 29),av 24 false (bC 31 .neq 27 30),c8 32 24 31,J 33 32,av 33 false (aJ 34 3 1 2),av 33 false (ay 35 1 34),av 33 false (cH 36 35),av 33 false (aJ 37 3 1 3),av 33 false (ay 38 1 37),av 33 false (cH 39 38),av 33 false (bC 40 .neq 36 39),c8 41 33 40,J 42 41,av 42 false (aJ 43 4 1 2),av 42 false (ay 44 1 43),av 42 false (cH 45 44),av 42 false (aJ 46 4 1 3),av 42 false (ay 47 1 46),av 42 false (cH 48 47),av 42 false (bC 49 .neq 45 48),c8 50 42 49] (a1 50 (aa [bp 4 false] .ret) .skip)) (.seq (aa [aJ 51 2 1 2,ay 52 1 51,cH 53 52,cb 54 0] (fm 55 54 53 (.seq (.block 1 (aa [J 56 54,cE 57 1 52 54,ay 58 1 57,J 5 56,J 6 58] (aa [J 59 6,aJ 60 2 1 3,ay 61 1 60,J 62 5,cE 63 1 61 62,ay 64 1 63,ch 65 125 59 64,aU 66 .neq 65 0] (a1 66 (aa [bp 4 false] .ret) .skip)))) (.region [aU 67 .add 54 1,J 54 67])))) (.seq (aa [aJ 68 3 1 2,ay 69 1 68,cH 70 69,cb 71 0] (.block 2 (.loop (aa [bC 72 .lss 71 70] (.seq (a1 72 .skip (.exit 2)) (.seq (.block 3 (aa [J 73 71,cE 74 2 69 71,aZ 75 2 74,cS (.alloc 8 none (.agg [.int .i64 0,.int .i64 0])),J 7 73,bu 2 8 75] (.seq (.drawn true 100 [aZ 76 2 8,aJ 77 3 1 3,ay 78 1 77,J 79 7,cE 80 2 78 79,aZ 81 2 80,bT 82 (.beq true (some [false,false]) (.t 76) (.t 81))]) (a1 82 (aa [bp 4 false] .ret) .skip)))) (.region [aU 83 .add 71 1,J 71 83]))))))) (.seq (aa [aJ 84 4 1 2,ay 85 1 84,cH 86 85,cb 87 0] (.block 4 (.loop (aa [bC 88 .lss 87 86] (.seq (a1 88 .skip (.exit 4)) (.seq (.block 5 (aa [J 89 87,cE 90 2 85 87,aZ 91 2 90,cS (.alloc 10 none (.agg [.int .i64 0,.str []])),J 9 89,bu 2 10 91] (.seq (.drawn true 100 [aZ 92 2 10,aJ 93 4 1 3,ay 94 1 93,J 95 9,cE 96 2 94 95,aZ 97 2 96,bT 98 (.beq true (some [false,true]) (.t 92) (.t 97))]) (a1 98 (aa [bp 4 false] .ret) .skip)))) (.region [aU 99 .add 87 1,J 87 99]))))))) (aa [bp 4 true] .ret))))))
def Kb:List (Nat×dG):=[
 (3,⟨1,8,.int .i64,.int .i64 0⟩),
 (9,⟨1,16,.str,.str []⟩),
 (23,⟨1,24,.slice 54,.slice 5 .nil []⟩),
 (24,⟨1,24,.slice 23,.slice 1 .nil []⟩),
 (25,⟨1,24,.slice 59,.slice 2 .nil []⟩),
 (26,⟨1,24,.slice 56,.slice 2 .nil []⟩),
 (28,⟨5,104,.struct [(0,3),(1,23),(2,24),(3,25),(4,26)],.agg [.int .i64 0,.slice 5 .nil [],.slice 1 .nil [],.slice 2 .nil [],.slice 2 .nil []]⟩),
 (56,⟨2,24,.struct [(0,3),(1,9)],.agg [.int .i64 0,.str []]⟩),
 (59,⟨2,16,.struct [(0,3),(1,3)],.agg [.int .i64 0,.int .i64 0]⟩)]
theorem pf:fX aA Kb=true:=by kernel_rfl
theorem zH:b7 Kb w3 [.tmp 2] 1 Tryz.f31=true:=by kernel_rfl
theorem OW:b7 Kb GY [.cell 2 true 5,.tmp 3] 1 Tryz.f73=true:=by kernel_rfl
theorem Ca:b7 Kb yF [.tmp 4] 2 Tryz.f74=true:=by kernel_rfl
noncomputable def qF(s:bd):aj:= .tuple [(tA s).e,.bool (eH s).isSome]
theorem aqU{k:List bV}(ae:ho k)(v:Int):bR aA 103 [.slice 2 .no (k.map bV.e),(T.var v).e,.int .i64 2] (oC k (gU k (.var v) 2)):=QH k (by have:=o5 ae;omega) ae.asc (.var v) 2
theorem QE{b y:List ah}(ad:ei b)(aB:ei y):bR aA 102 [.slice 5 .no (b.map ah.e),.slice 5 .no (y.map ah.e)] (cF (dx b y)):=aqP ad aB
theorem abK{b x:List ah}(ad:ei b)(ab:ei x):bR aA 123 [.slice 5 .no (b.map ah.e),cF x] (ft (mgu b (e0 x))):=aqO b x ad.sol ad.fits ab.len
def Oc(a:List bn):aj:=match a with
 |[]=>.slice 2 .nil []
 |_::_=>.slice 2 (.own (.loc 5)) (a.map bn.e)
def Ob(a:List bn):List (aM×fU):=match a with
 |[]=>[]
 |_::_=>[(.loc 5,⟨a.length,56,2,none⟩)]
def Oa(a:List bn):Nat:=match a with
 |[]=>3
 |_::_=>6
@[simp]theorem auF:Oc []= .slice 2 .nil []:=rfl
@[simp]theorem auE(x:bn)(a:List bn):Oc (x::a)= .slice 2 (.own (.loc 5)) (x.e::a.map bn.e):=rfl
@[simp]theorem auD:Ob []=[]:=rfl
@[simp]theorem auC(x:bn)(a:List bn):Ob (x::a)=[(.loc 5,⟨a.length+1,56,2,none⟩)]:=rfl
@[simp]theorem auB:Oa []=3:=rfl
@[simp]theorem auA(x:bn)(a:List bn):Oa (x::a)=6:=rfl
theorem CP{s:bd}(h:gz s){G:List (List UInt8)}(hI:G.length<=687000)(aT:lv G s.m):bR aA 73 [s.e] (qF s):=by
 unfold qF;generalize di:eH s=O;generalize c9:tA s=SS;have ln:=QI h.b h.k;have lp:=QJ h.b h.m hI aT;have k0:=fun k=>JB (acc:=[]) (a:=k) h.b h.k.at' ⟨Ψ,Ψ⟩;have ri:=fun m=>Fm (acc:=[]) (a:=m) h.b h.m.at' ⟨Ψ,by simp[hG]⟩;have n4:=fun m=>Fo (acc:=[]) (a:=m) (s:=s.b) aT (fun x ab=>by simp at ab);have ad:=h.b;have aD:=h.d;clear h aT;unfold eH at di;unfold tA at c9;obtain⟨n,b,d,hz,m0⟩:=s;simp only at ln lp k0 ri n4 ad aD di c9;have fA:=ad.len;simp only[bd.e];generalize e3 b hz []=ok at ln di c9 k0;generalize eS b m0 []=om at lp di c9 ri n4;cases ok with
 |none=>
  simp only at di c9;subst di;subst c9;simp only[gd]at ln;simp only[iE]at lp;clear k0 ri n4;refine br pf Tryz.func73 OW fun aR=>?_;unfold GY;simp;(with_reducible repeat' first|refine ak ?_|refine aF ln ?_|refine aG ln ?_|refine aF lp ?_|refine aG lp ?_|simp);all_goals simp[bz,aY,a6,aX]
  all_goals simp[gH,bd.e]
 |some k=>
  simp only at di c9;cases om with
  |none=>
   simp only at di c9;subst di;subst c9;simp only[gd]at ln;simp only[iE]at lp;clear k0 ri n4;refine br pf Tryz.func73 OW fun aR=>?_;unfold GY;simp;(with_reducible repeat' first|refine ak ?_|refine aF ln ?_|refine aG ln ?_|refine aF lp ?_|refine aG lp ?_|simp);all_goals simp[bz,aY,a6,aX]
   all_goals simp[gH,bd.e]
  |some m=>
   simp only at di c9;have xm:=k0 k rfl;have y9:=ri m rfl;have y0:=n4 m rfl;have l6:m.length<=68719470000:=by have:=EN y9 y0;omega
   have Bk:=XW (k:=k) y9;have Bf:=J7 (k:=k) y0;simp only[gd,ib,lZ]at ln;simp only[iE,ib,lZ]at lp;clear k0 ri n4;refine br pf Tryz.func73 OW fun aR=>?_;unfold GY;have xh:d.length<=68719476736:=by simp[gO,gj,gE,lim]at aR;omega
   clear aR;simp;(with_reducible repeat' first|refine ak ?_|refine aF ln ?_|refine aG ln ?_|refine aF lp ?_|refine aG lp ?_|simp);refine hH (fun i (a:List bn)=>⟨[(1,.ptr (.loc 0) 0),(2,.ptr (.loc 1) 0),(4,.slice 2 .no (k.map bV.e)),(8,.ptr (.loc 2) 0),(48,.slice 2 .no (m.map bn.e)),(49,.int .i64 m.length),(50,.int .i64 i)],[(.loc 0,[.int .i64 n,.slice 5 .no (b.map ah.e),.slice 1 .no (d.map cF),.slice 2 .no (hz.map bV.e),.slice 2 .no (m0.map bn.e)]),(.loc 1,[.int .i64 0,.slice 5 .nil [],.slice 1 .nil [],.slice 2 .nil [],.slice 2 .nil []]),(.loc 2,[.int .i64 n,.slice 5 .no (b.map ah.e),.slice 1 .nil [],.slice 2 .no (k.map bV.e),Oc a])],Ob a,Oa a,[]⟩) m.length (uG k m) [] b0 (by simp[uG]) (fun a ag _=>?_) (fun i a hi ag _=>?_);rotate_left
   ·obtain⟨x,ab,c1⟩:=en hi;have mS:a.length<=68719470000:=by
     have:a.length<=(m.take i).length:=by rw[ag];exact List.length_filter_le _ _
     simp at this;omega
    have au:=ag.step ab;have kf:=aqU xm x.v;have bs:(gU k (.var x.v) 2).isSome=hp k x:=acJ xm x.v;simp only[oC,bs]at kf;clear bs;generalize (gU k (.var x.v) 2).getD k=kz at kf;cases aO:hp k x
    ·rw[aO]at au kf;simp only[hk,if_false]at au;clear ag ab aO;cases a with
     |nil=>simp[hi,c1];(with_reducible repeat' first|refine ak ?_|refine aF (kT _) ?_|refine aG (kT _) ?_|refine aF kf ?_|refine aG kf ?_|simp[hi,c1]);all_goals exact bS.rng [] hi au b0
     |cons y ys=>simp[hi,c1];(with_reducible repeat' first|refine ak ?_|refine aF (kT _) ?_|refine aG (kT _) ?_|refine aF kf ?_|refine aG kf ?_|simp[hi,c1]);all_goals exact bS.rng (y::ys) hi au b0
    ·rw[aO]at au kf;simp only[if_true]at au;clear ag ab aO;cases a with
     |nil=>
      simp[hi,c1];(with_reducible repeat' first|refine ak ?_|refine aF (kT _) ?_|refine aG (kT _) ?_|refine aF kf ?_|refine aG kf ?_|simp[hi,c1]);all_goals first|(refine⟨by unfold lim;omega,?_⟩)|skip
      all_goals(with_reducible repeat' first|refine ak ?_|simp)
      all_goals exact bS.rng [x] hi au b0
     |cons y ys=>
      simp only[mM]at mS;simp[hi,c1];(with_reducible repeat' first|refine ak ?_|refine aF (kT _) ?_|refine aG (kT _) ?_|refine aF kf ?_|refine aG kf ?_|simp[hi,c1]);all_goals first|(refine⟨by unfold lim;omega,?_⟩)|skip
      all_goals(with_reducible repeat' first|refine ak ?_|simp)
      all_goals exact bS.rng (y::ys++[x]) hi au ⟨by simp[fresh,aP,aK,cq,inObs,Pv.look,BL],et (by simp[fresh,aP,aK,cq,inObs,Pv.look,BL]),eu (by simp[fresh,aP,aK,ee,inObs,Pv.look,BL]),Ψ⟩
   rw[uG,lB]at ag;rw[<-ag]at Bk Bf di c9;clear ag y9 y0;cases a with
   |nil=>
    simp;(with_reducible repeat' first|refine ak ?_|simp);refine hH (fun i (L:List (List ah))=>⟨[(1,.ptr (.loc 0) 0),(2,.ptr (.loc 1) 0),(8,.ptr (.loc 2) 0),(13,.slice 1 (.own (.loc 3)) (L.map cF)),(72,.slice 1 .no (d.map cF)),(73,.int .i64 d.length),(74,.int .i64 i)],[(.loc 0,[.int .i64 n,.slice 5 .no (b.map ah.e),.slice 1 .no (d.map cF),.slice 2 .no (hz.map bV.e),.slice 2 .no (m0.map bn.e)]),(.loc 1,[.int .i64 0,.slice 5 .nil [],.slice 1 .nil [],.slice 2 .nil [],.slice 2 .nil []]),(.loc 2,[.int .i64 n,.slice 5 .no (b.map ah.e),.slice 1 .nil [],.slice 2 .no (k.map bV.e),.slice 2 .nil []])],[(.loc 3,⟨L.length,23,1,none⟩)],3+1,[]⟩) d.length (q8 b k [] d) [] b0 ⟨Ψ,Ψ,Ψ⟩ (fun L ag _=>?_) (fun i L hi ag _=>?_)
    ·have e1:=ag.fin;have n5:=ag.2.1;rw[e1]at di c9;simp only at di c9;have ll:=abL L n5;clear ag e1 n5;generalize iN L=M at ll di c9;subst c9;by_cases l4:M.length<=30
     ·have pF:(M.length:Int)<=30:=Ω
      rw[if_pos l4]at di;subst di;simp;(with_reducible repeat' first|refine ak ?_|refine aF ll ?_|refine aG ll ?_|simp[l4,pF]);all_goals simp[bz,aY,a6,aX]
      all_goals try simp[bd.e,l4,pF]
      all_goals first|exact⟨_,rfl,rfl⟩|skip
     ·have pF:¬(M.length:Int)<=30:=Ω
      rw[if_neg l4]at di;subst di;simp;(with_reducible repeat' first|refine ak ?_|refine aF ll ?_|refine aG ll ?_|simp[l4,pF]);all_goals simp[bz,aY,a6,aX]
      all_goals try simp[bd.e,l4,pF]
      all_goals first|exact⟨_,rfl,rfl⟩|skip
    ·obtain⟨x,ab,c1⟩:=en hi;have gp:=aD x (ek ab);have VJ:=ag.1;have il:=abK ad gp;simp only[ft]at il;cases hu:mgu b (e0 x)with
     |none=>have au:=ag.skip ab fun r=>NZ hu;rw[hu]at il;simp only[jy,je]at il;clear ag ab di c9;exact hj
     |some y=>
      have jV:=ad.mgu (Dr gp) hu;rw[hu]at il;simp only[ib,lZ]at il;have dg:=QI jV xm;have dZ:=QJ jV Bk hI Bf;have gx:=QE ad jV;simp only[gd]at dg;simp only[iE,nS,hc]at dZ;by_cases jq:e3 y k []=none\/eS y [] []=none
      ·have au:=ag.skip ab fun r=>NY hu jq;clear ag ab di c9 hu gx;rcases jq with e|e
       ·rw[e]at dg;simp only[jy,je]at dg;exact hj
       ·rw[e]at dZ;simp only[jy,je]at dZ;generalize (e3 y k []).isSome=aW at dg;cases aW
        ·exact hj
        ·exact hj
      ·have ar:(e3 y k []).isSome=true:=by cases e:e3 y k []with|none=>exact absurd (.inl e) jq|some _=>rfl
       have aE:(eS y [] []).isSome=true:=by cases e:eS y [] []with|none=>exact absurd (.inr e) jq|some _=>rfl
       rw[ar]at dg;rw[aE]at dZ;by_cases cG:dx b y=[]
       ·have af:=ag.stop ab fun r=>NX hu jq cG;rw[af]at di c9;simp only at di c9;subst di;subst c9;rw[cG]at gx;simp only[cF,nS]at gx;clear ag ab hu jq;simp[hi,c1];(with_reducible repeat' first|refine ak ?_|refine aF il ?_|refine aG il ?_|refine aF dg ?_|refine aG dg ?_|refine aF dZ ?_|refine aG dZ ?_|refine aF gx ?_|refine aG gx ?_|simp[hi,c1]);all_goals simp[bz,aY,a6,aX]
        all_goals try simp[gH,bd.e]
       ·have au:=ag.snoc ab (EV (b:=b) jV) fun r=>N0 hu jq cG;have xq:¬((dx b y).length:Int)=0:=by have:(dx b y).length≠0:=fun h=>cG (List.length_eq_zero_iff.1 h);omega
        have xr:(((dx b y).length:Int)==0)=false:=by simp[cG]
        clear ag ab hu jq di c9;generalize dx b y=z at gx au xq xr cG;simp only[cF]at gx;simp[hi,c1];(with_reducible repeat' first|refine ak ?_|refine aF il ?_|refine aG il ?_|refine aF dg ?_|refine aG dg ?_|refine aF dZ ?_|refine aG dZ ?_|refine aF gx ?_|refine aG gx ?_|simp[hi,c1,xq,xr,cG]);all_goals first|(refine⟨by unfold lim;omega,?_⟩)|skip
        all_goals(with_reducible repeat' first|refine ak ?_|simp)
        all_goals exact bS.rng (L++[z]) hi au ⟨by simp[fresh,aP,aK,cq,inObs,Pv.look,uL,cF],et (by simp[fresh,aP,aK,cq,inObs,Pv.look,uL,cF]),eu (by simp[fresh,aP,aK,ee,inObs,Pv.look,uL,cF]),Ψ⟩
   |cons F7 F8=>
    simp;(with_reducible repeat' first|refine ak ?_|simp);refine hH (fun i (L:List (List ah))=>⟨[(1,.ptr (.loc 0) 0),(2,.ptr (.loc 1) 0),(8,.ptr (.loc 2) 0),(13,.slice 1 (.own (.loc 6)) (L.map cF)),(72,.slice 1 .no (d.map cF)),(73,.int .i64 d.length),(74,.int .i64 i)],[(.loc 0,[.int .i64 n,.slice 5 .no (b.map ah.e),.slice 1 .no (d.map cF),.slice 2 .no (hz.map bV.e),.slice 2 .no (m0.map bn.e)]),(.loc 1,[.int .i64 0,.slice 5 .nil [],.slice 1 .nil [],.slice 2 .nil [],.slice 2 .nil []]),(.loc 2,[.int .i64 n,.slice 5 .no (b.map ah.e),.slice 1 .nil [],.slice 2 .no (k.map bV.e),.slice 2 (.own (.loc 5)) (F7.e::F8.map bn.e)])],[(.loc 6,⟨L.length,23,1,none⟩)],6+1,[]⟩) d.length (q8 b k (F7::F8) d) [] b0 ⟨Ψ,Ψ,Ψ⟩ (fun L ag _=>?_) (fun i L hi ag _=>?_)
    ·have e1:=ag.fin;have n5:=ag.2.1;rw[e1]at di c9;simp only at di c9;have ll:=abL L n5;clear ag e1 n5;generalize iN L=M at ll di c9;subst c9;by_cases l4:M.length<=30
     ·have pF:(M.length:Int)<=30:=Ω
      rw[if_pos l4]at di;subst di;simp;(with_reducible repeat' first|refine ak ?_|refine aF ll ?_|refine aG ll ?_|simp[l4,pF]);all_goals simp[bz,aY,a6,aX]
      all_goals try simp[bd.e,l4,pF]
      all_goals first|exact⟨_,rfl,rfl⟩|skip
     ·have pF:¬(M.length:Int)<=30:=Ω
      rw[if_neg l4]at di;subst di;simp;(with_reducible repeat' first|refine ak ?_|refine aF ll ?_|refine aG ll ?_|simp[l4,pF]);all_goals simp[bz,aY,a6,aX]
      all_goals try simp[bd.e,l4,pF]
      all_goals first|exact⟨_,rfl,rfl⟩|skip
    ·obtain⟨x,ab,c1⟩:=en hi;have gp:=aD x (ek ab);have VJ:=ag.1;have il:=abK ad gp;simp only[ft]at il;cases hu:mgu b (e0 x)with
     |none=>have au:=ag.skip ab fun r=>NZ hu;rw[hu]at il;simp only[jy,je]at il;clear ag ab di c9;exact hj
     |some y=>
      have jV:=ad.mgu (Dr gp) hu;rw[hu]at il;simp only[ib,lZ]at il;have dg:=QI jV xm;have dZ:=QJ jV Bk hI Bf;have gx:=QE ad jV;simp only[gd]at dg;simp only[iE,nS,hc]at dZ;by_cases jq:e3 y k []=none\/eS y (F7::F8) []=none
      ·have au:=ag.skip ab fun r=>NY hu jq;clear ag ab di c9 hu gx;rcases jq with e|e
       ·rw[e]at dg;simp only[jy,je]at dg;exact hj
       ·rw[e]at dZ;simp only[jy,je]at dZ;generalize (e3 y k []).isSome=aW at dg;cases aW
        ·exact hj
        ·exact hj
      ·have ar:(e3 y k []).isSome=true:=by cases e:e3 y k []with|none=>exact absurd (.inl e) jq|some _=>rfl
       have aE:(eS y (F7::F8) []).isSome=true:=by cases e:eS y (F7::F8) []with|none=>exact absurd (.inr e) jq|some _=>rfl
       rw[ar]at dg;rw[aE]at dZ;by_cases cG:dx b y=[]
       ·have af:=ag.stop ab fun r=>NX hu jq cG;rw[af]at di c9;simp only at di c9;subst di;subst c9;rw[cG]at gx;simp only[cF,nS]at gx;clear ag ab hu jq;simp[hi,c1];(with_reducible repeat' first|refine ak ?_|refine aF il ?_|refine aG il ?_|refine aF dg ?_|refine aG dg ?_|refine aF dZ ?_|refine aG dZ ?_|refine aF gx ?_|refine aG gx ?_|simp[hi,c1]);all_goals simp[bz,aY,a6,aX]
        all_goals try simp[gH,bd.e]
       ·have au:=ag.snoc ab (EV (b:=b) jV) fun r=>N0 hu jq cG;have xq:¬((dx b y).length:Int)=0:=by have:(dx b y).length≠0:=fun h=>cG (List.length_eq_zero_iff.1 h);omega
        have xr:(((dx b y).length:Int)==0)=false:=by simp[cG]
        clear ag ab hu jq di c9;generalize dx b y=z at gx au xq xr cG;simp only[cF]at gx;simp[hi,c1];(with_reducible repeat' first|refine ak ?_|refine aF il ?_|refine aG il ?_|refine aF dg ?_|refine aG dg ?_|refine aF dZ ?_|refine aG dZ ?_|refine aF gx ?_|refine aG gx ?_|simp[hi,c1,xq,xr,cG]);all_goals first|(refine⟨by unfold lim;omega,?_⟩)|skip
        all_goals(with_reducible repeat' first|refine ak ?_|simp)
        all_goals exact bS.rng (L++[z]) hi au ⟨by simp[fresh,aP,aK,cq,inObs,Pv.look,uL,cF],et (by simp[fresh,aP,aK,cq,inObs,Pv.look,uL,cF]),eu (by simp[fresh,aP,aK,ee,inObs,Pv.look,uL,cF]),Ψ⟩
theorem aqS(x y:List ah):bR aA 125 [cF x,cF y] (.int .i64 (eG x y)):=QG x y
theorem aq4{x y:List ah}(h:¬x=y):(eG x y !=0)=true:=by have:¬eG x y=0:=fun e=>h ((lP.zero _ _).1 e);simp[this]
theorem aq2(a c:bd):bR aA 74 [a.e,c.e] (.bool (decide (a=c))):=by
 obtain⟨n,b,d,k,m⟩:=a;obtain⟨n',b3,cn,bJ,iD⟩:=c;generalize bI:decide ((⟨n,b,d,k,m⟩:bd)=⟨n',b3,cn,bJ,iD⟩)=R;simp only[bd.mk.injEq,bd.e]at bI⊢;by_cases aW:n=n';rotate_left
 ·have gm:R=false:=by rw[<-bI];simp[aW]
  have uW:(n !=n')=true:=by simp[aW]
  rw[gm];clear bI gm;refine br pf Tryz.func74 Ca fun aR=>?_;unfold yF;exact cu
 subst aW;have fp:=QG b b3;by_cases bj:b=b3;rotate_left
 ·have gm:R=false:=by rw[<-bI];simp[bj]
  have pW:¬eG b b3=0:=fun h=>bj ((lP.zero _ _).1 h);have Ze:(eG b b3 !=0)=true:=by simp[pW]
  rw[gm];clear bI gm;refine br pf Tryz.func74 Ca fun aR=>?_;unfold yF;exact cu
 subst bj;rw[(lP.zero b b).2 rfl]at fp;by_cases bM:d.length=cn.length;rotate_left
 ·have gm:R=false:=by rw[<-bI];simp only[gJ];rintro⟨_,_,rfl,_⟩;exact bM rfl
  have tt:((d.length:Int) !=cn.length)=true:=by simp;omega
  rw[gm];clear bI gm;refine br pf Tryz.func74 Ca fun aR=>?_;unfold yF;exact cu
 by_cases cL:k.length=bJ.length;rotate_left
 ·have gm:R=false:=by rw[<-bI];simp only[gJ];rintro⟨_,_,_,rfl,_⟩;exact cL rfl
  have an4:((k.length:Int) !=bJ.length)=true:=by simp;omega
  rw[gm];clear bI gm;refine br pf Tryz.func74 Ca fun aR=>?_;unfold yF;exact cu
 by_cases c2:m.length=iD.length;rotate_left
 ·have gm:R=false:=by rw[<-bI];simp only[gJ];rintro⟨_,_,_,_,rfl⟩;exact c2 rfl
  have an5:((m.length:Int) !=iD.length)=true:=by simp;omega
  rw[gm];clear bI gm;refine br pf Tryz.func74 Ca fun aR=>?_;unfold yF;exact cu
 have zd:d≠cn->R=false:=fun h=>by rw[<-bI];simp[h]
 have ze:k≠bJ->R=false:=fun h=>by rw[<-bI];simp[h]
 have M3:m≠iD->R=false:=fun h=>by rw[<-bI];simp[h]
 refine br pf Tryz.func74 Ca fun aR=>?_;unfold yF;have aiW:cn.length<=68719476736:=by simp[gO,gj,gE,lim]at aR;omega
 have aiX:bJ.length<=68719476736:=by simp[gO,gj,gE,lim]at aR;omega
 have aiY:iD.length<=68719476736:=by simp[gO,gj,gE,lim]at aR;omega
 clear aR;simp;(with_reducible repeat' first|refine ak ?_|refine aF fp ?_|refine aG fp ?_|simp[bM,cL,c2]);have cW:=zd;refine ep [2,3,52,53] (fun i (_:Unit)=>[(54,.int .i64 i)]) cn.length (sy d cn) () b0 (fun k ae=>Ω) (fun _ ag _=>?_) (fun i _ hi ag _=>?_);rotate_left
 ·obtain⟨x,ab⟩:∃x,d[i]? =some x:=⟨_,cm Ω⟩;obtain⟨y,aB⟩:∃y,cn[i]? =some y:=⟨_,cm hi⟩;have gF:i<d.length:=Ω
  have c1:∀h,(d[i]'h)=x:=fun h=>by rw[cm gF]at ab;exact eV ab
  have eR:∀h,(cn[i]'h)=y:=fun h=>by rw[cm hi]at aB;exact eV aB
  have fp:=aqS x y;by_cases q:x=y
  ·subst q;have au:=ag.step ab aB;rw[(lP.zero _ _).2 rfl]at fp;clear ag ab aB;simp[hi,gF,c1,eR,-jj];(with_reducible repeat' first|refine ak ?_|refine aF fp ?_|refine aG fp ?_|simp[c1,eR,hi,gF,-jj]);all_goals exact bS.rng () hi au b0
  ·rw[cW (fun h=>q (by rw[h]at ab;rw[ab]at aB;exact eV aB))];have pW:=aq4 q;clear ag ab aB;simp[hi,gF,c1,eR,-jj];(with_reducible repeat' first|refine ak ?_|refine aF fp ?_|refine aG fp ?_|simp[c1,eR,hi,gF,q,pW,-jj]);all_goals simp[bz,aY,a6,aX]
 have c3:=ag.fin bM;subst c3;clear ag cW zd bM;simp;(with_reducible repeat' first|refine ak ?_|simp[cL]);have cW:=ze;refine ep [2,3,69,70] (fun i (_:Unit)=>[(71,.int .i64 i)]) bJ.length (sy k bJ) () b0 (fun k ae=>Ω) (fun _ ag _=>?_) (fun i _ hi ag _=>?_);rotate_left
 ·obtain⟨x,ab⟩:∃x,k[i]? =some x:=⟨_,cm Ω⟩;obtain⟨y,aB⟩:∃y,bJ[i]? =some y:=⟨_,cm hi⟩;have gF:i<k.length:=Ω
  have c1:∀h,(k[i]'h)=x:=fun h=>by rw[cm gF]at ab;exact eV ab
  have eR:∀h,(bJ[i]'h)=y:=fun h=>by rw[cm hi]at aB;exact eV aB
  have fp:=True.intro;by_cases q:x=y
  ·subst q;have au:=ag.step ab aB;skip;clear ag ab aB;simp[hi,gF,c1,eR,-jj];(with_reducible repeat' first|refine ak ?_|refine aF fp ?_|refine aG fp ?_|simp[c1,eR,hi,gF,-jj]);all_goals exact bS.rng () hi au b0
  ·rw[cW (fun h=>q (by rw[h]at ab;rw[ab]at aB;exact eV aB))];skip;clear ag ab aB;simp[hi,gF,c1,eR,-jj];(with_reducible repeat' first|refine ak ?_|refine aF fp ?_|refine aG fp ?_|simp[c1,eR,hi,gF,q,q,-jj]);all_goals simp[bz,aY,a6,aX]
 have c3:=ag.fin cL;subst c3;clear ag cW ze cL;simp;(with_reducible repeat' first|refine ak ?_|simp[c2]);have cW:=M3;refine ep [3,85,86] (fun i (_:Unit)=>[(87,.int .i64 i)]) iD.length (sy m iD) () b0 (fun k ae=>Ω) (fun _ ag _=>?_) (fun i _ hi ag _=>?_);rotate_left
 ·obtain⟨x,ab⟩:∃x,m[i]? =some x:=⟨_,cm Ω⟩;obtain⟨y,aB⟩:∃y,iD[i]? =some y:=⟨_,cm hi⟩;have gF:i<m.length:=Ω
  have c1:∀h,(m[i]'h)=x:=fun h=>by rw[cm gF]at ab;exact eV ab
  have eR:∀h,(iD[i]'h)=y:=fun h=>by rw[cm hi]at aB;exact eV aB
  have fp:=True.intro;by_cases q:x=y
  ·subst q;have au:=ag.step ab aB;skip;clear ag ab aB;simp[hi,gF,c1,eR,-jj];(with_reducible repeat' first|refine ak ?_|refine aF fp ?_|refine aG fp ?_|simp[c1,eR,hi,gF,-jj]);all_goals exact bS.rng () hi au b0
  ·rw[cW (fun h=>q (by rw[h]at ab;rw[ab]at aB;exact eV aB))];skip;clear ag ab aB;simp[hi,gF,c1,eR,-jj];(with_reducible repeat' first|refine ak ?_|refine aF fp ?_|refine aG fp ?_|simp[c1,eR,hi,gF,q,q,-jj]);all_goals simp[bz,aY,a6,aX]
 have c3:=ag.fin c2;subst c3;have gm:R=true:=by rw[<-bI];simp
 rw[gm];exact cu
@[simp]theorem ap0:∀l:List (List dS),du (l.map mo)=l.map mo
 |[]=>rfl
 |x::xs=>by simp[du,ap0 xs]
theorem aaU:∀{d:List (List dS)},d.all gR=true->∃D:List (List ah),d=(D.map fun x=>x.map ah.b)/\∀x∈D,ei x
 |[],_=>⟨[],rfl,Ψ⟩
 |x::d,h=>by
  rw[List.all_cons,cv]at h;obtain⟨D,I,U⟩:=aaU h.2;obtain⟨s,ar,aE⟩:=x8.1 (se.1 h.1);refine⟨s::D,by rw[I,ar];rfl,fun y aB=>?_⟩;rcases eU.1 aB with rfl|aB
  ·exact aE
  ·exact U y aB
open Classical in
theorem arj(r:k5)(ga:ju r.m->jN r.m):bR aA 31 [r.e] (.bool (decide (oF r))):=by
 generalize bI:decide (oF r)=R;have cW:¬PE r->R=false:=fun h=>by rw[<-bI,gJ];exact fun b4=>h b4.raw
 obtain⟨n,b,d,k,m⟩:=r;simp only[k5.e]at ga⊢;have jJ:=dC n 0 100000;by_cases g1:0<=n/\n<=100000;rotate_left
 ·rw[cW fun h=>g1 h.n];rw[jf g1]at jJ;refine br pf Tryz.func31 zH fun aR=>?_;unfold w3;exact cu
 rw[hd g1]at jJ;have js:bR aA 68 [.slice 5 .no (b.map dS.e)] (.bool (gR b)):=QL b;cases g3:gR b
 ·rw[cW fun h=>by obtain⟨s,ar,aE,_⟩:=h.b;have:=se.2 (x8.2 ⟨s,ar,aE⟩);simp only at this;rw[g3]at this;cases this]
  rw[g3]at js;refine br pf Tryz.func31 zH fun aR=>?_;unfold w3;exact cu
 rw[g3]at js;obtain⟨s,rfl,af⟩:=x8.1 (se.1 g3);clear g3;rw[uQ]at js⊢;have fC:=aqR d;cases xb:d.all gR
 ·rw[cW fun h=>by
   have:d.all gR=true:=by rw[fi];intro x ab;obtain⟨s,ar,aE,_⟩:=h.d x ab;exact se.2 (x8.2 ⟨s,ar,aE⟩)
   rw[xb]at this;cases this]
  rw[xb]at fC;refine br pf Tryz.func31 zH fun aR=>?_;unfold w3;exact cu
 rw[xb]at fC;obtain⟨D,rfl,sK⟩:=aaU xb;clear xb;rw[LF]at fC⊢;have dg:=arh k;by_cases g4:ho k;rotate_left
 ·rw[cW fun h=>g4 h.k];rw[jf g4]at dg;refine br pf Tryz.func31 zH fun aR=>?_;unfold w3;exact cu
 rw[hd g4]at dg;have dZ:=ari m;by_cases g5:ju m;rotate_left
 ·rw[cW fun h=>g5 h.m];rw[jf g5]at dZ;refine br pf Tryz.func31 zH fun aR=>?_;unfold w3;exact cu
 rw[hd g5]at dZ;have eL:=abN s n;cases g6:s.all (lF n)
 ·rw[cW fun h=>by obtain⟨ai,ar,_,bA⟩:=h.b;have dr:=rD ar;subst dr;rw[wY.2 bA]at g6;cases g6]
  rw[g6]at eL;refine br pf Tryz.func31 zH fun aR=>?_;unfold w3;have NV:=eL;exact cu
 rw[g6]at eL;have cN:=wY.1 g6;clear g6;have uy:=ga g5;have l6:=uy.len g5;refine br pf Tryz.func31 zH fun aR=>?_;unfold w3;have xh:D.length<=68719476736:=by simp[gO,gj,gE,lim]at aR;omega
 have iz:=o5 g4;clear aR ga;simp;(with_reducible repeat' first|refine ak ?_|refine aF jJ ?_|refine aG jJ ?_|refine aF js ?_|refine aG js ?_|refine aF fC ?_|refine aG fC ?_|refine aF dg ?_|refine aG dg ?_|refine aF dZ ?_|refine aG dZ ?_|refine aF eL ?_|refine aG eL ?_|simp);refine ep [1,48,49] (fun i (_:Unit)=>[(50,.int .i64 i)]) D.length (tc (fun x=>nY x n) D) () b0 (fun k b ae=>Ω) (fun _ ag _=>?_) (fun i _ hi ag _=>?_);rotate_left
 ·obtain⟨y,aB,eR⟩:=en hi;have Nu:=ek aB;have kf:bR aA 72 [cF y,.int .i64 n] (.bool (y.all (lF n))):=abN y n;cases sH:y.all (lF n)
  ·rw[cW fun h=>by obtain⟨ai,ar,_,bA⟩:=h.d _ (List.mem_map_of_mem Nu);have dr:=rD ar;subst dr;rw[wY.2 bA]at sH;cases sH]
   rw[sH]at kf;clear ag aB Nu;exact cu
  ·rw[sH]at kf;have au:=ag.step aB (wY.1 sH);clear ag aB Nu;exact hj
 have Mu:=ag.fin;clear ag;simp;(with_reducible repeat' first|refine ak ?_|simp);refine ep [1,61,62] (fun i (_:Unit)=>[(63,.int .i64 i)]) k.length (tc (fun x=>x.v<n) k) () b0 (fun k b ae=>Ω) (fun _ ag _=>?_) (fun i _ hi ag _=>?_);rotate_left
 ·obtain⟨x,ab,c1⟩:=en hi;by_cases ny:x.v<n
  ·have yS:¬n<=x.v:=Ω
   have au:=ag.step ab ny;clear ag ab;exact hj
  ·have yS:n<=x.v:=Ω
   rw[cW fun h=>ny (h.kb x (ek ab))];clear ag ab;exact cu
 have y1:=ag.fin;clear ag;simp;(with_reducible repeat' first|refine ak ?_|simp);have uw:=y1;refine ep [1,74,75] (fun i (_:Unit)=>[(76,.int .i64 i)]) m.length (tc (fun x=>x.v<n) m) () b0 (fun k b ae=>Ω) (fun _ ag _=>?_) (fun i _ hi ag _=>?_);rotate_left
 ·obtain⟨x,ab,c1⟩:=en hi;by_cases ny:x.v<n
  ·have yS:¬n<=x.v:=Ω
   have au:=ag.step ab ny;clear ag ab;exact hj
  ·have yS:n<=x.v:=Ω
   rw[cW fun h=>ny (h.mb x (ek ab))];clear ag ab;exact cu
 have y1:=ag.fin;clear ag;simp;(with_reducible repeat' first|refine ak ?_|simp);have oe:=y1;have da:gz ⟨n,s,D,k,m⟩:=⟨g1,af,sK,g4,g5,cN,Mu,uw,oe⟩;have vJ:=aaQ da;obtain⟨G,hI,aT⟩:=uy;have dz:=CP da hI aT;have l7:oF ⟨n,s.map ah.b,D.map fun x=>x.map ah.b,k,m⟩↔eH ⟨n,s,D,k,m⟩=some ⟨n,s,D,k,m⟩:=vJ;clear vJ cW;simp only[qF]at dz;generalize My:tA ⟨n,s,D,k,m⟩=t at dz;have pS:=aq2 t ⟨n,s,D,k,m⟩;cases kY:eH ⟨n,s,D,k,m⟩with
 |none=>
  rw[kY]at dz l7;have gm:R=false:=by rw[<-bI,gJ,l7];simp
  rw[gm];obtain⟨qL,qI,qJ,qK,tm⟩:=t;simp only[je,bd.e]at dz;clear bI gm l7 My pS;exact cu
 |some dH=>
  have ar:=JX kY;rw[My]at ar;subst ar;rw[kY]at dz l7;have gm:R=decide (t=⟨n,s,D,k,m⟩):=by rw[<-bI,decide_eq_decide,l7];simp
  rw[gm];simp only[lZ]at dz;simp only[bd.e]at dz pS;clear bI gm l7 kY;generalize decide (t=(⟨n,s,D,k,m⟩:bd))=Q at pS⊢;clear My;obtain⟨qL,qI,qJ,qK,tm⟩:=t;simp only at dz pS;exact cu
def vw(n:Int)(l:List bZ):Prop:= ∃x:List T,l=x.map T.tm/\(∀t∈x,t.fit=true)/\∀t∈x,dy n t=true
theorem aaY{x y:List T}(h:x.map T.tm=y.map T.tm):x=y:=(List.map_inj_right fun _ _=>FP).1 h
theorem adM(l:List T):(l.map T.tm).map enc=l.map T.e:=by rw[List.map_map];exact List.map_congr_left fun t _=>mq t
theorem U3:∀{l:List bZ},l.all bZ.fits=true->∃x:List T,l=x.map T.tm/\∀t∈x,t.fit=true
 |[],_=>⟨[],rfl,Ψ⟩
 |t::l,h=>by rw[List.all_cons,cv]at h;obtain⟨x,rfl,U⟩:=U3 h.2;obtain⟨y,rfl,a7⟩:=bZ.fits_ex h.1;exact⟨y::x,rfl,fun z a8=>(eU.1 a8).elim (fun e=>by rw[e];exact a7) (U z)⟩
theorem U1{n:Int}{l:List bZ}(h:vw n l):∀t∈l,t.fits=true:=fun t aC=>by obtain⟨x,rfl,U,_⟩:=h;obtain⟨y,aB,rfl⟩:=hU.1 aC;rw[bZ.fits_T];exact U y aB
theorem U2{n:Int}{x y:T}(ab:x.fit=true)(aB:y.fit=true)(I:dy n x=true)(U:dy n y=true):vw n [x.tm,y.tm]:=⟨[x,y],rfl,by simp[ab,aB],by simp[I,U]⟩
theorem agM{n:Int}{x y:T}(h:vw n [x.tm,y.tm]):(x.fit=true/\y.fit=true)/\dy n x=true/\dy n y=true:=by obtain⟨l,e,I,U⟩:=h;have:=aaY (x:=[x,y]) e;subst this;exact⟨⟨I x Ψ,I y Ψ⟩,U x Ψ,U y Ψ⟩
theorem adz{p:Prop}[Decidable p]{b:Bool}:decide p=b↔(p↔b=true):=by cases b<;>simp
theorem abU{n:Int}:∀(l:List T) (m:Int),l.foldl (fun m t=>t.fold sl m) m<=n↔m<=n/\∀t∈l,dy n t=true
 |[],m=>by simp
 |t::l,m=>by rw[List.foldl_cons,abU l,Ko];simp[and_assoc]
theorem lj.fin{α:Type}{p:α->Bool}{s:List α}(h:lj p s s.length ()):∀b∈s,p b=true:=fun b ad=>by obtain⟨i,hi⟩:=List.mem_iff_getElem?.1 ad;exact h i b (by have:=(fG.1 hi).1;omega) hi
theorem aro(l:List bZ):bR aA 87 [.slice 4 .no (l.map enc)] (.bool (l.all bZ.fits)):=by
 generalize bI:l.all bZ.fits=R;refine br fY Tryz.func87 YR fun aR=>?_;unfold Ld;have ik:l.length<=68719476736:=by simp[gO,gj,gE,lim]at aR;omega
 simp;refine ep [5,6] (fun i (_:Unit)=>[(7,.int .i64 i)]) l.length (lj bZ.fits l) () b0 (fun k b ae=>Ω) (fun _ ag _=>?_) (fun i _ hi ag _=>?_)
 ·have:R=true:=by rw[<-bI,fi];exact ag.fin
  subst this;clear ag bI;exact cu
 ·obtain⟨t,aC,rR⟩:=en hi;have dz:=Kg t;cases g:t.fits
  ·rw[g]at dz;have:R=false:=by rw[<-bI,List.all_eq_false];exact⟨t,ek aC,by rw[g];simp⟩
   subst this;clear aC ag bI;exact cu
  ·rw[g]at dz;have au:=ag.step aC g;clear aC ag bI;exact hj
open Classical in
theorem QC(r:k5)(ga:ju r.m->jN r.m)(l:List bZ):bR aA 39 [r.e,.slice 4 .no (l.map enc)] (.bool (decide (oF r/\vw r.n l))):=by
 generalize bI:decide (oF r/\vw r.n l)=R;have c5:=Kf r ga;have dz:=aro l;have au:=fun h:oF r=>(oF.raw h).n;by_cases g1:oF r;rotate_left
 ·rw[jf g1]at c5;have:R=false:=by rw[<-bI];exact jf fun h=>g1 h.1
  subst this;obtain⟨n,b,d,k,m⟩:=r;simp only[k5.e]at c5⊢;clear bI au ga g1;refine br fO Tryz.func39 OM fun aR=>?_;unfold GL;exact cu
 rw[hd g1]at c5;cases g2:l.all bZ.fits
 ·rw[g2]at dz;have:R=false:=by rw[<-bI];refine jf fun h=>?_;obtain⟨x,rfl,U,_⟩:=h.2;rw[List.all_eq_false]at g2;obtain⟨t,aC,aO⟩:=g2;obtain⟨y,aB,rfl⟩:=hU.1 aC;rw[bZ.fits_T]at aO;exact aO (U y aB)
  subst this;obtain⟨n,b,d,k,m⟩:=r;simp only[k5.e]at c5⊢;clear bI au ga g1 g2;refine br fO Tryz.func39 OM fun aR=>?_;unfold GL;exact cu
 rw[g2]at dz;obtain⟨x,rfl,ab⟩:=U3 g2;rw[adM]at dz⊢;have hg:=abx x ab;have az:decide (yh x<=r.n)=R:=by rw[<-bI,yh];refine decide_eq_decide.2 ?_;rw[abU];refine⟨fun h=>⟨g1,x,rfl,ab,h.2⟩,fun h=>⟨(au g1).1,?_⟩⟩;obtain⟨y,e,_,U⟩:=h.2;rw[aaY e];exact U
 generalize yh x=q at hg az;obtain⟨n,b,d,k,m⟩:=r;simp only[k5.e]at c5 az⊢;clear bI au ga g1 g2 ab;subst az;refine br fO Tryz.func39 OM fun aR=>?_;unfold GL;exact cu
noncomputable def gW(s:bd)(x y:T):Option bd:=(mgu s.b [(x,y)]).bind fun b=>eH {s with b:=b}
theorem abw{b:List ah}(ad:ei b){x y:T}(ab:x.fit=true)(aB:y.fit=true):bR aA 43 [.slice 5 .no (b.map ah.e),x.e,y.e] (ft (mgu b [(x,y)])):=by have c5:=p1 ad;have aS:=Ag ab;have bh:=Ag aB;have key:=abT b [x] [y] rfl ad.sol ad.fits ad.ok Ψ (by simp only[T.fit,cv]at ab;simpa using ab.1) (by simp only[T.fit,cv]at aB;simpa using aB.1);simp only[hc,nS,List.zip_cons_cons,List.zip_nil_left]at key;unfold ft at key⊢;generalize mgu b [(x,y)]=O at key;refine br fO Tryz.func43 al2 fun aR=>?_;unfold Sd;exact cu
theorem vW(S:aM->Prop)(l:List (List ah))(d:List ah):aP S (l.map cF++[cF d])=True:=uL S l d
theorem abz{x:List ah}(h:x.length<=1000000):bR aA 91 [cF x] (cF x):=FV x h
theorem QA(s:bd)(ad:s.b.length<=1000000)(aD:∀x∈s.d,x.length<=1000000)(ae:s.k.length<=1000000)(hm:s.m.length<=68719470000):bR aA 41 [s.e] s.e:=by
 obtain⟨n,b,d,k,m⟩:=s;simp only[bd.e]at ad aD ae hm⊢;have js:=FV b ad;refine br fO Tryz.func41 YO fun aR=>?_;unfold La;have ik:d.length<=68719476736:=by simp[gO,gj,gE,lim]at aR;omega
 clear aR;simp;(with_reducible repeat' first|refine ak ?_|refine aF js ?_|refine aG js ?_|simp);refine hH (fun i (L:List (List ah))=>⟨[(1,.ptr (.loc 0) 0),(2,.ptr (.loc 1) 0),(3,.ptr (.loc 5) 0),(14,.slice 1 .no (d.map cF)),(15,.int .i64 d.length),(16,.int .i64 i)],[(.loc 0,[.int .i64 n,.slice 5 .no (b.map ah.e),.slice 1 .no (d.map cF),.slice 2 .no (k.map bV.e),.slice 2 .no (m.map bn.e)]),(.loc 1,[.int .i64 0,.slice 5 .nil [],.slice 1 .nil [],.slice 2 .nil [],.slice 2 .nil []]),(.loc 5,[.int .i64 n,.slice 5 .no (b.map ah.e),.slice 1 (.own (.loc 13)) (L.map cF),.slice 2 .nil [],.slice 2 .nil []])],[(.loc 13,⟨L.length,23,1,none⟩)],41,[]⟩) d.length (fun i L=>L=d.take i) [] b0 Ψ (fun L ag _=>?_) (fun i L hi ag _=>?_)
 ·rw[lB]at ag;subst ag;simp;(with_reducible repeat' first|refine ak ?_|simp);all_goals first|(refine⟨by unfold lim;omega,?_⟩)|skip
  exact cu
 ·obtain⟨x,ab,c1⟩:=en hi;have uJ:=abz (aD x (ek ab));have aw:L.length<=i:=by rw[ag];simp;omega
  simp[hi,c1];(with_reducible repeat' first|refine ak ?_|refine aF uJ ?_|refine aG uJ ?_|simp[c1,hi]);all_goals first|(refine⟨by unfold lim;omega,?_⟩)|skip
  (with_reducible repeat' first|refine ak ?_|simp);refine bS.rng (L++[x]) hi (by rw[lT ab,ag]) ?_;simp;exact⟨by simp[fresh,aP,aK,cq,inObs,Pv.look,vW],et (by simp[fresh,aP,aK,cq,inObs,Pv.look,vW]),eu (by simp[fresh,aP,aK,ee,inObs,Pv.look,vW]),Ψ⟩
theorem T.fit_ok{x:T}(h:x.fit=true):x.ok=true:=by simp only[T.fit,cv]at h;exact h.1
theorem gz.bind{s:bd}(h:gz s){x y:T}(ab:x.fit=true)(aB:y.fit=true)(bx:dy s.n x=true)(fI:dy s.n y=true){b:List ah}(hm:mgu s.b [(x,y)]=some b):gz {s with b:=b}:=⟨h.n,h.b.mgu (by simp[T.fit_ok ab,T.fit_ok aB]) hm,h.d,h.k,h.m,Yb (fun v=>v<s.n) h.b.sol h.b.fits h.bb (fun e he=>by simp only[iG]at he;subst he;exact⟨qU.1 bx,qU.1 fI⟩) hm,h.db,h.kb,h.mb⟩
open Classical in
theorem abA{s:bd}(h:gi s)(hm:jN s.m){x y:T}(ab:x.fit=true)(aB:y.fit=true)(bx:dy s.n x=true)(fI:dy s.n y=true):bR aA 39 [s.e,.slice 4 .no [x.e,y.e]] (.bool true):=by have:=QC s.r (fun _=>hm) [x.tm,y.tm];rw[hd ⟨⟨s,rfl,h⟩,U2 ab aB bx fI⟩,u3]at this;simpa[mq]using this
theorem abk{s:bd}(h:gi s)(hm:jN s.m){x y:T}(ab:x.fit=true)(aB:y.fit=true)(bx:dy s.n x=true)(fI:dy s.n y=true):bR aA 17 [s.e,x.e,y.e] (ir (gW s x y)):=by
 have aS:=abA h hm ab aB bx fI;have bh:=abw h.1.b ab aB;have bX:=QA s h.1.b.len (fun z a8=>(h.1.d z a8).len) (by have:=o5 h.1.k;omega) (hm.len h.1.m);unfold gW;cases hu:mgu s.b [(x,y)]with
 |none=>rw[hu]at bh;clear h hu bX;obtain⟨n,b,d,k,m⟩:=s;simp only[bd.e,ft,ir,Option.bind_none,jy,je,gH]at aS bh⊢;refine br fO Tryz.func17 YJ fun aR=>?_;unfold K5;simp;((with_reducible repeat' first|refine ak ?_|refine aF aS ?_|refine aG aS ?_|refine aF bh ?_|refine aG bh ?_|simp|((first|apply bN|apply bP|apply bO)<;>intro h<;>try simp at h))<;>(try exact cf));all_goals simp[bz,aY,a6,aX]
 |some b3=>rw[hu]at bh;obtain⟨G,hI,aT⟩:=hm;have ed:=CR (h.1.bind ab aB bx fI hu) hI aT;rw[hE];generalize eH {s with b:=b3}=O at ed;clear h hu;obtain⟨n,b,d,k,m⟩:=s;simp only[bd.e,ft,ir]at aS bh bX ed⊢;refine br fO Tryz.func17 YJ fun aR=>?_;unfold K5;simp;(with_reducible repeat' first|refine ak ?_|refine aF aS ?_|refine aG aS ?_|refine aF bh ?_|refine aG bh ?_|refine aF bX ?_|refine aG bX ?_|refine aF ed ?_|refine aG ed ?_|simp);all_goals simp[bz,aY,a6,aX]
noncomputable def JM(s:bd)(x y:T):aj:=match mgu s.b [(x,y)]with
 |none=>.tuple [gH.e,.bool false]
 |some b=>qF {s with b:=b}
theorem aoZ(s:bd)(x y:T):∃t:bd,∃q:Bool,JM s x y= .tuple [t.e,.bool q]/\(q=true->gW s x y=some t)/\(q=false->gW s x y=none):=by
 unfold JM gW;cases mgu s.b [(x,y)]with
 |none=>exact⟨gH,false,rfl,(fun h=>by cases h),fun _=>rfl⟩
 |some b=>
  refine⟨_,_,rfl,(fun h=>?_),fun h=>?_⟩
  ·obtain⟨t,aC⟩:=fH.1 h;rw[JX aC];exact aC
  ·rw[hE];cases e:eH {s with b:=b}with
   |none=>rfl
   |some t=>rw[e]at h;cases h
theorem aqW{s:bd}(h:gz s)(hm:jN s.m){x y:T}(ab:x.fit=true)(aB:y.fit=true)(bx:dy s.n x=true)(fI:dy s.n y=true)(k0:Int)(tag:List UInt8):bR aA 49 [s.e,.int .i64 0,x.e,y.e,.int .i64 k0,.str tag] (JM s x y):=by
 have aS:=QF s.b x y h.b.sol h.b.fits;unfold JM;cases hu:mgu s.b [(x,y)]with
 |none=>rw[hu]at aS;clear h hu;obtain⟨n,b,d,k,m⟩:=s;simp only[bd.e,ft,gH]at aS⊢;refine br fO Tryz.func49 tp fun aR=>?_;unfold rF;exact cu
 |some b3=>rw[hu]at aS;obtain⟨G,hI,aT⟩:=hm;have bh:=CP (h.bind ab aB bx fI hu) hI aT;simp only[qF]at bh⊢;generalize tA {s with b:=b3}=t at bh;generalize (eH {s with b:=b3}).isSome=q at bh;clear h hu;obtain⟨n,b,d,k,m⟩:=s;obtain⟨qL,qI,qJ,qK,tm⟩:=t;simp only[bd.e,ft]at aS bh⊢;refine br fO Tryz.func49 tp fun aR=>?_;unfold rF;exact cu
theorem aqJ{x:List ah}(h:x.length<=1000000):bR aA 105 [cF x] (cF x):=abH x h
theorem aqT(t:List (List ah))(aC:∀x∈t,x.length<=1000000):bR aA 106 [.slice 1 .no (t.map cF)] (.slice 1 .no (t.map cF)):=by
 refine br fO Tryz.func106 anA fun aR=>?_;unfold TN;have ik:t.length<=68719476736:=by simp[gO,gj,gE,lim]at aR;omega
 clear aR;have dg:=fun x ab=>aqJ (aC x ab);simp;(with_reducible repeat' first|refine ak ?_|simp);refine hH (fun i (L:List (List ah))=>⟨[(7,.slice 1 .no (t.map cF)),(8,.int .i64 t.length),(3,.slice 1 (.own (.loc 0)) (L.map cF)),(9,.int .i64 i)],[],[(.loc 0,⟨L.length,23,1,none⟩)],1,[]⟩) t.length (fun i L=>L=t.take i) [] b0 Ψ (fun L ag _=>?_) (fun i L hi ag _=>?_)
 ·rw[lB]at ag;subst ag;exact cu
 ·obtain⟨x,ab,c1⟩:=en hi;have uJ:=dg x (ek ab);have aw:L.length<=i:=by rw[ag];simp;omega
  clear dg;simp[hi,c1];(with_reducible repeat' first|refine ak ?_|refine aF uJ ?_|refine aG uJ ?_|simp[c1,hi]);all_goals first|(refine⟨by unfold lim;omega,?_⟩)|skip
  all_goals(with_reducible repeat' first|refine ak ?_|simp)
  all_goals refine bS.rng (L++[x]) hi (by rw[lT ab,ag]) ?_
  all_goals simp
  all_goals exact⟨by simp[fresh,aP,aK,cq,inObs,Pv.look,vW],et (by simp[fresh,aP,aK,cq,inObs,Pv.look,vW]),eu (by simp[fresh,aP,aK,ee,inObs,Pv.look,vW]),Ψ⟩
theorem aq1(s:bd)(ad:s.b.length<=1000000)(aD:∀x∈s.d,x.length<=1000000)(ae:s.k.length<=1000000)(hm:s.m.length<=68719470000):bR aA 51 [s.e] s.e:=by
 have aS:=abH s.b ad;have bh:=aqT s.d aD;obtain⟨n,b,d,k,m⟩:=s;simp only[bd.e]at aS bh ae hm⊢;refine br fO Tryz.func51 anE fun aR=>?_;unfold TR;simp;(with_reducible repeat' first|refine ak ?_|refine aF aS ?_|refine aG aS ?_|refine aF bh ?_|refine aG bh ?_|simp);all_goals first|(refine⟨by unfold lim;omega,?_⟩)|skip
 exact cu
theorem yG{s t:bd}(h:gz s){x y:T}(ab:x.fit=true)(aB:y.fit=true)(bx:dy s.n x=true)(fI:dy s.n y=true)(he:gW s x y=some t):gi t:=by unfold gW at he;obtain⟨b,I,U⟩:=hr.1 he;exact(tB (h.bind ab aB bx fI I) U).1
theorem apu{s t:bd}(hm:jN s.m)(he:eH s=some t):jN t.m:=by
 obtain⟨G,hI,aT⟩:=hm;refine⟨G,hI,?_⟩;have:=JX he;unfold eH at he;split at he
 ·cases he
 ·split at he
  ·cases he
  ·rename_i m e;split at he
   ·cases he
   ·split at he
    ·have U:=Fo aT (fun x ab=>by simp at ab) e;have ao:=eV he;rw[<-ao];exact J7 U
    ·cases he
theorem adQ{s t:bd}(hm:jN s.m){x y:T}(he:gW s x y=some t):jN t.m:=by unfold gW at he;obtain⟨b,I,U⟩:=hr.1 he;exact apu (s:={s with b:=b}) hm U
def B2(s:List ah):Option (List ah)->List ah
 |none=>[]
 |some b=>dx s b
open Classical in
noncomputable def w5(s:List ah):Option (List ah)->Int
 |none=>1
 |some b=>if dx s b=[]then 2 else 0
noncomputable def jT(s:bd)(x y:T):Option bd:=match mgu s.b [(x,y)]with
 |none=>eH s
 |some b=>if dx s.b b=[]then none else eH {s with d:=s.d++[dx s.b b]}
theorem EU{s b:List ah}(af:ei s){E:List (T×T)}(hm:mgu s E=some b):dx s b=[]↔s=b:=by
 constructor
 ·intro h;have I:=ER af.sol af.fits hm;rw[h,show e0 []=[]from rfl,ES af.sol af.fits]at I;exact eV I
 ·rintro rfl;unfold dx;rw[List.filter_eq_nil_iff];intro c aq;rw[oP af.sol.asc aq];simp
theorem gz.dif{s:bd}(h:gz s){x y:T}(ab:x.fit=true)(aB:y.fit=true)(bx:dy s.n x=true)(fI:dy s.n y=true){b:List ah}(hm:mgu s.b [(x,y)]=some b):gz {s with d:=s.d++[dx s.b b]}:=by
 have ad:=h.bind ab aB bx fI hm;refine⟨h.n,h.b,fun z a8=>?_,h.k,h.m,h.bb,fun z a8=>?_,h.kb,h.mb⟩
 ·rcases h3.1 a8 with a8|a8
  ·exact h.d z a8
  ·rw[iG.1 a8];exact EV ad.b
 ·rcases h3.1 a8 with a8|a8
  ·exact h.db z a8
  ·rw[iG.1 a8];exact fun c aq=>ad.bb c (hD.1 aq).1
theorem Uk{s t:bd}(h:gz s){x y:T}(ab:x.fit=true)(aB:y.fit=true)(bx:dy s.n x=true)(fI:dy s.n y=true)(he:jT s x y=some t):gi t:=by
 unfold jT at he;cases hm:mgu s.b [(x,y)]with
 |none=>rw[hm]at he;exact(tB h he).1
 |some b=>
  rw[hm]at he;simp only at he;split at he
  ·cases he
  ·exact(tB (h.dif ab aB bx fI hm) he).1
theorem aaC{s t:bd}(he:eH s=some t):t.d.length<=30:=by
 unfold eH at he;split at he
 ·cases he
 split at he
 ·cases he
 split at he
 ·cases he
 split at he
 ·rename_i h;have:=eV he;rw[<-this];exact h
 ·cases he
open Classical in
noncomputable def Gc(r:k5)(a b:bZ):Bool:=decide (∃s x y,r=s.r/\gi s/\vw s.n [a,b]/\a=T.tm x/\b=T.tm y/\jT s x y=none)
open Classical in
theorem acm{r:k5}{a b:bZ}(h:¬(oF r/\vw r.n [a,b])):Gc r a b=false:=jf fun⟨s,_,_,I,U,ao,_⟩=>h ⟨⟨s,I,U⟩,by rw[I];exact ao⟩
open Classical in
theorem Q9{s:bd}(h:gi s){x y:T}(aO:vw s.n [x.tm,y.tm]):Gc s.r x.tm y.tm=(jT s x y).isNone:=by unfold Gc;rw[adz,Option.isNone_iff_eq_none];refine⟨fun⟨ai,QY,QZ,I,_,_,a7,b8,c6⟩=>?_,fun b4=>⟨s,x,y,rfl,h,aO,rfl,rfl,b4⟩⟩;rw[bd.r_inj I,FP a7,FP b8];exact c6
open Classical in
noncomputable def o6(s:bd)(t:T)(k:Int):Option bd:=if(k=2\/k=3)/\(t.ap (aV s.b)).size<=5000 then(gU s.k (t.ap (aV s.b)) k).bind fun l=>eH {s with k:=l}else none
open Classical in
noncomputable def o8(s:bd)(t:T)(g:List UInt8):Option bd:=if(t.ap (aV s.b)).size<=5000 then(hv s.m (t.ap (aV s.b)) g).bind fun l=>eH {s with m:=l}else none
def wP(m:List bn):Prop:= ∃G:List (List UInt8),G.length<=686999/\lv G m
theorem wP.w{m:List bn}(h:wP m):jN m:=by obtain⟨G,I,U⟩:=h;exact⟨G,Ω,U⟩
theorem gz.apb{s:bd}(h:gz s){t:T}(vo:dy s.n t=true){w:Int}(hw:(t.ap (aV s.b)).occ w=true):w<s.n:=by obtain⟨v,I,U⟩:=B5.1 hw;exact NN h.b h.bb (qU.1 vo v I) U
theorem gz.apo{s:bd}(h:gz s){t:T}(aC:t.fit=true):(t.ap (aV s.b)).ok=true:=FG h.b.ok (T.fit_ok aC)
theorem gz.knd{s:bd}(h:gz s){t:T}(aC:t.fit=true)(vo:dy s.n t=true){k:Int}(ae:k=2\/k=3){l:List bV}(he:gU s.k (t.ap (aV s.b)) k=some l):gz {s with k:=l}:=⟨h.n,h.b,h.d,Gq h.k (h.apo aC) ae he,h.m,h.bb,h.db,fun x ab=>(KJ he x ab).elim (h.kb x) fun e=>h.apb vo (by rw[e];simp[T.occ]),h.mb⟩
theorem gz.mrk{s:bd}(h:gz s){t:T}(aC:t.fit=true)(vo:dy s.n t=true){g:List UInt8}(aT:iB g=true){l:List bn}(he:hv s.m (t.ap (aV s.b)) g=some l):gz {s with m:=l}:=⟨h.n,h.b,h.d,h.k,Gr h.m (h.apo aC) aT he,h.bb,h.db,h.kb,fun x ab=>((th he x).1 ab).elim (h.mb x) fun e=>h.apb vo e.2⟩
theorem wP.mrk{m l:List bn}(h:wP m){t:T}{g:List UInt8}(he:hv m t g=some l):jN l:=by obtain⟨G,I,U⟩:=h;exact⟨g::G,by simp only[mM];omega,C5 (fun x ab=>mh _ (U x ab)) Ψ he⟩
theorem XE{s u:bd}(h:gz s){t:T}(aC:t.fit=true)(vo:dy s.n t=true){k:Int}(he:o6 s t k=some u):gi u:=by
 unfold o6 at he;split at he
 ·rename_i g;obtain⟨l,I,U⟩:=hr.1 he;exact(tB (h.knd aC vo g.1 I) U).1
 ·cases he
theorem Yq{s u:bd}(h:gz s){t:T}(aC:t.fit=true)(vo:dy s.n t=true){g:List UInt8}(aT:iB g=true)(he:o8 s t g=some u):gi u:=by
 unfold o8 at he;split at he
 ·obtain⟨l,I,U⟩:=hr.1 he;exact(tB (h.mrk aC vo aT I) U).1
 ·cases he
structure apr (s:bd):Prop where
 k:e3 s.b s.k []=some s.k
 m:eS s.b s.m []=some s.m
 f:s.m.filter (hp s.k)=s.m
 l:eF s.b s.k s.m s.d=some s.d
 st:∀d∈s.d,x7 s.b s.k s.m d
 n:iN s.d=s.d
 c:s.d.length<=30
theorem gi.self{s:bd}(h:gi s):apr s:=by
 have aq:=aaC h.2;have I:=h.2;unfold eH at I;split at I
 ·cases I
 rename_i k ae;split at I
 ·cases I
 rename_i m hm;split at I
 ·cases I
 rename_i L e1;split at I;rotate_left
 ·cases I
 have I:=eV I;have mx:k=s.k:=eW bd.k I;have MX:m.filter (hp k)=s.m:=eW bd.m I;have kD:iN L=s.d:=eW bd.d I;subst mx;have m1:=Fm h.1.b h.1.m.at' ⟨Ψ,by simp[hG]⟩ hm;have aE:eS s.b (m.filter (hp s.k)) []=some (m.filter (hp s.k)):=JC (acc:=[]) (Ku _ m1.asc) fun x ab=>zQ h.1.b.sol Ψ hm x (hD.1 ab).1;rw[MX]at aE e1;have zc:m=s.m:=by rw[hm]at aE;exact eV aE
 rw[zc]at MX;have da:=EG h.1.b e1;have af:∀d∈s.d,x7 s.b s.k s.m d:=fun d aD=>da d (r2.1 (by rw[kD];exact aD)).1;exact⟨ae,aE,MX,N2 af,af,by rw[<-kD,Yg],aq⟩
theorem EF{b:List ah}{k:List bV}{m:List bn}:∀{l L:List (List ah)},eF b k m l=some L->L.length<=l.length
 |[],L,h=>by simp only[eF,dD]at h;rw[<-h];simp
 |d::l,L,h=>by
  simp only[eF]at h;split at h
  ·have:=EF h;simp only[mM];omega
  ·split at h
   ·have:=EF h;simp only[mM];omega
   ·split at h
    ·cases h
    ·rw[gB]at h;obtain⟨tQ,I,rfl⟩:=h;have:=EF I;simp only[mM];omega
def _root_.Go.Pv.T.gnd:T->Bool
 | .var _=>false
 | .pair a b=>a.gnd&&b.gnd
 |_=>true
structure kk (n:Int) (v:List ah):Prop where
 ok:k2 v
 asc:gD v
 fits:fT v
 len:(v.length:Int)=n
 at':∀(i:Nat) b,v[i]? =some b->b.v=(i:Int)
 gnd:∀b∈v,b.t.gnd=true
theorem kk.get{n:Int}{v:List ah}(h:kk n v){w:Int}(bB:0<=w)(I:w<n):∃b:ah,v[w.toNat]? =some b/\cO v w=some b.t/\aV v w=b.t:=by
 have aw:=h.len;have hi:w.toNat<v.length:=Ω
 have e:=cm hi;have aE:=h.at' _ _ e;have bA:=oP h.asc (List.getElem_mem hi);rw[aE,Int.toNat_of_nonneg bB]at bA;exact⟨_,e,bA,by rw[aV,bA];rfl⟩
theorem z6{v:List ah}(h:fT v)(w:Int):(aV v w).size<=5000:=by
 unfold aV;cases e:cO v w with
 |none=>simp[T.size]
 |some x=>exact h.2 _ (iX e)
theorem k2.fit{v:List ah}(h:k2 v)(aO:fT v):w7 v:=fun b ad=>by simp[T.fit,(h b ad).2,aO.2 b ad]
def uA(v:List ah)(b:ah):Bool:=decide ((b.t.ap (aV v)).size<=5000)&& !decide (aV v b.v=b.t.ap (aV v))
def pB(v:List ah)(d:List ah):Bool:=d.any (uA v)
def r3(v:List ah)(b:ah):Bool:=decide ((b.t.ap (aV v)).size<=5000)&&decide (b.t.ap (aV v)=aV v b.v)
structure oE (s:bd) (v:List ah):Prop where
 b:s.b.all (r3 v)=true
 d:s.d.all (pB v)=true
 k:s.k.all (fun k=>decide ((aV v k.v).kind=k.k))=true
 m:s.m.all (fun m=> !(aV v m.v).has m.s)=true
def Ev(s:bd)(l:List dS):Prop:= ∃v:List ah,l=v.map ah.b/\kk s.n v/\oE s v
def Iu(v:List ah)(i:Nat)(_:Unit):Prop:= ∀k b,k<i->v[k]? =some b->b.v=(k:Int)/\b.t.gnd=true
theorem Iu.step{v:List ah}{i:Nat}(h:Iu v i ()){b:ah}(ad:v[i]? =some b)(bG:b.v=(i:Int)/\b.t.gnd=true):Iu v (i+1) ():=fun k c ae aq=>by
 rcases Nat.lt_or_ge k i with I|I
 ·exact h k c I aq
 ·have:k=i:=Ω
  subst this;rw[ad]at aq;cases aq;exact bG
def Eu(t:T):Prop:=(∃k,t= .num k)\/ ∃s,t= .sym s
theorem Eu.size{t:T}(h:Eu t):t.size=1:=by rcases h with⟨k,rfl⟩|⟨s,rfl⟩<;>rfl
theorem Eu.gnd{t:T}(h:Eu t):t.gnd=true:=by rcases h with⟨k,rfl⟩|⟨s,rfl⟩<;>rfl
structure ab1 (s:bd) (f:Int->T):Prop where
 a:∀v,Eu (f v)
 ok:∀v,(f v).ok=true
 inj:∀u v,0<=u->u<s.n->0<=v->v<s.n->cO s.b u=none->cO s.b v=none->f u=f v->u=v
 d:∀d∈s.d,∀c∈d,∀v,c.t≠f v
 k:∀k∈s.k,(f k.v).kind=k.k
 m:∀m∈s.m,(f m.v).has m.s=false
theorem Gv{f:Int->T}(aO:∀v,(f v).size=1):∀t:T,(t.ap f).size=t.size
 | .var n=>by simp[T.ap,T.size,aO]
 | .pair a b=>by simp[T.ap,T.size,Gv aO a,Gv aO b]
 | .nil=>rfl
 | .sym _=>rfl
 | .num _=>rfl
theorem KS{f:Int->T}(aO:∀v,(f v).gnd=true):∀t:T,(t.ap f).gnd=true
 | .var n=>aO n
 | .pair a b=>by simp[T.ap,T.gnd,KS aO a,KS aO b]
 | .nil=>rfl
 | .sym _=>rfl
 | .num _=>rfl
theorem YS{t:T}(aC:t.ok=true){v:Int}(az:t.occ v=true):0<=v:=by
 induction t with
 |var n=>simp only[T.ok,T.occ,eA,dO]at aC az;omega
 |pair a b dQ dR=>simp only[T.ok,T.occ,cv,mg]at aC az;exact az.elim (dQ aC.1) (dR aC.2)
 |_=>simp[T.occ]at az
theorem arx{s:bd}(h:gi s){f:Int->T}(aO:ab1 s f)(att:s.n<=400){w:List ah}(aw:(w.length:Int)=s.n)(hw:∀(i:Nat) b,w[i]? =some b->b.v=(i:Int)/\b.t=(aV s.b i).ap f):kk s.n w/\oE s w:=by
 have c9:=h.self;have I:=fun v=>(aO.a v).size;have dY:=Gv I;have HM:=KS fun v=>(aO.a v).gnd;have kF:∀v,(aV s.b v).size<=5000:=fun v=>z6 h.1.b.fits v;have h0:∀b∈w,∃i:Nat,w[i]? =some b/\(i:Int)<s.n:=fun b ad=>by obtain⟨i,hi⟩:=List.mem_iff_getElem?.1 ad;have:=(fG.1 hi).1;exact⟨i,hi,Ω⟩
 have az:kk s.n w:=by
  refine⟨fun b ad=>?_,?_,⟨Ω,fun b ad=>?_⟩,aw,fun i b hi=>(hw i b hi).1,fun b ad=>?_⟩
  ·obtain⟨i,hi,gZ⟩:=h0 b ad;obtain⟨ar,aE⟩:=hw i b hi;have:=h.1.n;refine⟨Ω,?_⟩;rw[aE];exact KU (z1 h.1.b ⟨Ω,Ω⟩) fun v _=>aO.ok v
  ·refine p6.2 fun i j hi ag mv=>?_;rw[(hw i _ (cm hi)).1,(hw j _ (cm ag)).1];omega
  ·obtain⟨i,hi,_⟩:=h0 b ad;rw[(hw i b hi).2,dY];exact kF _
  ·obtain⟨i,hi,_⟩:=h0 b ad;rw[(hw i b hi).2];exact HM _
 have H9:∀v,0<=v->v<s.n->aV w v=(aV s.b v).ap f:=fun v bB U=>by obtain⟨c,aq,_,e⟩:=az.get bB U;have:=(hw _ c aq).2;rw[Int.toNat_of_nonneg bB]at this;rw[e,this]
 have q1:∀v,0<=v->v<s.n->cO s.b v=none->aV w v=f v:=fun v bB U ao=>by
  rw[H9 v bB U];have:aV s.b v= .var v:=by unfold aV;rw[ao];rfl
  rw[this];rfl
 have Wu:∀{t:T},t.ok=true->∀v,t.occ v=true->0<=v:=fun{t} aC v az=>(YS aC az);refine⟨az,⟨?_,?_,?_,?_⟩⟩
 ·rw[fi];intro c aq;have ME:=h.1.bb c aq;have DV:=h.1.b.ok c aq;have ar:c.t.ap (aV w)=c.t.ap f:=mP fun u hu=>q1 u (Wu DV.2 u hu) (ME.2 u hu) (h.1.b.sol.free c aq u hu);have aE:aV s.b c.v=c.t:=by unfold aV;rw[oP h.1.b.sol.asc aq];rfl
  rw[r3,ar,H9 c.v DV.1.1 ME.1,aE,hd rfl,Bool.and_true,eA,dY];exact h.1.b.fits.2 c aq
 ·rw[fi];intro d aD;obtain⟨x,aW,_,bM,cL⟩:=c9.st d aD;obtain⟨c,aq⟩:=List.exists_mem_of_ne_nil d cL;have ks:=aq;rw[<-bM]at ks;obtain⟨bY,cB⟩:=hD.1 ks;have cB:cO s.b c.v=none:=by simpa using cB
  have gp:=(pU h.1.b.sol h.1.b.fits aW).1;have LB:∀{v},cO x v=none->cO s.b v=none:=fun b4=>IY h.1.b.sol gp (fun θ fl=>((lO h.1.b.sol h.1.b.fits aW θ).1 fl).1) b4;have MG:=h.1.db d aD c aq;have MI:=(h.1.d d aD).ok c aq;have q5:∀u,c.t.occ u=true->0<=u/\u<s.n/\cO s.b u=none:=fun u hu=>⟨Wu MI.2 u hu,MG.2 u hu,LB (gp.free c bY u hu)⟩;have ar:c.t.ap (aV w)=c.t.ap f:=mP fun u hu=>q1 u (q5 u hu).1 (q5 u hu).2.1 (q5 u hu).2.2;have aE:=q1 c.v MI.1.1 MG.1 cB;rw[pB,List.any_eq_true];refine⟨c,aq,?_⟩;rw[uA,ar,aE,dY,hd ((h.1.d d aD).fits.2 c aq),Bool.true_and,oJ,gJ];intro e;have cG:=aO.d d aD c aq c.v;cases aC:c.t with
  |var u=>rw[aC]at e q5;have hu:=q5 u (by simp[T.occ]);have:u=c.v:=aO.inj u c.v hu.1 hu.2.1 MI.1.1 MG.1 hu.2.2 cB (by rw[e];rfl);have:=gp.ori c bY u aC;omega
  |pair a b=>rw[aC]at e;rcases aO.a c.v with⟨k,bA⟩|⟨k,bA⟩<;>(rw[bA]at e;simp[T.ap]at e)
  |nil=>rw[aC]at e;rcases aO.a c.v with⟨k,bA⟩|⟨k,bA⟩<;>(rw[bA]at e;simp[T.ap]at e)
  |sym _=>rw[aC]at e cG;exact cG (by rw[e];rfl)
  |num _=>rw[aC]at e cG;exact cG (by rw[e];rfl)
 ·rw[fi];intro k ae;have:=Fl h.1.b.sol Ψ c9.k k ae;rw[q1 k.v (h.1.k.at' k ae).1.1 (h.1.kb k ae) this,aO.k k ae];simp
 ·rw[fi];intro m hm;have:=zQ h.1.b.sol Ψ c9.m m hm;rw[q1 m.v (h.1.m.at' m hm).1.1 (h.1.mb m hm) this,aO.m m hm];rfl
theorem IW{s:List ah}(af:eQ s)(aO:fT s)(E mN:List (T×T)):mgu s (E++mN)=(mgu s E).bind fun s1=>mgu s1 mN:=by
 have I:=wi af aO E;cases h:mgu s E with
 |none=>rw[h]at I;exact qz (Gp mN I)
 |some s1=>rw[h]at I;exact qz (KH I (wi I.1.1 I.1.2 mN))
def fb:T->Nat
 | .pair a b=>fb a+fb b
 |_=>1
theorem XS:∀t:T,1<=fb t
 | .pair a b=>by have:=XS a;simp only[fb];omega
 | .var _=>eo _
 | .nil=>eo _
 | .sym _=>eo _
 | .num _=>eo _
theorem EL:∀t:T,t.size+1=2*fb t
 | .pair a b=>by have:=EL a;have:=EL b;simp only[fb,T.size];omega
 | .var _=>rfl
 | .nil=>rfl
 | .sym _=>rfl
 | .num _=>rfl
theorem EK{θ:Int->T}{m:Nat}(hm:1<=m):∀{t:T},(∀u,t.occ u=true->fb (θ u)<=m)->fb (t.ap θ)<=fb t*m
 | .var n,h=>by simpa[T.ap,fb]using h n (by simp[T.occ])
 | .pair a b,h=>by have I:=EK hm (t:=a) fun u hu=>h u (by simp[T.occ,hu]);have U:=EK hm (t:=b) fun u hu=>h u (by simp[T.occ,hu]);simp only[T.ap,fb,p8];omega
 | .nil,_=>by simpa[T.ap,fb]using hm
 | .sym _,_=>by simpa[T.ap,fb]using hm
 | .num _,_=>by simpa[T.ap,fb]using hm
theorem alL{θ:Int->T}{t:T}{u:Int}(h:t.occ u=true):fb (θ u)<=fb (t.ap θ)/\(t.kind≠1->fb (θ u)<fb (t.ap θ)):=by have:=zC θ h;have I:=EL (θ u);have U:=EL (t.ap θ);exact⟨Ω,fun ao=>by have:=this.2 ao;omega⟩
def l9:T->List T
 | .pair a b=>.pair a b::(l9 a++l9 b)
 |t=>[t]
theorem Jg(t:T):t∈l9 t:=by cases t<;>simp[l9]
theorem Je{x:T}:∀{t:T},x∈l9 t->fb x<=fb t
 | .pair a b,h=>by
  simp only[l9,eU,h3]at h;rcases h with rfl|h|h
  ·exact eo _
  ·have:=Je h;simp only[fb];omega
  ·have:=Je h;simp only[fb];omega
 | .var _,h=>by simp only[l9,iG]at h;rw[h];exact eo _
 | .nil,h=>by simp only[l9,iG]at h;rw[h];exact eo _
 | .sym _,h=>by simp only[l9,iG]at h;rw[h];exact eo _
 | .num _,h=>by simp only[l9,iG]at h;rw[h];exact eo _
theorem Jf{x:T}{v:Int}(ab:x.occ v=true):∀{t:T},x∈l9 t->t.occ v=true
 | .pair a b,h=>by
  simp only[l9,eU,h3]at h;rcases h with rfl|h|h
  ·exact ab
  ·simp[T.occ,Jf ab h]
  ·simp[T.occ,Jf ab h]
 | .var _,h=>by simp only[l9,iG]at h;rw[<-h];exact ab
 | .nil,h=>by simp only[l9,iG]at h;rw[<-h];exact ab
 | .sym _,h=>by simp only[l9,iG]at h;rw[<-h];exact ab
 | .num _,h=>by simp only[l9,iG]at h;rw[<-h];exact ab
def r8(x:T)(z:Int):T->T
 | .pair a b=>if T.pair a b=x then .var z else .pair (r8 x z a) (r8 x z b)
 |t=>if t=x then .var z else t
theorem ao7(x:T)(z:Int):r8 x z x= .var z:=by cases x<;>simp[r8]
theorem JT{θ:Int->T}{x:T}{z:Int}:∀{t:T},(∀y∈l9 t,y.kind≠1->y.ap θ≠x)->r8 x z (t.ap θ)=t.ap fun u=>r8 x z (θ u)
 | .var n,_=>rfl
 | .pair a b,h=>by have bB:=h (.pair a b) (Jg _) (by simp[T.kind]);simp only[T.ap]at bB⊢;simp only[r8,if_neg bB];rw[JT (t:=a) fun y aB=>h y (by simp[l9,aB]),JT (t:=b) fun y aB=>h y (by simp[l9,aB])]
 | .nil,h=>by have bB:=h .nil (Jg _) (by simp[T.kind]);simp only[T.ap]at bB⊢;simp[r8,bB]
 | .sym s,h=>by have bB:=h (.sym s) (Jg _) (by simp[T.kind]);simp only[T.ap]at bB⊢;simp[r8,bB]
 | .num s,h=>by have bB:=h (.num s) (Jg _) (by simp[T.kind]);simp only[T.ap]at bB⊢;simp[r8,bB]
theorem KT{θ:Int->T}{t:T}(h:t.kind≠1):(t.ap θ).kind=t.kind:=by cases t<;>simp_all[T.ap,T.kind]
theorem alp{b:List ah}{E:List (T×T)}(ad:eQ b)(h:∀θ,df b θ↔iu E θ){v:Int}(az:(aV b v).kind≠1):∃e∈E,∃y,(y∈l9 e.1\/y∈l9 e.2)/\y.kind≠1/\y.ap (aV b)=aV b v:=by
 refine Classical.byContradiction fun cW=>?_;have I:iu E fun u=>r8 (aV b v) 0 (aV b u):=fun e he=>by have pC:=(h (aV b)).1 (u2 ad) e he;have aW:=JT (θ:=aV b) (x:=aV b v) (z:=0) (t:=e.1) fun y aB ae ha=>cW ⟨e,he,y,.inl aB,ae,ha⟩;have bj:=JT (θ:=aV b) (x:=aV b v) (z:=0) (t:=e.2) fun y aB ae ha=>cW ⟨e,he,y,.inr aB,ae,ha⟩;rw[<-aW,<-bj,pC]
 have U:=(Qa ad.asc).1 ((h _).2 I) v;simp only[ao7]at U;have ao:=KT (θ:=fun u=>r8 (aV b v) 0 (aV b u)) az;rw[<-U]at ao;exact az (by rw[<-ao];rfl)
theorem Mb{V:List Int}(gX:V.Nodup){p q:Int->Bool}(kc:∀w,p w=true->q w=true){u:Int}(hu:u∈V)(bs:q u=true)(bG:p u=false):(V.filter p).length+1<=(V.filter q).length:=by
 have I:(u::V.filter p).Nodup:=List.nodup_cons.2 ⟨fun h=>(by rw[(hD.1 h).2]at bG;cases bG),gX.filter p⟩;refine Gb I fun w hw=>?_;rcases eU.1 hw with rfl|hw
 ·exact hD.2 ⟨hu,bs⟩
 ·exact hD.2 ⟨(hD.1 hw).1,kc w (hD.1 hw).2⟩
def Dd(b:List ah)(V:List Int):List Int:=V.filter fun w=>(aV b w).kind !=1
theorem aln{b:List ah}{E:List (T×T)}{V:List Int}{L:Nat}(ad:eQ b)(h:∀θ,df b θ↔iu E θ)(gX:V.Nodup)(c3:∀e∈E,∀v,(e.1.occ v=true\/e.2.occ v=true)->v∈V)(e1:∀e∈E,fb e.1<=L/\fb e.2<=L)(I:1<=L){v:Int}(az:v∈V):fb (aV b v)<=L ^ (Dd b V).length:=by
 have s5:∀v,(aV b v).kind=1->fb (aV b v)=1:=fun v ae=>by cases e:aV b v<;>simp_all[T.kind,fb]
 have key:∀n v,fb (aV b v)=n->(aV b v).kind≠1->fb (aV b v)<=L ^ ((V.filter fun w=>(aV b w).kind !=1&&decide (fb (aV b w)<fb (aV b v))).length+1):=fun n=>by
  induction n using qQ with
  |ind n bK=>
   intro v au ae;obtain⟨e,he,y,aB,ajU,WS⟩:=alp ad h ae;have s8:fb y<=L:=aB.elim (fun h=>hn (Je h) (e1 e he).1) fun h=>hn (Je h) (e1 e he).2;have hm:1<=L ^ (V.filter fun w=>(aV b w).kind !=1&&decide (fb (aV b w)<fb (aV b v))).length:=Nat.pow_pos I;have U:=EK (θ:=aV b) hm (t:=y) fun u hu=>by
    have ao:=(alL (θ:=aV b) hu).2 ajU;rw[WS]at ao;by_cases D5:(aV b u).kind=1
    ·rw[s5 u D5];exact hm
    have a7:=bK _ Ω u rfl D5;refine hn a7 (Nat.pow_le_pow_right I ?_);refine Mb gX (fun w hw=>?_) (u:=u) (c3 e he u (aB.imp (Jf hu) (Jf hu))) (by simp[D5,ao]) Ψ;simp only[cv,eA]at hw⊢;exact⟨hw.1,Ω⟩
   rw[WS]at U;rw[Nat.pow_succ,Nat.mul_comm];exact hn U (rr _ s8)
 by_cases ae:(aV b v).kind=1
 ·rw[s5 v ae];exact Nat.pow_pos I
 refine hn (key _ v rfl ae) (Nat.pow_le_pow_right I ?_);refine Mb gX (fun w hw=>?_) az (by simp[ae]) Ψ;simp only[cv]at hw;exact hw.1
def iT(θ:Int->T)(l:List bV):Prop:= ∀k∈l,(θ k.v).kind=k.k
def jR(θ:Int->T)(l:List bn):Prop:= ∀m∈l,(θ m.v).has m.s=false
def oM(θ:Int->T)(l:List (List ah)):Prop:= ∀d∈l,¬df d θ
structure iS (s:bd) (θ:Int->T):Prop where
 b:df s.b θ
 k:iT θ s.k
 m:jR θ s.m
 d:oM θ s.d
theorem Rk{θ:Int->T}{acc a:List bV}{t:T}{k:Int}(he:gU acc t k=some a):iT θ a↔iT θ acc/\(t.ap θ).kind=k:=by
 unfold gU at he;split at he
 ·rename_i n;split at he
  ·rename_i bJ ae;split at he
   ·rename_i e;cases he;subst e;exact⟨fun h=>⟨h,h _ (zp ae)⟩,fun h=>h.1⟩
   ·cases he
  ·cases he;constructor
   ·exact fun h=>⟨fun x ab=>h x (wh.2 (.inr ab)),h ⟨n,k⟩ (wh.2 (.inl rfl))⟩
   ·rintro⟨I,U⟩ x ab;rcases wh.1 ab with rfl|ab
    ·exact U
    ·exact I x ab
 ·rename_i aC;split at he
  ·rename_i e;cases he;refine⟨fun h=>⟨h,?_⟩,fun h=>h.1⟩;rw[KT fun I=>?_,e];cases t<;>simp_all[T.kind]
  ·cases he
theorem Rj{θ:Int->T}{acc:List bV}{t:T}{k:Int}(he:gU acc t k=none):¬(iT θ acc/\(t.ap θ).kind=k):=by
 rintro⟨I,U⟩;unfold gU at he;split at he
 ·split at he
  ·rename_i bJ ae;split at he
   ·cases he
   ·rename_i e;exact e ((I _ (zp ae)).symm.trans U)
  ·cases he
 ·rename_i aC;split at he
  ·cases he
  ·rename_i e;rw[KT fun I=>by cases t<;>simp_all[T.kind]]at U;exact e U
theorem FF{b:List ah}{θ:Int->T}(bk:gD b)(h:df b θ)(v:Int):(aV b v).ap θ=θ v:=((Qa bk).1 h v).symm
theorem Cu{b:List ah}{θ:Int->T}(bk:gD b)(h:df b θ):∀{l acc:List bV},match e3 b l acc with|some a=>iT θ a↔iT θ acc/\iT θ l|none=> ¬(iT θ acc/\iT θ l)
 |[],acc=>by simp[e3,iT]
 |x::l,acc=>by
  simp only[e3];have ab:iT θ (x::l)↔(θ x.v).kind=x.k/\iT θ l:=by simp[iT]
  rw[<-FF bk h x.v]at ab;cases e:gU acc (aV b x.v) x.k with
  |none=>simp only;rw[ab];exact fun h=>Rj e ⟨h.1,h.2.1⟩
  |some a=>
   have I:=Rk (θ:=θ) e;have U:=Cu bk h (l:=l) (acc:=a);simp only;rw[ab];split
   ·rename_i q eq;rw[eq]at U;simp only at U;rw[U,I,and_assoc]
   ·rename_i eq;rw[eq]at U;simp only at U;rw[I,and_assoc]at U;exact U
theorem HE{θ:Int->T}{s:List UInt8}:∀{t:T},(t.ap θ).has s=false↔t.has s=false/\∀u,t.occ u=true->(θ u).has s=false
 | .var n=>by simp[T.ap,T.has,T.occ]
 | .pair a b=>by simp only[T.ap,T.has,T.occ,Bool.or_eq_false_iff,mg,HE (t:=a),HE (t:=b)];exact⟨fun h=>⟨⟨h.1.1,h.2.1⟩,fun u hu=>hu.elim (h.1.2 u) (h.2.2 u)⟩,fun h=>⟨⟨h.1.1,fun u hu=>h.2 u (.inl hu)⟩,⟨h.1.2,fun u hu=>h.2 u (.inr hu)⟩⟩⟩
 | .nil=>by simp[T.ap,T.has,T.occ]
 | .sym _=>by simp[T.ap,T.occ]
 | .num _=>by simp[T.ap,T.has,T.occ]
theorem Rm{θ:Int->T}{acc a:List bn}{t:T}{s:List UInt8}(he:hv acc t s=some a):jR θ a↔jR θ acc/\(t.ap θ).has s=false:=by
 have hm:=th he;have aC:t.has s=false:=by
  unfold hv at he;split at he
  ·cases he
  ·rename_i h;simpa using h
 rw[HE];constructor
 ·intro h;exact⟨fun x ab=>h x ((hm x).2 (.inl ab)),aC,fun u hu=>h ⟨u,s⟩ ((hm _).2 (.inr ⟨rfl,hu⟩))⟩
 ·rintro⟨I,_,U⟩ x ab;rcases(hm x).1 ab with ao|⟨ao,a7⟩
  ·exact I x ao
  ·rw[ao];exact U _ a7
theorem Rl{θ:Int->T}{acc:List bn}{t:T}{s:List UInt8}(he:hv acc t s=none):¬(t.ap θ).has s=false:=by
 rw[HE];unfold hv at he;split at he
 ·rename_i h;rw[h];simp
 ·cases he
theorem Cv{b:List ah}{θ:Int->T}(bk:gD b)(h:df b θ):∀{l acc:List bn},match eS b l acc with|some a=>jR θ a↔jR θ acc/\jR θ l|none=> ¬(jR θ acc/\jR θ l)
 |[],acc=>by simp[eS,jR]
 |x::l,acc=>by
  simp only[eS];have ab:jR θ (x::l)↔(θ x.v).has x.s=false/\jR θ l:=by simp[jR]
  rw[<-FF bk h x.v]at ab;cases e:hv acc (aV b x.v) x.s with
  |none=>simp only;rw[ab];exact fun h=>Rl e h.2.1
  |some a=>
   have I:=Rm (θ:=θ) e;have U:=Cv bk h (l:=l) (acc:=a);simp only;rw[ab];split
   ·rename_i q eq;rw[eq]at U;simp only at U;rw[U,I,and_assoc]
   ·rename_i eq;rw[eq]at U;simp only at U;rw[I,and_assoc]at U;exact U
theorem N3{b:List ah}{θ:Int->T}(ad:ei b)(h:df b θ){k:List bV}{m:List bn}(ae:iT θ k)(hm:jR θ m):∀{l:List (List ah)},(∀d∈l,ei d)->(∀d∈l,mgu b (e0 d)=none->¬df d θ)->match eF b k m l with|some L=>oM θ L↔oM θ l|none=> ¬oM θ l
 |[],_,_=>by simp[eF,oM]
 |d::l,af,iK=>by
  have bK:=N3 ad h ae hm (l:=l) (fun e he=>af e (by simp[he])) fun e he=>iK e (by simp[he]);have ab:oM θ (d::l)↔ ¬df d θ/\oM θ l:=by simp[oM]
  have HI:∀e∈e0 d,e.1.ok=true/\e.2.ok=true:=fun e he=>by obtain⟨c,aq,rfl⟩:=hU.1 he;have:=(af d Ψ).ok c aq;exact⟨by simpa[T.ok]using this.1,this.2⟩
  have skip:¬df d θ->(match eF b k m l with|some L=>oM θ L↔oM θ (d::l)|none=> ¬oM θ (d::l)):=fun aD=>by
   rw[ab];split
   ·rename_i L e;rw[e]at bK;simp only at bK;rw[bK];exact⟨fun h=>⟨aD,h⟩,fun h=>h.2⟩
   ·rename_i e;rw[e]at bK;simp only at bK;exact fun h=>bK h.2
  simp only[eF];cases hu:mgu b (e0 d)with
  |none=>exact skip (iK d Ψ hu)
  |some x=>
   have gp:=ad.mgu HI hu;have iM:df d θ->df x θ:=fun aD=>(lO ad.sol ad.fits hu θ).2 ⟨h,u1.2 aD⟩;simp only;by_cases jq:e3 x k []=none\/eS x m []=none
   ·rw[if_pos jq];refine skip fun aD=>?_;rcases jq with e|e
    ·have:=Cu gp.sol.asc (iM aD) (l:=k) (acc:=[]);rw[e]at this;exact this ⟨by simp[iT],ae⟩
    ·have:=Cv gp.sol.asc (iM aD) (l:=m) (acc:=[]);rw[e]at this;exact this ⟨by simp[jR],hm⟩
   rw[if_neg jq];by_cases au:dx b x=[]
   ·rw[if_pos au];simp only;rw[ab];rintro⟨I,_⟩;have:b=x:=(EU ad hu).1 au;subst this;exact I (u1.1 ((lO ad.sol ad.fits hu θ).1 h).2)
   ·rw[if_neg au];have heq:df (dx b x) θ↔df d θ:=by have aW:=lO ad.sol ad.fits hu θ;have bj:=lO ad.sol ad.fits (ER ad.sol ad.fits hu) θ;rw[u1]at aW bj;exact⟨fun b4=>(aW.1 (bj.2 ⟨h,b4⟩)).2,fun b4=>(bj.1 (aW.2 ⟨h,b4⟩)).2⟩
    cases e:eF b k m l with
    |none=>rw[e]at bK;simp only[Option.map_none]at bK⊢;rw[ab];exact fun h=>bK h.2
    |some L=>
     rw[e]at bK;simp only[nT]at bK⊢;have o3:oM θ (dx b x::L)↔ ¬df (dx b x) θ/\oM θ L:=by simp[oM]
     rw[ab,o3,heq,bK]
theorem wj{d e:List ah}(he:eQ e):kN d e=true↔∀θ,df e θ->df d θ:=by
 constructor
 ·intro h θ fl c aq;have I:=of_decide_eq_true (fi.1 h c aq);rw[<-FF he.asc fl c.v,I,yz];exact mP fun u _=>FF he.asc fl u
 ·intro h;rw[kN,fi];intro c aq;rw[r1,eA];exact h (aV e) (u2 he) c aq
theorem agR{α:Type}{V:List α}(gX:V.Nodup){p q:α->Bool}(kc:∀w,p w=true->q w=true){u:α}(hu:u∈V)(bs:q u=true)(bG:p u=false):(V.filter p).length+1<=(V.filter q).length:=by
 have I:(u::V.filter p).Nodup:=List.nodup_cons.2 ⟨fun h=>(by rw[(hD.1 h).2]at bG;cases bG),gX.filter p⟩;refine Gb I fun w hw=>?_;rcases eU.1 hw with rfl|hw
 ·exact hD.2 ⟨hu,bs⟩
 ·exact hD.2 ⟨(hD.1 hw).1,kc w (hD.1 hw).2⟩
theorem Ow{L:List (List ah)}(af:∀d∈L,eQ d):∀(n:Nat) (e:List ah),e∈L->((asc eG L).filter fun d=>kN d e&& !decide (d=e)).length=n->∃d∈iN L,kN d e=true:=fun n=>by
 induction n using qQ with
 |ind n bK=>
  intro e he au;by_cases ae:ja L e=true
  ·exact⟨e,r2.2 ⟨he,ae⟩,(wj (af e he)).2 fun _ h=>h⟩
  obtain⟨d,aD,I⟩:∃d∈L,(decide (d=e)|| !kN d e)=false:=by simpa[ja]using ae
  rw[Bool.or_eq_false_iff]at I;have cG:d≠e:=of_decide_eq_false I.1;have aT:kN d e=true:=by simpa using I.2
  have MH:=(wj (af e he)).1 aT;have bD:=agR (V:=asc eG L) ((C7 lP L).nodup lP) (p:=fun z=>kN z d&& !decide (z=d)) (q:=fun z=>kN z e&& !decide (z=e)) (u:=d) (fun z a8=>by simp only[cv,oJ,gJ]at a8⊢;have Ii:=(wj (af d aD)).1 a8.1;refine⟨(wj (af e he)).2 fun θ h=>Ii θ (MH θ h),fun ajV=>cG ?_⟩;subst ajV;exact J4 (af d aD) (af z he) fun θ=>⟨Ii θ,MH θ⟩) ((Oi _ _).2 aD) (by simp[aT,cG]) Ψ
  obtain⟨z,a8,Ii⟩:=bK _ Ω d aD rfl;have atB:=(r2.1 a8).1;exact⟨z,a8,(wj (af e he)).2 fun θ h=>(wj (af d aD)).1 Ii θ (MH θ h)⟩
theorem Yh{L:List (List ah)}(af:∀d∈L,eQ d)(θ:Int->T):oM θ (iN L)↔oM θ L:=by
 constructor
 ·intro h e he kY;obtain⟨d,aD,aT⟩:=Ow af _ e he rfl;exact h d aD ((wj (af e he)).1 aT θ kY)
 ·exact fun h d aD=>h d (r2.1 aD).1
theorem IS{θ:Int->T}{k:List bV}{m:List bn}(ae:iT θ k):jR θ (m.filter (hp k))↔jR θ m:=by
 constructor
 ·intro h x ab;by_cases aO:hp k x=true
  ·exact h x (hD.2 ⟨ab,aO⟩)
  ·have ao:jb k x.v=some 3:=by simpa[hp]using aO
   have a7:=ae _ (zp ao);simp only at a7;cases e:θ x.v<;>simp_all[T.kind,T.has]
 ·exact fun h x ab=>h x (hD.1 ab).1
theorem FD{s t:bd}{θ:Int->T}(h:gz s)(iK:∀d∈s.d,df s.b θ->mgu s.b (e0 d)=none->¬df d θ)(he:eH s=some t):iS t θ↔iS s θ:=by
 unfold eH at he;split at he
 ·cases he
 rename_i k ae;split at he
 ·cases he
 rename_i m hm;split at he
 ·cases he
 rename_i L e1;split at he;rotate_left
 ·cases he
 cases he;have n5:∀d∈L,eQ d:=fun d aD=>(zv h.b h.d e1 d aD).sol;have aW:=fun ad=>Cu (θ:=θ) h.b.sol.asc ad (l:=s.k) (acc:=[]);have bj:=fun ad=>Cv (θ:=θ) h.b.sol.asc ad (l:=s.m) (acc:=[]);simp only[ae,hm]at aW bj;have bM:=fun ad ae hm=>N3 (θ:=θ) h.b ad (k:=k) (m:=m.filter (hp k)) ae hm h.d fun d aD=>iK d aD ad;simp only[e1]at bM;constructor
 ·rintro⟨I,U,ao,a7⟩;simp only at I U ao a7;exact⟨I,((aW I).1 U).2,((bj I).1 ((IS U).1 ao)).2,(bM I U ao).1 ((Yh n5 θ).1 a7)⟩
 ·rintro⟨I,U,ao,a7⟩;have aS:iT θ k:=(aW I).2 ⟨by simp[iT],U⟩;have m1:jR θ m:=(bj I).2 ⟨by simp[jR],ao⟩;have m2:=(IS aS).2 m1;exact⟨I,aS,m2,(Yh n5 θ).2 ((bM I aS m2).2 a7)⟩
theorem FA{s:bd}{θ:Int->T}(h:gz s)(aD:s.d.length<=30)(iK:∀d∈s.d,df s.b θ->mgu s.b (e0 d)=none->¬df d θ)(he:eH s=none):¬iS s θ:=by
 rintro⟨I,U,ao,a7⟩;have aW:=Cu (θ:=θ) h.b.sol.asc I (l:=s.k) (acc:=[]);have bj:=Cv (θ:=θ) h.b.sol.asc I (l:=s.m) (acc:=[]);unfold eH at he;split at he
 ·rename_i e;rw[e]at aW;exact aW ⟨by simp[iT],U⟩
 rename_i k ae;rw[ae]at aW;have aS:iT θ k:=aW.2 ⟨by simp[iT],U⟩;split at he
 ·rename_i e;rw[e]at bj;exact bj ⟨by simp[jR],ao⟩
 rename_i m hm;rw[hm]at bj;have m2:=(IS aS).2 (bj.2 ⟨by simp[jR],ao⟩);have bM:=N3 (θ:=θ) h.b I aS m2 h.d fun d aD=>iK d aD I;split at he
 ·rename_i e;rw[e]at bM;exact bM a7
 rename_i L e1;split at he
 ·cases he
 ·rename_i l4;have:=EF e1;have:=Yf L;omega
theorem Ht:∀{t:T},t.gnd=true->∀w,t.occ w=false
 | .var _,h=>by simp[T.gnd]at h
 | .pair a b,h=>by simp only[T.gnd,cv]at h;intro w;simp[T.occ,Ht h.1 w,Ht h.2 w]
 | .nil,_=>fun _=>rfl
 | .sym _,_=>fun _=>rfl
 | .num _,_=>fun _=>rfl
theorem ahN{t:T}(h:t.gnd=true)(θ:Int->T):t.ap θ=t:=Gu fun v az=>by rw[Ht h v]at az;cases az
def tb(n:Int)(t:T):Prop:= ∀u,t.occ u=true->0<=u/\u<n
theorem kk.solved{n:Int}{v:List ah}(az:kk n v):eQ v:=⟨az.asc,fun b ad w hw=>(by rw[Ht (az.gnd b ad) w]at hw;cases hw),fun b ad w hw=>(by have:=az.gnd b ad;rw[hw]at this;cases this)⟩
theorem kk.sol{n:Int}{v:List ah}(az:kk n v){θ:Int->T}(h:df v θ){u:Int}(bB:0<=u)(I:u<n):θ u=aV v u:=by obtain⟨c,aq,ar,aE⟩:=az.get bB I;have hm:=ek aq;have ao:=h c hm;have a7:=az.at' _ _ aq;rw[Int.toNat_of_nonneg bB]at a7;rw[<-a7,ao,ahN (az.gnd c hm),a7,aE]
theorem QO{n:Int}{v:List ah}(az:kk n v){b:List ah}{E:List (T×T)}(ad:eQ b)(aO:fT b)(mT:∀c∈b,(0<=c.v/\c.v<n)/\tb n c.t)(c3:∀e∈E,tb n e.1/\tb n e.2)(h:mgu b E=none)(af:df b (aV v)):¬iu E (aV v):=fun kY=>by
 have I:=wi ad aO E;rw[h]at I;refine I v az.solved (fun θ fl=>⟨fun c aq=>?_,fun e he=>?_⟩) az.fits
 ·obtain⟨⟨bF,a2⟩,a3⟩:=mT c aq;rw[az.sol fl bF a2,af c aq];exact mP fun u hu=>(az.sol fl (a3 u hu).1 (a3 u hu).2).symm
 ·rw[mP (t:=e.1) fun u hu=>az.sol fl ((c3 e he).1 u hu).1 ((c3 e he).1 u hu).2,mP (t:=e.2) fun u hu=>az.sol fl ((c3 e he).2 u hu).1 ((c3 e he).2 u hu).2];exact kY e he
theorem Er{n:Int}{t:T}(h:t.ok=true)(ad:wW t n):tb n t:=fun u hu=>⟨YS h hu,ad u hu⟩
theorem BE{n:Int}{l:List ah}(h:k2 l)(ad:nY l n):∀c∈l,(0<=c.v/\c.v<n)/\tb n c.t:=fun c aq=>⟨⟨(h c aq).1.1,(ad c aq).1⟩,Er (h c aq).2 (ad c aq).2⟩
theorem aj8{n:Int}{l:List ah}(h:k2 l)(ad:nY l n):∀e∈e0 l,tb n e.1/\tb n e.2:=fun e he=>by obtain⟨c,aq,rfl⟩:=hU.1 he;obtain⟨bF,a2⟩:=BE h ad c aq;exact⟨fun u hu=>by simp[T.occ]at hu;omega,a2⟩
theorem gz.none{s:bd}(h:gz s){v:List ah}(az:kk s.n v):∀d∈s.d,df s.b (aV v)->mgu s.b (e0 d)=none->¬df d (aV v):=fun d aD af hm jU=>QO az h.b.sol h.b.fits (BE h.b.ok h.bb) (aj8 (h.d d aD).ok (h.db d aD)) hm af (u1.2 jU)
def aaG(s:bd)(v:List ah):Prop:= ∀d∈s.d,∀c∈d,(c.t.ap (aV v)).size<=5000
theorem Ud{v d:List ah}(h:∀c∈d,(c.t.ap (aV v)).size<=5000):pB v d=true↔ ¬df d (aV v):=by
 rw[pB,List.any_eq_true];constructor
 ·rintro⟨c,aq,I⟩ af;simp only[uA,cv,oJ,gJ]at I;exact I.2 (af c aq)
 ·intro af;refine Classical.byContradiction fun cW=>af fun c aq=>Classical.byContradiction fun cG=>cW ⟨c,aq,?_⟩;simp only[uA,cv,oJ,gJ,eA];exact⟨h c aq,cG⟩
theorem apQ{s:bd}{v:List ah}(aO:fT v)(af:aaG s v):oE s v↔iS s (aV v):=by
 constructor
 ·rintro⟨I,U,ao,a7⟩;rw[fi]at I U ao a7;refine⟨fun c aq=>?_,fun k ae=>of_decide_eq_true (ao k ae),fun m hm=>by simpa using a7 m hm,fun d aD=>(Ud (af d aD)).1 (U d aD)⟩;have:=I c aq;simp only[r3,cv,eA]at this;exact this.2.symm
 ·rintro⟨I,U,ao,a7⟩;refine⟨fi.2 fun c aq=>?_,fi.2 fun d aD=>(Ud (af d aD)).2 (a7 d aD),fi.2 fun k ae=>hd (U k ae),fi.2 fun m hm=>by simpa using ao m hm⟩;simp only[r3,cv,eA];rw[<-I c aq];exact⟨z6 aO c.v,rfl⟩
theorem Uy{s:bd}(h:gz s){v:List ah}(az:kk s.n v){x y:T}(ab:x.fit=true)(aB:y.fit=true)(bx:dy s.n x=true)(fI:dy s.n y=true):
  match gW s x y with|some t=>iS t (aV v)↔iS s (aV v)/\x.ap (aV v)=y.ap (aV v)|none=>s.d.length<=30->¬(iS s (aV v)/\x.ap (aV v)=y.ap (aV v)):=by
 have c3:∀e∈[(x,y)],tb s.n e.1/\tb s.n e.2:=fun e he=>by rw[iG.1 he];exact⟨Er (T.fit_ok ab) (qU.1 bx),Er (T.fit_ok aB) (qU.1 fI)⟩
 unfold gW;cases hu:mgu s.b [(x,y)]with
 |none=>simp only[Option.bind_none];rintro _ ⟨I,U⟩;refine QO az h.b.sol h.b.fits (BE h.b.ok h.bb) c3 hu I.b ?_;intro e he;rw[iG.1 he];exact U
 |some b=>
  have ad:=h.bind ab aB bx fI hu;have iM:=lO h.b.sol h.b.fits hu (aV v);have U:iS {s with b:=b} (aV v)↔iS s (aV v)/\x.ap (aV v)=y.ap (aV v):=by
   constructor
   ·rintro⟨aW,bj,bM,cL⟩;have:=iM.1 aW;exact⟨⟨this.1,bj,bM,cL⟩,this.2 (x,y) Ψ⟩
   ·rintro⟨⟨aW,bj,bM,cL⟩,c2⟩;exact⟨iM.2 ⟨aW,fun e he=>by rw[iG.1 he];exact c2⟩,bj,bM,cL⟩
  simp only[hE];cases e:eH {s with b:=b}with
  |none=>exact fun aD=>by rw[<-U];exact FA ad aD (ad.none az) e
  |some t=>exact(FD ad (ad.none az) e).trans U
theorem Ul{s:bd}(h:gz s){v:List ah}(az:kk s.n v){x y:T}(ab:x.fit=true)(aB:y.fit=true)(bx:dy s.n x=true)(fI:dy s.n y=true):
  match jT s x y with|some t=>iS t (aV v)↔iS s (aV v)/\x.ap (aV v)≠y.ap (aV v)|none=>s.d.length<=29->¬(iS s (aV v)/\x.ap (aV v)≠y.ap (aV v)):=by
 have c3:∀e∈[(x,y)],tb s.n e.1/\tb s.n e.2:=fun e he=>by rw[iG.1 he];exact⟨Er (T.fit_ok ab) (qU.1 bx),Er (T.fit_ok aB) (qU.1 fI)⟩
 unfold jT;cases hu:mgu s.b [(x,y)]with
 |none=>
  have cG:iS s (aV v)->x.ap (aV v)≠y.ap (aV v):=fun I U=>QO az h.b.sol h.b.fits (BE h.b.ok h.bb) c3 hu I.b fun e he=>by rw[iG.1 he];exact U
  simp only;cases e:eH s with
  |none=>exact fun aD I=>FA h Ω (h.none az) e I.1
  |some t=>exact(FD h (h.none az) e).trans ⟨fun I=>⟨I,cG I⟩,fun I=>I.1⟩
 |some b=>
  have iM:=lO h.b.sol h.b.fits hu (aV v);have ha:iu [(x,y)] (aV v)↔x.ap (aV v)=y.ap (aV v):=by simp[iu]
  simp only;by_cases au:dx s.b b=[]
  ·rw[if_pos au];rintro _ ⟨I,U⟩;have:s.b=b:=(EU h.b hu).1 au;rw[<-this]at iM;exact U (ha.1 (iM.1 I.b).2)
  ·rw[if_neg au];have ad:=h.dif ab aB bx fI hu;have bj:=lO h.b.sol h.b.fits (ER h.b.sol h.b.fits hu) (aV v);rw[u1]at bj;have hw:df s.b (aV v)->(df (dx s.b b) (aV v)↔x.ap (aV v)=y.ap (aV v)):=fun I=>⟨fun b4=>ha.1 (iM.1 (bj.2 ⟨I,b4⟩)).2,fun b4=>(bj.1 (iM.2 ⟨I,ha.2 b4⟩)).2⟩
   have U:iS {s with d:=s.d++[dx s.b b]} (aV v)↔iS s (aV v)/\x.ap (aV v)≠y.ap (aV v):=by
    constructor
    ·rintro⟨aW,bj,bM,cL⟩;exact⟨⟨aW,bj,bM,fun d aD=>cL d (List.mem_append_left _ aD)⟩,fun b4=>cL (dx s.b b) Ψ ((hw aW).2 b4)⟩
    ·rintro⟨⟨aW,bj,bM,cL⟩,c2⟩;refine⟨aW,bj,bM,fun d aD=>?_⟩;rcases h3.1 aD with aD|aD
     ·exact cL d aD
     ·rw[iG.1 aD];exact fun b4=>c2 ((hw aW).1 b4)
   cases e:eH {s with d:=s.d++[dx s.b b]}with
   |none=>exact fun aD=>by rw[<-U];exact FA ad (by simp only[pn,List.length_singleton];omega) (ad.none az) e
   |some t=>exact(FD ad (ad.none az) e).trans U
theorem Ay{b:List ah}{θ:Int->T}(bk:gD b)(h:df b θ)(x:T):(x.ap (aV b)).ap θ=x.ap θ:=by rw[yz];exact mP fun u _=>FF bk h u
theorem akS{s:bd}(h:gz s){v:List ah}(az:kk s.n v){x:T}(ab:x.fit=true)(bx:dy s.n x=true){k:Int}(ae:k=2\/k=3)(a8:(x.ap (aV s.b)).size<=5000):
  match o6 s x k with|some t=>iS t (aV v)↔iS s (aV v)/\(x.ap (aV v)).kind=k|none=>s.d.length<=30->¬(iS s (aV v)/\(x.ap (aV v)).kind=k):=by
 unfold o6;rw[if_pos ⟨ae,a8⟩];cases hu:gU s.k (x.ap (aV s.b)) k with
 |none=>simp only[Option.bind_none];rintro _ ⟨I,U⟩;rw[<-Ay h.b.sol.asc I.b]at U;exact Rj hu ⟨I.k,U⟩
 |some l=>
  have ad:=h.knd ab bx ae hu;have ao:=Rk (θ:=aV v) hu;have U:iS {s with k:=l} (aV v)↔iS s (aV v)/\(x.ap (aV v)).kind=k:=by
   constructor
   ·rintro⟨aW,bj,bM,cL⟩;have:=ao.1 bj;rw[Ay h.b.sol.asc aW]at this;exact⟨⟨aW,this.1,bM,cL⟩,this.2⟩
   ·rintro⟨⟨aW,bj,bM,cL⟩,c2⟩;rw[<-Ay h.b.sol.asc aW]at c2;exact⟨aW,ao.2 ⟨bj,c2⟩,bM,cL⟩
  simp only[hE];cases e:eH {s with k:=l}with
  |none=>exact fun aD=>by rw[<-U];exact FA ad aD (ad.none az) e
  |some t=>exact(FD ad (ad.none az) e).trans U
theorem aly{s:bd}(h:gz s){v:List ah}(az:kk s.n v){x:T}(ab:x.fit=true)(bx:dy s.n x=true){g:List UInt8}(aT:iB g=true)(a8:(x.ap (aV s.b)).size<=5000):
  match o8 s x g with|some t=>iS t (aV v)↔iS s (aV v)/\(x.ap (aV v)).has g=false|none=>s.d.length<=30->¬(iS s (aV v)/\(x.ap (aV v)).has g=false):=by
 unfold o8;rw[if_pos a8];cases hu:hv s.m (x.ap (aV s.b)) g with
 |none=>simp only[Option.bind_none];rintro _ ⟨I,U⟩;rw[<-Ay h.b.sol.asc I.b]at U;exact Rl hu U
 |some l=>
  have ad:=h.mrk ab bx aT hu;have ao:=Rm (θ:=aV v) hu;have U:iS {s with m:=l} (aV v)↔iS s (aV v)/\(x.ap (aV v)).has g=false:=by
   constructor
   ·rintro⟨aW,bj,bM,cL⟩;have:=ao.1 bM;rw[Ay h.b.sol.asc aW]at this;exact⟨⟨aW,bj,this.1,cL⟩,this.2⟩
   ·rintro⟨⟨aW,bj,bM,cL⟩,c2⟩;rw[<-Ay h.b.sol.asc aW]at c2;exact⟨aW,bj,ao.2 ⟨bM,c2⟩,cL⟩
  simp only[hE];cases e:eH {s with m:=l}with
  |none=>exact fun aD=>by rw[<-U];exact FA ad aD (ad.none az) e
  |some t=>exact(FD ad (ad.none az) e).trans U
theorem qH:eQ []:=⟨Ψ,Ψ,Ψ⟩
theorem qn:fT []:=by simp[fT]
def j0:T->Bool
 | .sym s=>s.head? !=some 119
 | .pair a b=>j0 a&&j0 b
 |_=>true
structure eqP (V:List Int) (L:Nat) (e:T×T):Prop where
 l:fb e.1<=L/\fb e.2<=L
 v:∀v,(e.1.occ v=true\/e.2.occ v=true)->v∈V
 w:j0 e.1=true/\j0 e.2=true
structure j2 (V:List Int) (L:Nat) (E:List (T×T)) (s:bd):Prop where
 e:∀e∈E,eqP V L e
 b:mgu [] E=some s.b
 d:∀d∈s.d,∃e x,eqP V L e/\mgu [] (E++[e])=some x/\d=dx s.b x
theorem XI{b:List ah}{k:List bV}{m:List bn}:∀{l L:List (List ah)},eF b k m l=some L->∀w∈L,∃d∈l,∃z,mgu b (e0 d)=some z/\w=dx b z
 |[],L,h=>by simp only[eF,dD]at h;rw[<-h];simp
 |d::l,L,h=>by
  have go:∀{L},eF b k m l=some L->∀w∈L,∃e∈d::l,∃z,mgu b (e0 e)=some z/\w=dx b z:=fun h w hw=>by obtain⟨e,I,U⟩:=XI h w hw;exact⟨e,mh _ I,U⟩
  simp only[eF]at h;split at h
  ·exact go h
  ·rename_i x ab;split at h
   ·exact go h
   ·split at h
    ·cases h
    ·rw[gB]at h;obtain⟨tQ,I,rfl⟩:=h;intro w hw;rcases eU.1 hw with rfl|hw
     ·exact⟨d,Ψ,x,ab,rfl⟩
     ·exact go I w hw
theorem aps{s t:bd}(he:eH s=some t):t.b=s.b/\∀w∈t.d,∃d∈s.d,∃z,mgu s.b (e0 d)=some z/\w=dx s.b z:=by
 unfold eH at he;split at he
 ·cases he
 split at he
 ·cases he
 split at he
 ·cases he
 rename_i L e1;split at he
 ·cases he;exact⟨rfl,fun w hw=>XI e1 w (r2.1 hw).1⟩
 ·cases he
theorem Fe{V:List Int}{L:Nat}{E mN:List (T×T)}{s t:bd}{qf:List ah}(Mv:∀e∈mN,eqP V L e)(sN:mgu [] E=some qf)(ad:mgu [] mN=some s.b)(mZ:∀θ,df s.b θ->df qf θ)(aD:∀d∈s.d,∃e x,eqP V L e/\mgu [] (E++[e])=some x/\d=dx qf x)(he:eH s=some t):j2 V L mN t:=by obtain⟨ar,aE⟩:=aps he;obtain⟨s0,f0⟩:=pU qH qn sN;obtain⟨s1,f1⟩:=pU qH qn ad;refine⟨Mv,by rw[ar];exact ad,fun w hw=>?_⟩;obtain⟨d,fF,z,a8,rfl⟩:=aE w hw;obtain⟨e,x,xj,ab,rfl⟩:=aD d fF;refine⟨e,z,xj,?_,by rw[ar]⟩;rw[IW qH qn,sN,hE]at ab;rw[IW qH qn,ad,hE,<-a8];refine qz (Aw (fun θ=>and_congr_right fun I=>?_) (wi s1 f1 (e0 (dx qf x))));have aW:=lO s0 f0 ab θ;have bj:=lO s0 f0 (ER s0 f0 ab) θ;have bB:=mZ θ I;exact⟨fun h=>(aW.1 (bj.2 ⟨bB,h⟩)).2,fun h=>(bj.1 (aW.2 ⟨bB,h⟩)).2⟩
theorem anV(V:List Int)(L:Nat)(n:Int):j2 V L [] ⟨n,[],[],[],[]⟩:=⟨Ψ,ES qH qn,Ψ⟩
theorem O5{V:List Int}{L:Nat}{E:List (T×T)}{s t:bd}(h:j2 V L E s){x y:T}(ab:eqP V L (x,y))(he:gW s x y=some t):j2 V L (E++[(x,y)]) t:=by
 unfold gW at he;obtain⟨b,I,U⟩:=hr.1 he;obtain⟨s0,f0⟩:=pU qH qn h.b;refine Fe (s:={s with b:=b}) (fun e he=>?_) h.b ?_ (fun θ fl=>((lO s0 f0 I θ).1 fl).1) h.d U
 ·rcases h3.1 he with he|he
  ·exact h.e e he
  ·rw[iG.1 he];exact ab
 ·rw[IW qH qn,h.b,hE];exact I
theorem O4{V:List Int}{L:Nat}{E:List (T×T)}{s t:bd}(h:j2 V L E s){x y:T}(ab:eqP V L (x,y))(he:jT s x y=some t):j2 V L E t:=by
 unfold jT at he;cases hu:mgu s.b [(x,y)]with
 |none=>rw[hu]at he;exact Fe h.e h.b h.b (fun _ h=>h) h.d he
 |some b=>
  rw[hu]at he;simp only at he;split at he
  ·cases he
  ·refine Fe (s:={s with d:=s.d++[dx s.b b]}) h.e h.b h.b (fun _ h=>h) (fun d aD=>?_) he;rcases h3.1 aD with aD|aD
   ·exact h.d d aD
   ·exact⟨(x,y),b,ab,by rw[IW qH qn,h.b,hE];exact hu,iG.1 aD⟩
theorem anW{V:List Int}{L:Nat}{E:List (T×T)}{s t:bd}(h:j2 V L E s){x:T}{k:Int}(he:o6 s x k=some t):j2 V L E t:=by
 unfold o6 at he;split at he
 ·obtain⟨l,I,U⟩:=hr.1 he;exact Fe (s:={s with k:=l}) h.e h.b h.b (fun _ h=>h) h.d U
 ·cases he
theorem anX{V:List Int}{L:Nat}{E:List (T×T)}{s t:bd}(h:j2 V L E s){x:T}{g:List UInt8}(he:o8 s x g=some t):j2 V L E t:=by
 unfold o8 at he;split at he
 ·obtain⟨l,I,U⟩:=hr.1 he;exact Fe (s:={s with m:=l}) h.e h.b h.b (fun _ h=>h) h.d U
 ·cases he
theorem aaK(θ:Int->T):df [] θ:=fun _ h=>by simp at h
theorem Ya{V:List Int}{L:Nat}{E:List (T×T)}{b:List ah}(gX:V.Nodup)(I:1<=L)(c3:∀e∈E,eqP V L e)(ad:mgu [] E=some b){v:Int}(az:v∈V):fb (aV b v)<=L ^ (Dd b V).length:=by refine aln (pU qH qn ad).1 (fun θ=>?_) gX (fun e he=>(c3 e he).v) (fun e he=>(c3 e he).l) I az;rw[lO qH qn ad θ];exact⟨fun h=>h.2,fun h=>⟨aaK θ,h⟩⟩
theorem RK(b:List ah)(V:List Int):(Dd b V).length<=V.length:=List.length_filter_le _ _
theorem j2.b_lv{V:List Int}{L:Nat}{E:List (T×T)}{s:bd}(h:j2 V L E s)(gX:V.Nodup)(I:1<=L){v:Int}(az:v∈V):fb (aV s.b v)<=L ^ V.length:=hn (Ya gX I h.e h.b az) (Nat.pow_le_pow_right I (RK _ _))
theorem j2.d_lv{V:List Int}{L:Nat}{E:List (T×T)}{s:bd}(h:j2 V L E s)(gX:V.Nodup)(I:1<=L){d:List ah}(aD:d∈s.d){c:ah}(aq:c∈d)(aip:c.v∈V)(aih:∀u,c.t.occ u=true->u∈V):fb c.t<=L ^ V.length/\(∀u,c.t.occ u=true->fb c.t*L<=L ^ V.length):=by
 obtain⟨e,x,he,ab,rfl⟩:=h.d d aD;have c3:∀a∈E++[e],eqP V L a:=fun a bk=>by
  rcases h3.1 bk with bk|bk
  ·exact h.e a bk
  ·rw[iG.1 bk];exact he
 have ks:=(hD.1 aq).1;have gp:=(pU qH qn ab).1;have ar:aV x c.v=c.t:=by unfold aV;rw[oP gp.asc ks];rfl
 have U:=Ya gX I c3 ab aip;rw[ar]at U;refine⟨hn U (Nat.pow_le_pow_right I (RK _ _)),fun u hu=>?_⟩;have q5:=gp.free c ks u hu;have D5:(aV x u).kind=1:=by unfold aV;rw[q5];rfl
 have ao:(Dd x V).length+1<=V.length:=by have:=Mb gX (p:=fun w=>(aV x w).kind !=1) (q:=fun _=>true) (fun _ _=>rfl) (aih u hu) rfl (by simp[D5]);rwa[List.filter_eq_self.2 fun _ _=>rfl]at this
 have a7:L ^ ((Dd x V).length+1)<=L ^ V.length:=Nat.pow_le_pow_right I ao;rw[Nat.pow_succ]at a7;exact hn (rr _ U) a7
structure AO (n:Int) (s:bd):Prop where
 ok:gi s
 n:s.n=n
 t:lv [[97],[98]] s.m
theorem AO.tg{n:Int}{s:bd}(h:AO n s):wP s.m:=⟨_,Ψ,h.t⟩
theorem FE{G:List (List UInt8)}{s t:bd}(hm:lv G s.m)(he:eH s=some t):lv G t.m:=by
 unfold eH at he;split at he
 ·cases he
 ·split at he
  ·cases he
  ·rename_i m e;split at he
   ·cases he
   ·split at he
    ·have U:=Fo hm (fun x ab=>by simp at ab) e;have ao:=eV he;rw[<-ao];exact J7 U
    ·cases he
theorem FC{s t:bd}(h:gz s)(he:eH s=some t):t.n=s.n:=(tB h he).2.1
noncomputable def qT(s:bd)(kd:Int)(x y:T)(k:Int)(g:List UInt8):Option bd:=if kd=0 then gW s x y else if kd=1 then jT s x y else if kd=2 then o6 s x k else o8 s x g
theorem KL{n:Int}{s t:bd}(h:AO n s){kd:Int}{x y:T}{k:Int}{g:List UInt8}(ab:x.fit=true)(aB:y.fit=true)(bx:dy n x=true)(fI:dy n y=true)(aT:g∈([[97],[98]]:List (List UInt8)))(he:qT s kd x y k g=some t):AO n t:=by
 obtain⟨I,U,ao⟩:=h;subst U;have HM:iB g=true:=by simp only[eU,List.mem_nil_iff,or_false]at aT;rcases aT with rfl|rfl<;>decide
 unfold qT at he;split at he
 ·refine⟨yG I.1 ab aB bx fI he,?_,?_⟩
  ·unfold gW at he;obtain⟨b,ar,aE⟩:=hr.1 he;exact FC (s:={s with b:=b}) (I.1.bind ab aB bx fI ar) aE
  ·unfold gW at he;obtain⟨b,ar,aE⟩:=hr.1 he;exact FE (s:={s with b:=b}) ao aE
 split at he
 ·refine⟨Uk I.1 ab aB bx fI he,?_,?_⟩;all_goals unfold jT at he
  all_goals
   cases hm:mgu s.b [(x,y)]with
   |none=>
    rw[hm]at he
    first|exact FC I.1 he|exact FE ao he
   |some b=>
    rw[hm]at he
    simp only at he
    split at he
    ·cases he
    ·first|exact FC (s:={s with d:=s.d++[dx s.b b]}) (I.1.dif ab aB bx fI hm) he|exact FE (s:={s with d:=s.d++[dx s.b b]}) ao he
 split at he
 ·refine⟨XE I.1 ab bx he,?_,?_⟩;all_goals unfold o6 at he
  all_goals split at he
  any_goals (cases he;done)
  all_goals rename_i g0
  all_goals obtain⟨l,ar,aE⟩:=hr.1 he
  ·exact FC (s:={s with k:=l}) (I.1.knd ab bx g0.1 ar) aE
  ·exact FE (s:={s with k:=l}) ao aE
 ·refine⟨Yq I.1 ab bx HM he,?_,?_⟩;all_goals unfold o8 at he
  all_goals split at he
  any_goals (cases he;done)
  all_goals obtain⟨l,ar,aE⟩:=hr.1 he
  ·exact FC (s:={s with m:=l}) (I.1.mrk ab bx HM ar) aE
  ·exact FE (s:={s with m:=l}) (C5 ao aT ar) aE
theorem adL{n:Int}(bB:0<=n)(I:n<=100000):gi ⟨n,[],[],[],[]⟩:=by
 refine⟨⟨⟨bB,I⟩,⟨by simp[k2],⟨Ψ,Ψ,Ψ⟩,by simp[fT]⟩,Ψ,⟨Ψ,Ψ⟩,⟨Ψ,by simp[hG]⟩,by simp[nY],Ψ,Ψ,Ψ⟩,?_⟩;have:iN []=[]:=List.eq_nil_iff_forall_not_mem.2 fun x ab=>by simp[r2]at ab
 simp[eH,e3,eS,eF,this]
def qx(n:Nat):List Int:=(List.range n).map Int.ofNat
theorem Ip(n:Nat):(qx n).length=n:=by simp[qx]
def yb(i:Int):List UInt8:=if i=0 then [97]else [98]
theorem ap6(i:Int):yb i∈([[97],[98]]:List (List UInt8)):=by unfold yb;split<;>simp
noncomputable def Aa(n:Int)(s:bd)(c:dW):bd×dW:=
 ((qT s ((eC 3 n c).2.below 4) (eC 3 n c).1 (eC 5 n ((eC 3 n c).2.belowC 4)).1 (2+(eC 5 n ((eC 3 n c).2.belowC 4)).2.below 2) (yb (((eC 5 n ((eC 3 n c).2.belowC 4)).2.belowC 2).below 2))).getD s,
  ((eC 5 n ((eC 3 n c).2.belowC 4)).2.belowC 2).belowC 2)
noncomputable def qk(n:Int):Nat->bd->dW->bd×dW
 |0,s,c=>(s,c)
 |k+1,s,c=>qk n k (Aa n s c).1 (Aa n s c).2
theorem RE(k:Int):fb (su k)=1:=by
 unfold su;split
 ·rfl
 ·split<;>rfl
theorem adB(vars:Int){n:Nat}(au:n<=2)(c:dW):fb (eC n vars c).1=1:=by
 rw[eC,if_neg Ω];split
 ·rfl
 ·exact RE _
theorem adC(vars:Int){n:Nat}(au:n<=5)(c:dW):fb (eC n vars c).1<=2:=by
 rw[eC];split
 ·simp only[fb,adB vars (show n/2<=2 by omega)];omega
 ·split
  ·simp[fb]
  ·rw[RE];omega
structure ue (n:Int) (t:T):Prop where
 f:t.fit=true
 b:dy n t=true
 l:fb t<=2
 o:∀v,t.occ v=true->0<=v/\v<n
 w:j0 t=true
theorem ac7(k:Int):j0 (su k)=true:=by
 unfold su;split
 ·rfl
 ·split
  ·generalize (k-2).toNat=j;rcases j with _|_|_|j<;>rfl
  ·rfl
theorem adD(vars:Int)(n:Nat):∀c:dW,j0 (eC n vars c).1=true:=by
 induction n using qQ with
 |ind n bK=>
  intro c;rw[eC];split
  ·simp only[j0,cv];exact⟨bK _ Ω _,bK _ Ω _⟩
  ·split
   ·rfl
   ·exact ac7 _
theorem AP{n:Int}(au:n<=100001){z:Nat}(a8:z<=5)(c:dW):ue n (eC z n c).1:=by obtain⟨I,U,ao⟩:=adA n au z c;refine⟨by simp only[T.fit,cv,eA];exact⟨I,by split at ao<;>omega⟩,qU.2 fun v az=>(U v az).2,adC n a8 c,U,adD n z c⟩
theorem BV{n:Nat}{v:Int}:v∈qx n↔0<=v/\v<n:=by
 simp only[qx,hU,List.mem_range];constructor
 ·rintro⟨a,h,rfl⟩;exact⟨sp a,by simpa using h⟩
 ·intro h;exact⟨v.toNat,Ω,by simp;omega⟩
theorem ND(n:Nat):(qx n).Nodup:=by unfold qx;rw[List.nodup_iff_pairwise_ne,List.pairwise_map];exact List.pairwise_lt_range.imp fun h e=>by have:=av7 e;omega
structure lH (n:Nat) (K:Nat) (S:bd):Prop where
 s:AO n S
 k:S.d.length<=K
 p:∃E,j2 (qx n) 2 E S
theorem FB{s t:bd}(he:eH s=some t):t.d.length<=s.d.length:=by
 unfold eH at he;split at he
 ·cases he
 split at he
 ·cases he
 split at he
 ·cases he
 rename_i L e1;split at he
 ·have:=EF e1;have:=Yf L;rw[<-eV he];simp only at*;omega
 ·cases he
theorem acO{s t:bd}{kd:Int}{x y:T}{k:Int}{g:List UInt8}(he:qT s kd x y k g=some t):t.d.length<=s.d.length+1:=by
 unfold qT at he;split at he
 ·unfold gW at he;obtain⟨b,ar,aE⟩:=hr.1 he;have:=FB aE;simp only at this;omega
 split at he
 ·unfold jT at he;split at he
  ·have:=FB he;omega
  ·split at he
   ·cases he
   ·have:=FB he;simp only[pn,List.length_singleton]at this;omega
 split at he
 ·unfold o6 at he;split at he
  ·obtain⟨b,ar,aE⟩:=hr.1 he;have:=FB aE;simp only at this;omega
  ·cases he
 ·unfold o8 at he;split at he
  ·obtain⟨b,ar,aE⟩:=hr.1 he;have:=FB aE;simp only at this;omega
  ·cases he
theorem acP{V:List Int}{L:Nat}{E:List (T×T)}{s t:bd}(h:j2 V L E s){kd:Int}{x y:T}{k:Int}{g:List UInt8}(ab:eqP V L (x,y))(he:qT s kd x y k g=some t):∃mN,j2 V L mN t:=by
 unfold qT at he;split at he
 ·exact⟨_,O5 h ab he⟩
 split at he
 ·exact⟨_,O4 h ab he⟩
 split at he
 ·exact⟨_,anW h he⟩
 ·exact⟨_,anX h he⟩
theorem ue.eqP{n:Nat}{x y:T}(ab:ue n x)(aB:ue n y):eqP (qx n) 2 (x,y):=⟨⟨ab.l,aB.l⟩,fun v az=>BV.2 (az.elim (ab.o v) (aB.o v)),ab.w,aB.w⟩
theorem lH.add{n k:Nat}{s t:bd}(h:lH n k s){kd:Int}{x y:T}{k0:Int}{g:List UInt8}(ab:ue n x)(aB:ue n y)(aT:g∈([[97],[98]]:List (List UInt8)))(he:qT s kd x y k0 g=some t):lH n (k+1) t:=by obtain⟨E,c3⟩:=h.p;exact⟨KL h.s ab.f aB.f ab.b aB.b aT he,by have:=acO he;have:=h.k;omega,acP c3 (ab.eqP aB) he⟩
theorem lH.more{n k:Nat}{s:bd}(h:lH n k s):lH n (k+1) s:=⟨h.s,by have:=h.k;omega,h.p⟩
theorem apU{n:Nat}(au:n<=100000){k:Nat}{s:bd}(h:lH n k s)(c:dW):lH n (k+1) (Aa n s c).1:=by
 unfold Aa;simp only;generalize he:qT _ _ _ _ _ _=o;cases o with
 |none=>exact h.more
 |some t=>exact h.add (AP Ω Ω _) (AP Ω Ω _) (ap6 _) he
theorem apV(n:Int){s:bd}{c:dW}(h:c.ok):(Aa n s c).2.ok:=(((Dl 5 n _ ((Dl 3 n c h).below 4)).below 2).below 2)
theorem LC{n:Nat}(au:n<=100000):∀(j:Nat) {k:Nat} {s:bd} (_:lH n k s) (c:dW),lH n (k+j) (qk n j s c).1
 |0,k,s,h,c=>h
 |j+1,k,s,h,c=>by rw[show k+(j+1)=(k+1)+j by omega];exact LC au j (apU au h c) _
theorem Um(n:Nat)(au:n<=100000):lH n 0 ⟨n,[],[],[],[]⟩:=⟨⟨adL Ω Ω,rfl,by simp[lv]⟩,Ψ,[],anV _ _ _⟩
theorem lH.le{n k bJ:Nat}{s:bd}(h:lH n k s)(ae:k<=bJ):lH n bJ s:=⟨h.s,by have:=h.k;omega,h.p⟩
noncomputable def BS(d:List Int)(p:Nat)(n:Nat):bd:=(qk n ((kp d p).below 6).toNat ⟨n,[],[],[],[]⟩ ((kp d p).belowC 6)).1
theorem XY(d:List Int)(p:Nat){n:Nat}(au:n<=100000):lH n 5 (BS d p n):=by have:=(kp d p).below_le 6 Ω;have h:=LC au ((kp d p).below 6).toNat (Um n au) ((kp d p).belowC 6);exact h.le Ω
theorem JN(s:bd):∃t:bd,∃q:Bool,qF s= .tuple [t.e,.bool q]/\(q=true->eH s=some t)/\(q=false->eH s=none):=by
 refine⟨_,_,rfl,(fun h=>?_),fun h=>?_⟩
 ·obtain⟨t,aC⟩:=fH.1 h;rw[JX aC];exact aC
 ·cases e:eH s with
  |none=>rfl
  |some t=>rw[e]at h;cases h
open Classical in
noncomputable def JL(s:bd)(x y:T):aj:=match mgu s.b [(x,y)]with
 |none=>qF s
 |some b=>if dx s.b b=[]then .tuple [gH.e,.bool false]else qF {s with d:=s.d++[dx s.b b]}
theorem aoY(s:bd)(x y:T):∃t:bd,∃q:Bool,JL s x y= .tuple [t.e,.bool q]/\(q=true->jT s x y=some t)/\(q=false->jT s x y=none):=by
 unfold JL jT;cases mgu s.b [(x,y)]with
 |none=>exact JN s
 |some b=>
  by_cases h:dx s.b b=[]
  ·simp only[if_pos h];exact⟨gH,false,rfl,(fun h=>by cases h),fun _=>trivial⟩
  ·simp only[if_neg h];exact JN _
theorem aqX{s:bd}(h:gz s)(aD:s.d.length<=30)(hm:jN s.m){x y:T}(ab:x.fit=true)(aB:y.fit=true)(bx:dy s.n x=true)(fI:dy s.n y=true)(k0:Int)(tag:List UInt8):bR aA 49 [s.e,.int .i64 1,x.e,y.e,.int .i64 k0,.str tag] (JL s x y):=by
 have aS:=QF s.b x y h.b.sol h.b.fits;obtain⟨G,hI,aT⟩:=hm;unfold JL;cases hu:mgu s.b [(x,y)]with
 |none=>rw[hu]at aS;have bh:=CP h hI aT;simp only[qF]at bh⊢;generalize tA s=t at bh;generalize (eH s).isSome=q at bh;clear h hu;obtain⟨n,b,d,k,m⟩:=s;obtain⟨qL,qI,qJ,qK,tm⟩:=t;simp only[bd.e,ft]at aS bh⊢;refine br fO Tryz.func49 tp fun aR=>?_;unfold rF;simp;((with_reducible repeat' first|refine ak ?_|refine aF aS ?_|refine aG aS ?_|refine aF bh ?_|refine aG bh ?_|simp|((first|apply bN|apply bP|apply bO)<;>intro h<;>try simp at h))<;>(try exact cf));all_goals simp[bz,aY,a6,aX]
 |some b3=>
  rw[hu]at aS;have bX:=QE h.b (h.bind ab aB bx fI hu).b;simp only at bX;by_cases au:dx s.b b3=[]
  ·simp only[if_pos au];rw[au]at bX;clear h hu;obtain⟨n,b,d,k,m⟩:=s;simp only[bd.e,ft,gH,cF,nS]at aS bX⊢;refine br fO Tryz.func49 tp fun aR=>?_;unfold rF;simp only at aD;simp;((with_reducible repeat' first|refine ak ?_|refine aF aS ?_|refine aG aS ?_|refine aF bX ?_|refine aG bX ?_|simp|((first|apply bN|apply bP|apply bO)<;>intro h<;>try simp at h))<;>(try exact cf));all_goals simp[bz,aY,a6,aX]
   all_goals(unfold lim;omega)
  ·simp only[if_neg au];have bh:=CP (h.dif ab aB bx fI hu) hI aT;have aw:0<(dx s.b b3).length:=List.length_pos_iff.2 au;generalize dx s.b b3=w at bh bX aw au⊢;simp only[qF]at bh⊢;generalize tA {s with d:=s.d++[w]}=t at bh;generalize (eH {s with d:=s.d++[w]}).isSome=q at bh;clear h hu;obtain⟨n,b,d,k,m⟩:=s;obtain⟨qL,qI,qJ,qK,tm⟩:=t;simp only[bd.e,ft]at aS bh bX⊢;generalize sK:d++[w]=D at bh;simp only[cF]at bX;have hw:cF w= .slice 5 .no (w.map ah.e):=rfl;refine br fO Tryz.func49 tp fun aR=>?_;unfold rF;simp only at aD;simp;((with_reducible repeat' first|refine ak ?_|refine aF aS ?_|refine aG aS ?_|refine aF bX ?_|refine aG bX ?_|simp[aw]|((first|apply bN|apply bP|apply bO)<;>intro h<;>try simp at h))<;>(try exact cf));all_goals first|(refine⟨by unfold lim;omega,?_⟩)|skip
   rw[<-hw];rw[qi,G5,sK];((with_reducible repeat' first|refine ak ?_|refine aF bh ?_|refine aG bh ?_|simp|((first|apply bN|apply bP|apply bO)<;>intro h<;>try simp at h))<;>(try exact cf));all_goals simp[bz,aY,a6,aX]
noncomputable def JP(s:bd)(x:T)(k:Int):aj:=if(x.ap (aV s.b)).size<=5000 then(match gU s.k (x.ap (aV s.b)) k with
 |none=>.tuple [gH.e,.bool false]
 |some l=>qF {s with k:=l})else .tuple [gH.e,.bool false]
theorem ao0(s:bd)(x:T){k:Int}(ae:k=2\/k=3):∃t:bd,∃q:Bool,JP s x k= .tuple [t.e,.bool q]/\(q=true->o6 s x k=some t)/\(q=false->o6 s x k=none):=by
 unfold JP o6;by_cases g:(x.ap (aV s.b)).size<=5000
 ·rw[if_pos g,if_pos ⟨ae,g⟩];cases gU s.k (x.ap (aV s.b)) k with
  |none=>exact⟨gH,false,rfl,(fun h=>by cases h),fun _=>rfl⟩
  |some l=>exact JN _
 ·rw[if_neg g,if_neg fun h=>g h.2];exact⟨gH,false,rfl,(fun h=>by cases h),fun _=>rfl⟩
noncomputable def JQ(s:bd)(x:T)(g:List UInt8):aj:=if(x.ap (aV s.b)).size<=5000 then(match hv s.m (x.ap (aV s.b)) g with
 |none=>.tuple [gH.e,.bool false]
 |some l=>qF {s with m:=l})else .tuple [gH.e,.bool false]
theorem ao1(s:bd)(x:T)(g:List UInt8):∃t:bd,∃q:Bool,JQ s x g= .tuple [t.e,.bool q]/\(q=true->o8 s x g=some t)/\(q=false->o8 s x g=none):=by
 unfold JQ o8;by_cases g1:(x.ap (aV s.b)).size<=5000
 ·rw[if_pos g1,if_pos g1];cases hv s.m (x.ap (aV s.b)) g with
  |none=>exact⟨gH,false,rfl,(fun h=>by cases h),fun _=>rfl⟩
  |some l=>exact JN _
 ·rw[if_neg g1,if_neg g1];exact⟨gH,false,rfl,(fun h=>by cases h),fun _=>rfl⟩
theorem aqY{s:bd}(h:gz s)(hm:jN s.m){x:T}(ab:x.fit=true)(bx:dy s.n x=true){k:Int}(ae:k=2\/k=3)(y:T)(tag:List UInt8):bR aA 49 [s.e,.int .i64 2,x.e,y.e,.int .i64 k,.str tag] (JP s x k):=by
 have aS:=Ah s.b h.b.len x;have bh:=QH s.k (by have:=o5 h.k;omega) h.k.asc (x.ap (aV s.b)) k;unfold JP;by_cases g:(x.ap (aV s.b)).size<=5000
 ·rw[hd g]at aS;rw[if_pos g];cases hu:gU s.k (x.ap (aV s.b)) k with
  |none=>rw[hu]at bh;generalize x.ap (aV s.b)=y at aS bh;clear h hu g;obtain⟨n,b,d,bJ,m⟩:=s;simp only[bd.e,oC,gH,jy,je]at aS bh⊢;refine br fO Tryz.func49 tp fun aR=>?_;unfold rF;exact cu
  |some l=>rw[hu]at bh;obtain⟨G,hI,aT⟩:=hm;have bX:=CP (h.knd ab bx ae hu) hI aT;generalize x.ap (aV s.b)=y at aS bh;simp only[qF]at bX⊢;generalize tA {s with k:=l}=t at bX;generalize (eH {s with k:=l}).isSome=q at bX;clear h hu g;obtain⟨n,b,d,bJ,m⟩:=s;obtain⟨qL,qI,qJ,qK,tm⟩:=t;simp only[bd.e,oC,ib,lZ]at aS bh bX⊢;refine br fO Tryz.func49 tp fun aR=>?_;unfold rF;exact cu
 ·rw[jf g]at aS;rw[if_neg g];generalize x.ap (aV s.b)=y at aS bh;clear bh;clear h g;obtain⟨n,b,d,bJ,m⟩:=s;simp only[bd.e,gH]at aS⊢;refine br fO Tryz.func49 tp fun aR=>?_;unfold rF;exact cu
theorem aqZ{s:bd}(h:gz s)(hm:wP s.m){x:T}(ab:x.fit=true)(bx:dy s.n x=true){g:List UInt8}(aT:iB g=true)(y:T)(k0:Int):bR aA 49 [s.e,.int .i64 3,x.e,y.e,.int .i64 k0,.str g] (JQ s x g):=by
 have aS:=Ah s.b h.b.len x;have bh:=fun a8=>abM s.m (hm.w.len h.m) (x.ap (aV s.b)) a8 g h.m.asc;unfold JQ;by_cases g1:(x.ap (aV s.b)).size<=5000
 ·have bh:=bh g1;rw[hd g1]at aS;rw[if_pos g1];cases hu:hv s.m (x.ap (aV s.b)) g with
  |none=>rw[hu]at bh;generalize x.ap (aV s.b)=y at aS bh;clear h hu g1;obtain⟨n,b,d,bJ,m⟩:=s;simp only[bd.e,iE,gH,jy,je]at aS bh⊢;refine br fO Tryz.func49 tp fun aR=>?_;unfold rF;exact cu
  |some l=>rw[hu]at bh;obtain⟨G,hI,pJ⟩:=hm.mrk hu;have bX:=CP (h.mrk ab bx aT hu) hI pJ;generalize x.ap (aV s.b)=y at aS bh;simp only[qF]at bX⊢;generalize tA {s with m:=l}=t at bX;generalize (eH {s with m:=l}).isSome=q at bX;clear h hu g1;obtain⟨n,b,d,bJ,m⟩:=s;obtain⟨qL,qI,qJ,qK,tm⟩:=t;simp only[bd.e,iE,ib,lZ]at aS bh bX⊢;refine br fO Tryz.func49 tp fun aR=>?_;unfold rF;exact cu
 ·rw[jf g1]at aS;rw[if_neg g1];generalize x.ap (aV s.b)=y at aS bh;clear bh;clear h g1;obtain⟨n,b,d,bJ,m⟩:=s;simp only[bd.e,gH]at aS⊢;refine br fO Tryz.func49 tp fun aR=>?_;unfold rF;exact cu
theorem ahj(c:dW)(aq:c.ok):bL aA 50 [.ptr (.obj 401) 0,.slice 1 .no [.str [97],.str [98]]] (cx c) fun r ai=>r= .str (yb (c.below 2))/\ai=cx (c.belowC 2):=by
 have af:=gK c;have ad:=c.below_le 2 Ω;refine bL.mk mixed qN Tryz.func50 anc Ψ af.obj fun aR cN=>?_;unfold Tr;unfold cx;simp;(refine cY.ob (yP c aq 2) (gK _) co co (by simp[inObs,cx,Pv.look]) ?_;rintro r ai ⟨rfl,rfl⟩;refine⟨ji _ _,?_⟩;unfold cx;simp[cc]);generalize ae:c.below 2=k at ad⊢;rcases(by omega:k=0\/k=1)with rfl|rfl;all_goals(with_reducible repeat' first|refine ak ?_|simp)
 all_goals(refine cR.at (cx (c.belowC 2)) (.inl rfl) (gK _) (ji _ _) co co ?_;simp[cV,aY,a6,aX,cx])
 all_goals simp[yb]
theorem aq0{n:Int}{s:bd}(h:AO n s)(aD:s.d.length<=30){kd:Int}(ae:kd=0\/kd=1\/kd=2\/kd=3){x y:T}(ab:ue n x)(aB:ue n y){k:Int}(jo:k=2\/k=3){g:List UInt8}(aT:iB g=true):
  ∃t:bd,∃q:Bool,bR aA 49 [s.e,.int .i64 kd,x.e,y.e,.int .i64 k,.str g] (.tuple [t.e,.bool q])/\(q=true->qT s kd x y k g=some t)/\(q=false->qT s kd x y k g=none):=by
 have bx:=ab.b;have fI:=aB.b;rw[<-h.n]at bx fI;rcases ae with rfl|rfl|rfl|rfl
 ·obtain⟨t,q,ar,aE,bA⟩:=aoZ s x y;refine⟨t,q,?_,aE,bA⟩;rw[<-ar];exact aqW h.ok.1 h.tg.w ab.f aB.f bx fI k g
 ·obtain⟨t,q,ar,aE,bA⟩:=aoY s x y;refine⟨t,q,?_,aE,bA⟩;rw[<-ar];exact aqX h.ok.1 aD h.tg.w ab.f aB.f bx fI k g
 ·obtain⟨t,q,ar,aE,bA⟩:=ao0 s x jo;refine⟨t,q,?_,aE,bA⟩;rw[<-ar];exact aqY h.ok.1 h.tg.w ab.f bx jo y g
 ·obtain⟨t,q,ar,aE,bA⟩:=ao1 s x g;refine⟨t,q,?_,aE,bA⟩;rw[<-ar];exact aqZ h.ok.1 h.tg ab.f bx aT y k
theorem ap7(i:Int):iB (yb i)=true:=by unfold yb;split<;>decide
theorem Uo(n:Int):∀(i:Nat) (s:bd) (c:dW),qk n (i+1) s c=Aa n (qk n i s c).1 (qk n i s c).2
 |0,_,_=>rfl
 |i+1,s,c=>by rw[qk,Uo n i];rfl
theorem Un(n:Int):∀(i:Nat) {s:bd} {c:dW},c.ok->(qk n i s c).2.ok
 |0,_,_,h=>h
 |i+1,_,_,h=>Un n i (apV n h)
def AE(s:bd):List aj:=[.int .i64 s.n,.slice 5 .no (s.b.map ah.e),.slice 1 .no (s.d.map cF),.slice 2 .no (s.k.map bV.e),.slice 2 .no (s.m.map bn.e)]
def tX(n:Int)(q:Bool)(s:bd):List aj:=if q then [.int .i64 n,.slice 5 .nil [],.slice 1 .nil [],.slice 2 .nil [],.slice 2 .nil []]else AE s
theorem ahl(n:Nat)(au:n<=100000)(c:dW)(aq:c.ok):bL aA 20 [.ptr (.obj 401) 0,.int .i64 n,.int .i64 5] (cx c) fun r ai=>r=(qk n (c.below 6).toNat ⟨n,[],[],[],[]⟩ (c.belowC 6)).1.e/\ai=cx (qk n (c.below 6).toNat ⟨n,[],[],[],[]⟩ (c.belowC 6)).2:=by
 have af:=gK c;have ad:=c.below_le 6 Ω;obtain⟨K,de⟩:∃K:Nat,K=(c.below 6).toNat:=⟨_,rfl⟩;have ah7:c.below 6=(K:Int):=Ω
 have DU:=aq.below 6;rw[<-de];clear de;refine bL.mk mixed qN Tryz.func20 anF Ψ af.obj fun aR cN=>?_;unfold TS;unfold cx;simp;(with_reducible repeat' first|refine ak ?_|simp);(refine cY.ob (yP c aq 6) (gK _) co co (by simp[inObs,cx,Pv.look]) ?_;rintro r ai ⟨rfl,rfl⟩;refine⟨ji _ _,?_⟩;unfold cx;simp[cc]);rw[ah7];generalize c.belowC 6=bY at DU⊢;have oW:=fun i=>LC au i (Um n au) bY;have eh:=fun i=>Un n i (s:=⟨n,[],[],[],[]⟩) DU;have jr:=fun i=>Uo n i ⟨n,[],[],[],[]⟩ bY;generalize fa:(fun i=>qk n i ⟨n,[],[],[],[]⟩ bY)=F;have DL:∀i,qk n i ⟨n,[],[],[],[]⟩ bY=F i:=fun i=>by rw[<-fa]
 have rN:F 0=(⟨n,[],[],[],[]⟩,bY):=by rw[<-fa];rfl
 simp only[DL]at oW eh jr⊢;clear fa DL;refine hH (fun i (q:Bool)=>⟨[(0,.ptr (.obj 401) 0),(1,.int .i64 n),(6,.ptr (.loc 0) 0),(7,.ptr (.loc 1) 0),(8,.int .i64 (K-i))],[(.obj 401,(F i).2.e),(.loc 0,[.int .i64 0,.slice 5 .nil [],.slice 1 .nil [],.slice 2 .nil [],.slice 2 .nil []]),(.loc 1,tX n q (F i).1)],[],2,[.obj 401]⟩) K (fun i q=>q=true->(F i).1=⟨n,[],[],[],[]⟩) true ⟨by simp[fresh,aP,aK,cq,inObs,Pv.look,rX,rN,tX],et (by simp[fresh,aP,aK,cq,inObs,Pv.look,rX,rN,tX]),eu (by simp[fresh,aP,aK,ee,inObs,Pv.look,rX,rN,tX]),Ψ⟩ (fun _=>by rw[rN]) (fun q ag _=>?_) (fun i q hi ag _=>?_)
 ·have HJ:=oW K;have VX:=eh K;generalize F K=fK at ag HJ VX⊢;obtain⟨s,k8⟩:=fK;simp only at ag HJ VX⊢;have aC:=HJ.s;have jt:=aq1 s aC.ok.1.b.len (fun z a8=>(aC.ok.1.d z a8).len) (by have:=o5 aC.ok.1.k;omega) (aC.tg.w.len aC.ok.1.m);clear oW eh jr HJ;obtain⟨r9,b,d,k,m⟩:=s;have ajA:r9=n:=aC.n;subst ajA;simp only[bd.e]at jt⊢;clear aC;cases q
  ·simp only[tX,hk,if_false,AE];clear ag;simp;(with_reducible repeat' first|refine ak ?_|refine aF jt ?_|refine aG jt ?_|simp);(refine cR.at (cx (k8)) (.inl rfl) (gK _) (ji _ _) co co ?_;simp[cV,aY,a6,aX,cx])
  ·have ag:=ag rfl;simp only[bd.mk.injEq,true_and]at ag;obtain⟨rfl,rfl,rfl,rfl⟩:=ag;simp only[tX,if_true,nS]at jt⊢;simp;(with_reducible repeat' first|refine ak ?_|refine aF jt ?_|refine aG jt ?_|simp);(refine cR.at (cx (k8)) (.inl rfl) (gK _) (ji _ _) co co ?_;simp[cV,aY,a6,aX,cx])
 ·have hdi:=oW i;have jF:=eh i;have hy:=jr i;have hle:i<=4:=Ω
  generalize F i=AY at ag hdi jF hy⊢;obtain⟨s,k8⟩:=AY;simp only at ag hdi jF hy⊢;have vF:=Dl 3 n _ jF;have ab:=AP (n:=n) Ω (z:=3) Ω k8;have uk:=vF.below 4;have atc:=(eC 3 n k8).2.below_le 4 Ω;have aB:=AP (n:=n) Ω (z:=5) Ω ((eC 3 n k8).2.belowC 4);have VU:=Dl 5 n _ uk;have VV:=VU.below 2;have od:=(eC 5 n ((eC 3 n k8).2.belowC 4)).2.below_le 2 Ω;have ath:=VV.below 2;have fC:=aq0 hdi.s (by have:=hdi.k;omega) (kd:=(eC 3 n k8).2.below 4) Ω ab aB (k:=2+(eC 5 n ((eC 3 n k8).2.belowC 4)).2.below 2) Ω (ap7 (((eC 5 n ((eC 3 n k8).2.belowC 4)).2.belowC 2).below 2));obtain⟨t,gq,fC,aE,bA⟩:=fC;have uJ:=Mj n Ω 3 Ω k8 jF;have js:=yP (eC 3 n k8).2 vF 4;have kf:=Mj n Ω 5 Ω _ uk;have dg:=yP _ VU 2;have jX:=ahj _ VV;unfold Aa at hy;clear oW eh jr hdi ab aB;generalize eC 3 n k8=fc at*;obtain⟨x,cB⟩:=fc;simp only at*;generalize cB.below 4=kd at*;generalize cB.belowC 4=dE at*;generalize eC 5 n dE=gh at*;obtain⟨y,kV⟩:=gh;simp only at*;generalize kV.below 2=bh at*;generalize kV.belowC 2=lG at*;generalize yb (lG.below 2)=g at*;generalize lG.belowC 2=oS at*;have jm:(K:Int)-i-1=K-(i+1):=Ω
  have gZ:pQ (2+bh):=by unfold pQ;omega
  have vM:(0:Int)<(K:Int)-i:=Ω
  have xu:F (i+1)=(if gq then t else s,oS):=by
   cases gq
   ·rw[hy,bA rfl];rfl
   ·rw[hy,aE rfl];rfl
  have au:(q&& !gq)=true->(F (i+1)).1=⟨n,[],[],[],[]⟩:=fun h=>by rw[cv,oJ]at h;rw[xu,h.2];exact ag h.1
  clear hy aE bA;cases q;rotate_left;obtain rfl:=ag rfl;rotate_left;all_goals cases gq
  all_goals(try obtain⟨r9,b,d,k,m⟩:=s)
  all_goals obtain⟨qL,qI,qJ,qK,tm⟩:=t
  all_goals simp only[bd.e,nS]at fC⊢
  all_goals simp only[tX,hk,if_false,if_true,AE]
  all_goals simp[hi]
  all_goals(with_reducible repeat' first|refine ak ?_|simp[hi])
  all_goals(refine cY.ob (uJ) (gK _) co co (by simp[inObs,cx,Pv.look]) ?_;rintro r ai ⟨rfl,rfl⟩;refine⟨ji _ _,?_⟩;unfold cx;simp[cc])
  all_goals(with_reducible repeat' first|refine ak ?_|simp)
  all_goals(refine hs.ob (js) (gK _) (gK _) (ji _ _) co co (by simp[inObs,cx,Pv.look]) ?_;unfold cx;simp[cc])
  all_goals(with_reducible repeat' first|refine ak ?_|simp)
  all_goals(refine hs.ob (kf) (gK _) (gK _) (ji _ _) co co (by simp[inObs,cx,Pv.look]) ?_;unfold cx;simp[cc])
  all_goals(with_reducible repeat' first|refine ak ?_|simp)
  all_goals(refine hs.ob (dg) (gK _) (gK _) (ji _ _) co co (by simp[inObs,cx,Pv.look]) ?_;unfold cx;simp[cc])
  all_goals(with_reducible repeat' first|refine ak ?_|simp)
  all_goals(refine hs.ob (jX) (gK _) (gK _) (ji _ _) co co (by simp[inObs,cx,Pv.look]) ?_;unfold cx;simp[cc])
  all_goals(with_reducible repeat' first|refine ak ?_|refine aF fC ?_|refine aG fC ?_|simp[jm])
  all_goals refine bS.rng (n:=K) _ hi au ⟨by simp[fresh,aP,aK,cq,inObs,Pv.look,rX,xu,jm,tX,AE],et (by simp[fresh,aP,aK,cq,inObs,Pv.look,rX,xu,jm,tX,AE]),eu (by simp[fresh,aP,aK,ee,inObs,Pv.look,rX,xu,jm,tX,AE]),Ψ⟩
theorem abo(d:List Int)(aD:sv d)(aw:d.length<=10000000)(p:Nat)(bG:p<=1000000)(n:Nat)(au:n<=100000):bR aA 6 [.slice 1 .no (iv d),.int .i64 p,.int .i64 n] (BS d p n).e:=by have ll:=ahl n au (kp d p) (G4 aD aw p);have ga:(qk n ((kp d p).below 6).toNat ⟨n,[],[],[],[]⟩ ((kp d p).belowC 6)).1=BS d p n:=rfl;rw[ga]at ll;generalize BS d p n=s at ll⊢;generalize (qk n ((kp d p).below 6).toNat ⟨n,[],[],[],[]⟩ ((kp d p).belowC 6)).2=cr at ll;clear ga;obtain⟨r9,b,e,k,m⟩:=s;simp only[bd.e]at ll⊢;refine br qN Tryz.func6 am3 fun aR=>?_;unfold Ti;simp;refine cY.new (Mk d aD aw p bG) ((dP.of ⟨by intro m;simp[Pv.look],by intro m;simp[Pv.look]⟩ d9 d9)) aL aL Ψ ?_;rintro r ai ⟨rfl,rfl⟩;refine⟨fun m _=>.inr Ψ,?_⟩;unfold cx;simp[cc];(refine cY.ob (ll) (gK _) co co (by simp[inObs,cx,Pv.look]) ?_;rintro r ai ⟨rfl,rfl⟩;refine⟨ji _ _,?_⟩;unfold cx;simp[cc]);exact cu
end
end Go.Proofs.YtohaalphocaebaaGreatDoor
