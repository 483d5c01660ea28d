/- Contracts: IsSolution of both sides, where it is one. -/
import Derived.Test.YtohaalphocaebaaGreatDoorProg
import Derived.Test.YtohaalphocaebaaGreatDoorY4
set_option linter.all false
set_option maxHeartbeats 4000000
set_option maxRecDepth 4000
open Bool renaming and_eq_true->cE,eq_iff_iff->p1,false_eq_true->gO,not_eq_true'->rC,or_eq_true->l4
open Go.IntKind renaming i64->nk
open Go.IntWalk renaming i64_in->mB
open Go.Op renaming bytesLess->hE
open Go.Proofs.Tryz renaming prog->az
open Int renaming natCast_nonneg->rE
open Int.ofNat renaming inj->ar4
open List renaming all_eq_true->fM,cons_append->bO,drop_eq_getElem_cons->kX,getElem?_eq_getElem->cf,getElem?_eq_none->qF,getElem?_eq_some_iff->fb,getElem_of_mem->nX,length_append->pf,length_cons->l5,length_drop->sZ,map_cons->hk,map_nil->qG,mem_append->ih,mem_cons->fD,mem_cons_of_mem->oE,mem_filter->lC,mem_map->iy,mem_of_getElem?->ed,mem_singleton->oF,pairwise_cons->mC,pairwise_iff_getElem->pg,take->pj,take_length->l6,take_of_length_le->hx
open List.Pairwise renaming filter->Ox
open List.cons renaming injEq->xE
open Nat renaming le_refl->eX,le_trans->kn,strongRecOn->rF
open Option renaming bind_eq_some_iff->iJ,bind_some->jK,getD_none->l7,getD_some->jL,isSome_iff_exists->fE,isSome_none->lD,isSome_some->oG,map_eq_some_iff->gk
open Option.some renaming inj->eJ,injEq->dC
open _root_ renaming False->eW,beq_iff_eq->dL,congrArg->eK,decide_eq_false->ij,decide_eq_false_iff_not->gC,decide_eq_true->gD,decide_eq_true_eq->e6
namespace Go.Proofs.YtohaalphocaebaaGreatDoor
section
open Go Go.Pv
def bP.e(s:bP):ai:= .agg [.int .i64 s.n,.slice 5 .no (s.b.map ak.e),.slice 1 .no (s.d.map cM),.slice 2 .no (s.k.map b6.e),.slice 2 .no (s.m.map bo.e)]
@[simp]theorem aqi(S:aL->Prop)(s:bP):aG S s.e=True:=by simp[bP.e,aG,aP]
def vC(o:Option bP):ai:= .tuple [(o.getD iI).e,.bool o.isSome]
@[simp]theorem aqh(S:aL->Prop)(o:Option bP):aG S (vC o)=True:=by simp[vC,aG,aP]
def vd(k:List b6)(i:Nat)(l:List (Int×Bool)):Prop:= ∀v,(tg v l).getD false=(k.take i).any fun x=>x.v==v&&x.k==3
theorem vd.put{k:List b6}{i:Nat}{l:List (Int×Bool)}(h:vd k i l){x:b6}(ae:k[i]? =some x)(ar:x.k=3):vd k (i+1) (eS x.v true l):=fun v=>by
 rw[nh,ng ae,List.any_append,<-h v];by_cases e:v=x.v
 ·rw[if_pos e];simp[e,ar]
 ·rw[if_neg e];have:(x.v==v)=false:=by simp;exact fun h=>e h.symm
  simp[this]
theorem vd.skip{k:List b6}{i:Nat}{l:List (Int×Bool)}(h:vd k i l){x:b6}(ae:k[i]? =some x)(ar:¬x.k=3):vd k (i+1) l:=fun v=>by
 rw[ng ae,List.any_append,<-h v];have:(x.k==3)=false:=by simp[ar]
 simp[this]
theorem vd.fin{k:List b6}{l:List (Int×Bool)}(h:vd k k.length l)(ad:gT k)(x:bo):(tg x.v l).getD false= !jG k x:=by rw[h x.v,l6,Zm ad.asc,jG,bne,Bool.not_not]
def tK(k:List b6)(m:List bo)(i:Nat)(a:List bo):Prop:=a=(m.take i).filter (jG k)
theorem tK.step{k:List b6}{m:List bo}{i:Nat}{a:List bo}(h:tK k m i a){x:bo}(ae:m[i]? =some x):tK k m (i+1) (if jG k x=true then a++[x]else a):=by
 rw[tK,ng ae,List.filter_append,<-h];by_cases e:jG k x=true
 ·rw[if_pos e];simp[e]
 ·rw[if_neg e];simp[e]
theorem AN(S:aL->Prop)(l:List bo)(d:bo):aP S (l.map bo.e++[d.e])=True:=by have:=LC S (l++[d]);rw[List.map_append]at this;exact eq_true this
theorem UW{k:List b6}{m:List bo}(h:jb m):jb (m.filter (jG k)):=⟨fun x ae=>h.at' x (lC.1 ae).1,Ox _ h.asc⟩
theorem NL{G:List (List UInt8)}{k:List b6}{m:List bo}(h:kU G m):kU G (m.filter (jG k)):=fun x ae=>h x (lC.1 ae).1
theorem qo.skip{b:List ak}{k:List b6}{m:List bo}{D:List (List ak)}{i:Nat}{a:List (List ak)}(h:qo b k m D i a){d:List ak}(aN:D[i]? =some d)(he:∀r,fG b k m (d::r)=fG b k m r):qo b k m D (i+1) a:=⟨by have:=h.1;omega,h.2.1,by rw[<-h.2.2,AS aN,he]⟩
theorem qo.snoc{b:List ak}{k:List b6}{m:List bo}{D:List (List ak)}{i:Nat}{a:List (List ak)}(h:qo b k m D i a){d x:List ak}(aN:D[i]? =some d)(ae:eN x)(he:∀r,fG b k m (d::r)=(fG b k m r).map (x:: ·)):qo b k m D (i+1) (a++[x]):=
 ⟨by have:=h.1;simp;omega,fun y aH=>by
  rcases ih.1 aH with aH|aH
  ·exact h.2.1 y aH
  ·simp at aH;subst aH;exact ae,by
  rw[<-h.2.2,AS aN,he,Option.map_map];congr 1;funext r;simp⟩
theorem qo.stop{b:List ak}{k:List b6}{m:List bo}{D:List (List ak)}{i:Nat}{a:List (List ak)}(h:qo b k m D i a){d:List ak}(aN:D[i]? =some d)(he:∀r,fG b k m (d::r)=none):fG b k m D=none:=by rw[<-h.2.2,AS aN,he];rfl
theorem qo.fin{b:List ak}{k:List b6}{m:List bo}{D:List (List ak)}{a:List (List ak)}(h:qo b k m D D.length a):fG b k m D=some a:=by rw[<-h.2.2,List.drop_length];simp[fG]
theorem tN(S:aL->Prop)(l:List (List ak))(d:List ak):aP S (l.map cM++[.slice 5 .no (d.map ak.e)])=True:=yE S l d
theorem Ck{d:List ak}(aN:eN d):∀e∈gY d,e.1.ok=true/\e.2.ok=true:=fun e he=>by obtain⟨c,aq,rfl⟩:=iy.1 he;have:=aN.ok c aq;exact⟨by simpa[T.ok]using this.1,this.2⟩
theorem anj{s:bP}(h:hW s){G:List (List UInt8)}(jS:G.length<=687000)(aX:kU G s.m):bZ az 42 [s.e] (vC (gq s)):=by
 generalize dk:gq s=O;have kO:=X6 h.b h.k;have kP:=X7 h.b h.m jS aX;have kv:=fun k=>HH (acc:=[]) (a:=k) h.b h.k.at' ⟨Ψ,Ψ⟩;have qx:=fun m=>D5 (acc:=[]) (a:=m) h.b h.m.at' ⟨Ψ,by simp[hF]⟩;have nx:=fun m=>HJ (acc:=[]) (a:=m) (s:=s.b) aX (fun x ae=>by simp at ae);have ab:=h.b;have aN:=h.d;clear h aX;unfold gq at dk;obtain⟨n,b,d,hb,m0⟩:=s;simp only at kO kP kv qx nx ab aN dk;have e8:=ab.len;simp only[bP.e];generalize fU b hb []=ok at kO dk kv;generalize fQ b m0 []=om at kP dk qx nx;cases ok with
 |none=>
  simp only at dk;subst dk;simp only[gb]at kO;simp only[iF]at kP;clear kv qx nx;refine bz oz JX Mn fun aT=>?_;unfold Fi;simp;(with_reducible repeat' first|refine aj ?_|refine aD kO ?_|refine aE kO ?_|refine aD kP ?_|refine aE kP ?_|simp);all_goals simp[bu,Bl,aW,aY,aV]
  all_goals simp[vC,iI,bP.e]
 |some k=>
  simp only at dk;cases om with
  |none=>
   simp only at dk;subst dk;simp only[gb]at kO;simp only[iF]at kP;clear kv qx nx;refine bz oz JX Mn fun aT=>?_;unfold Fi;simp;(with_reducible repeat' first|refine aj ?_|refine aD kO ?_|refine aE kO ?_|refine aD kP ?_|refine aE kP ?_|simp);all_goals simp[bu,Bl,aW,aY,aV]
   all_goals simp[vC,iI,bP.e]
  |some m=>
   simp only at dk;have wu:=kv k rfl;have yl:=qx m rfl;have ye:=nx m rfl;have hM:=q6 wu;have lq:m.length<=68719470000:=by have:=DC yl ye;omega
   have Am:=UW (k:=k) yl;have Ah:=NL (k:=k) ye;have afm:(m.filter (jG k)).length<=68719470000:=kn (List.length_filter_le _ _) lq;simp only[gb,jL,oG]at kO;simp only[iF,jL,oG]at kP;clear kv qx nx;refine bz oz JX Mn fun aT=>?_;unfold Fi;have tw:d.length<=68719476736:=by simp[gS,gg,gE,lim]at aT;omega
   simp;(with_reducible repeat' first|refine aj ?_|refine aD kO ?_|refine aE kO ?_|refine aD kP ?_|refine aE kP ?_|simp);refine hQ (fun i (l:List (Int×Bool))=>⟨[(1,.ptr (.loc 0) 0),(2,.ptr (.loc 1) 0),(4,.slice 2 .no (k.map b6.e)),(6,.slice 2 .no (m.map bo.e)),(8,.gmap (.loc 2)),(49,.slice 2 .no (k.map b6.e)),(50,.int .i64 k.length),(51,.int .i64 i)],[(.loc 0,[.int .i64 n,.slice 5 .no (b.map ak.e),.slice 1 .no (d.map cM),.slice 2 .no (hb.map b6.e),.slice 2 .no (m0.map bo.e)]),(.loc 1,[.int .i64 0,.slice 5 .nil [],.slice 1 .nil [],.slice 2 .nil [],.slice 2 .nil []]),(.loc 2,qt l)],[],3,[]⟩) k.length (vd k) [] ⟨by simp[fresh,aP,aG,cn,inObs,Pv.look,LQ],en (by simp[fresh,aP,aG,cn,inObs,Pv.look,LQ]),eo (by simp[fresh,aP,aG,dV,inObs,Pv.look,LQ]),Ψ⟩ (fun v=>by simp[tg]) (fun l af _=>?_) (fun i l hi af _=>?_);rotate_left
   ·obtain⟨x,ae,cY⟩:=ec hi;by_cases ar:x.k=3
    ·have ay:=af.put ae ar;clear af ae;exact gN
    ·have ay:=af.skip ae ar;have tq:(x.k==3)=false:=by simp[ar]
     clear af ae;exact gN
   have hints:=af.fin wu;clear af;simp;(with_reducible repeat' first|refine aj ?_|simp);refine hQ (fun i (a:List bo)=>⟨[(1,.ptr (.loc 0) 0),(2,.ptr (.loc 1) 0),(4,.slice 2 .no (k.map b6.e)),(8,.gmap (.loc 2)),(11,.slice 2 (.own (.loc 3)) (a.map bo.e)),(63,.slice 2 .no (m.map bo.e)),(64,.int .i64 m.length),(65,.int .i64 i)],[(.loc 0,[.int .i64 n,.slice 5 .no (b.map ak.e),.slice 1 .no (d.map cM),.slice 2 .no (hb.map b6.e),.slice 2 .no (m0.map bo.e)]),(.loc 1,[.int .i64 0,.slice 5 .nil [],.slice 1 .nil [],.slice 2 .nil [],.slice 2 .nil []]),(.loc 2,qt l)],[(.loc 3,⟨a.length,56,2,none⟩)],4,[]⟩) m.length (tK k m) [] bV (by simp[tK]) (fun a af _=>?_) (fun i a hi af _=>?_);rotate_left
   ·obtain⟨x,ae,cY⟩:=ec hi;have mf:a.length<=68719470000:=by
     have:a.length<=(m.take i).length:=by rw[af];exact List.length_filter_le _ _
     simp at this;omega
    have ay:=af.step ae;have bF:=hints x;cases aR:jG k x
    ·rw[aR]at ay bF;simp only[gO,if_false,Bool.not_false]at ay bF;clear af ae aR;simp[hi,cY];((with_reducible repeat' first|refine aj ?_|simp[hi,cY,bF]|((first|apply bJ|apply bM|apply bL)<;>intro h<;>try simp at h))<;>(try exact cc));all_goals exact bQ.rng a hi ay bV
    ·rw[aR]at ay bF;simp only[if_true,Bool.not_true]at ay bF;clear af ae aR;simp[hi,cY];((with_reducible repeat' first|refine aj ?_|simp[hi,cY,bF]|((first|apply bJ|apply bM|apply bL)<;>intro h<;>try simp at h))<;>(try exact cc));all_goals first|(refine⟨by unfold lim;omega,?_⟩)|skip
     all_goals(with_reducible repeat' first|refine aj ?_|simp)
     all_goals exact bQ.rng (a++[x]) hi ay ⟨by simp[fresh,aP,aG,cn,inObs,Pv.look,AN],en (by simp[fresh,aP,aG,cn,inObs,Pv.look,AN]),eo (by simp[fresh,aP,aG,dV,inObs,Pv.look,AN]),Ψ⟩
   rw[tK,l6]at af;rw[<-af]at Am Ah afm dk;clear af hints hM yl ye;simp;(with_reducible repeat' first|refine aj ?_|simp);refine hQ (fun i (L:List (List ak))=>⟨[(1,.ptr (.loc 0) 0),(2,.ptr (.loc 1) 0),(4,.slice 2 .no (k.map b6.e)),(11,.slice 2 (.own (.loc 3)) (a.map bo.e)),(14,.slice 1 (.own (.loc 4)) (L.map cM)),(81,.slice 1 .no (d.map cM)),(82,.int .i64 d.length),(83,.int .i64 i)],[(.loc 0,[.int .i64 n,.slice 5 .no (b.map ak.e),.slice 1 .no (d.map cM),.slice 2 .no (hb.map b6.e),.slice 2 .no (m0.map bo.e)]),(.loc 1,[.int .i64 0,.slice 5 .nil [],.slice 1 .nil [],.slice 2 .nil [],.slice 2 .nil []])],[(.loc 3,⟨a.length,56,2,none⟩),(.loc 4,⟨L.length,23,1,none⟩)],5,[]⟩) d.length (qo b k a d) [] bV ⟨Ψ,Ψ,Ψ⟩ (fun L af _=>?_) (fun i L hi af _=>?_)
   ·have h0:=af.fin;have wi:=af.2.1;rw[h0]at dk;simp only at dk;have kN:=amv L wi;have iE:bZ az 91 [.slice 5 .no (b.map ak.e)] (.slice 5 .no (b.map ak.e)):=Ya b e8;clear af h0 wi;generalize jY L=M at kN dk;by_cases lK:M.length<=30
    ·have oP:¬(30:Int)<M.length:=Ω
     rw[if_pos lK]at dk;subst dk;simp;(with_reducible repeat' first|refine aj ?_|refine aD kN ?_|refine aE kN ?_|refine aD iE ?_|refine aE iE ?_|simp[lK,oP]);all_goals simp[bu,Bl,aW,aY,aV]
     all_goals simp[vC,bP.e]
    ·have oP:(30:Int)<M.length:=Ω
     rw[if_neg lK]at dk;subst dk;simp;(with_reducible repeat' first|refine aj ?_|refine aD kN ?_|refine aE kN ?_|refine aD iE ?_|refine aE iE ?_|simp[lK,oP]);all_goals simp[bu,Bl,aW,aY,aV]
     all_goals simp[vC,iI,bP.e]
   ·obtain⟨x,ae,cY⟩:=ec hi;have hN:=aN x (ed ae);have SN:=af.1;have gM:bZ az 94 [.slice 5 .no (b.map ak.e),cM x] (fH (mgu b (gY x))):=amr ab hN;simp only[fH]at gM;cases hu:mgu b (gY x)with
    |none=>have ay:=af.skip ae fun r=>LJ hu;rw[hu]at gM;simp only[l7,lD]at gM;clear af ae dk;exact gN
    |some y=>
     have jm:=ab.mgu (Ck hN) hu;rw[hu]at gM;simp only[jL,oG]at gM;have dg:=X6 jm wu;have ea:=X7 jm Am jS Ah;have h4:=amx ab jm;simp only[gb]at dg;simp only[iF]at ea;by_cases jU:fU y k []=none\/fQ y a []=none
     ·have ay:=af.skip ae fun r=>LI hu jU;clear af ae dk hu;rcases jU with e|e
      ·rw[e]at dg;simp only[l7,lD]at dg;exact gN
      ·rw[e]at ea;simp only[l7,lD]at ea;cases (fU y k []).isSome
       ·simp[hi,cY];((with_reducible repeat' first|refine aj ?_|refine aD gM ?_|refine aE gM ?_|refine aD dg ?_|refine aE dg ?_|refine aD ea ?_|refine aE ea ?_|simp[hi,cY]|((first|apply bJ|apply bM|apply bL)<;>intro h<;>try simp at h))<;>(try exact cc));all_goals exact bQ.rng L hi ay bV
       ·simp[hi,cY];((with_reducible repeat' first|refine aj ?_|refine aD gM ?_|refine aE gM ?_|refine aD dg ?_|refine aE dg ?_|refine aD ea ?_|refine aE ea ?_|simp[hi,cY]|((first|apply bJ|apply bM|apply bL)<;>intro h<;>try simp at h))<;>(try exact cc));all_goals exact bQ.rng L hi ay bV
     ·have ao:(fU y k []).isSome=true:=by cases e:fU y k []with|none=>exact absurd (.inl e) jU|some _=>rfl
      have aF:(fQ y a []).isSome=true:=by cases e:fQ y a []with|none=>exact absurd (.inr e) jU|some _=>rfl
      rw[ao]at dg;rw[aF]at ea;by_cases cK:eG b y=[]
      ·have ag:=af.stop ae fun r=>LH hu jU cK;rw[ag]at dk;simp only at dk;subst dk;rw[cK]at h4;simp only[qG]at h4;clear af ae hu jU;simp[hi,cY];((with_reducible repeat' first|refine aj ?_|refine aD gM ?_|refine aE gM ?_|refine aD dg ?_|refine aE dg ?_|refine aD ea ?_|refine aE ea ?_|refine aD h4 ?_|refine aE h4 ?_|simp[hi,cY]|((first|apply bJ|apply bM|apply bL)<;>intro h<;>try simp at h))<;>(try exact cc));all_goals simp[bu,Bl,aW,aY,aV]
       all_goals simp[vC,iI,bP.e]
      ·have ay:=af.snoc ae (DG (b:=b) jm) fun r=>LK hu jU cK;have wx:¬((eG b y).length:Int)=0:=by have:(eG b y).length≠0:=fun h=>cK (List.length_eq_zero_iff.1 h);omega
       have wy:(((eG b y).length:Int)==0)=false:=by simp[cK]
       have GG:bZ az 95 [.slice 5 .no (b.map ak.e),.slice 5 .no (y.map ak.e)] (cM (eG b y)):=h4;clear af ae hu jU dk h4;generalize eG b y=z at GG ay wx wy cK;simp only[cM]at GG;simp[hi,cY];(with_reducible repeat' first|refine aj ?_|refine aD gM ?_|refine aE gM ?_|refine aD dg ?_|refine aE dg ?_|refine aD ea ?_|refine aE ea ?_|refine aD GG ?_|refine aE GG ?_|simp[hi,cY,wx,wy,cK]);all_goals first|(refine⟨by unfold lim;omega,?_⟩)|skip
       all_goals(with_reducible repeat' first|refine aj ?_|simp)
       all_goals exact bQ.rng (L++[z]) hi ay ⟨by simp[fresh,aP,aG,cn,inObs,Pv.look,tN,cM],en (by simp[fresh,aP,aG,cn,inObs,Pv.look,tN,cM]),eo (by simp[fresh,aP,aG,dV,inObs,Pv.look,tN,cM]),Ψ⟩
structure np where
 n:Int
 b:List dF
 d:List (List dF)
 k:List b6
 m:List bo
def bP.r(s:bP):np:=⟨s.n,s.b.map ak.b,s.d.map fun x=>x.map ak.b,s.k,s.m⟩
def sP(r:np):Prop:= ∃s:bP,r=s.r/\nf s
def kr(n:Int)(x:List dF):Prop:= ∃s:List ak,x=s.map ak.b/\eN s/\oM s n
structure M2 (r:np):Prop where
 n:0<=r.n/\r.n<=100000
 b:kr r.n r.b
 d:∀x∈r.d,kr r.n x
 k:gT r.k
 m:jb r.m
 kb:∀x∈r.k,x.v<r.n
 mb:∀x∈r.m,x.v<r.n
theorem sP.raw{r:np}(h:sP r):M2 r:=by obtain⟨s,rfl,J,_⟩:=h;exact⟨J.n,⟨s.b,rfl,J.b,J.bb⟩,fun x ae=>by obtain⟨y,aH,rfl⟩:=iy.1 ae;exact⟨y,rfl,J.d y aH,J.db y aH⟩,J.k,J.m,J.kb,J.mb⟩
theorem pz:∀{a b:List ak},a.map ak.b=b.map ak.b->a=b
 |[],b,h=>by cases b<;>simp at h⊢
 |x::a,[],h=>by simp at h
 |x::a,y::b,h=>by simp only[hk,xE,ak.b,dF.mk.injEq]at h;rw[pz h.2];have:=XH h.1.2;obtain⟨⟨J,_⟩,_⟩:=h;cases x;cases y;simp_all
theorem O1:∀{a b:List (List ak)},(a.map fun x=>x.map ak.b)=(b.map fun x=>x.map ak.b)->a=b
 |[],b,h=>by cases b<;>simp at h⊢
 |x::a,[],h=>by simp at h
 |x::a,y::b,h=>by rw[hk,hk,xE]at h;rw[O1 h.2,pz h.1]
theorem bP.r_inj{s t:bP}(h:s.r=t.r):s=t:=by obtain⟨n,b,d,k,m⟩:=s;obtain⟨n',b0,cl,bI,h5⟩:=t;simp only[bP.r,np.mk.injEq]at h;obtain⟨J,U,ar,a8,b8⟩:=h;rw[J,pz U,O1 ar,a8,b8]
theorem Ru{n:Int}:∀{d:List (List dF)},(∀x∈d,kr n x)->∃D:List (List ak),d=(D.map fun x=>x.map ak.b)/\(∀x∈D,eN x)/\∀x∈D,oM x n
 |[],_=>⟨[],rfl,Ψ,Ψ⟩
 |x::d,h=>by
  obtain⟨D,J,U,ar⟩:=Ru (d:=d) fun y aH=>h y (by simp[aH]);obtain⟨s,ao,aF,bA⟩:=h x Ψ;refine⟨s::D,by rw[J,ao];rfl,fun y aH=>?_,fun y aH=>?_⟩
  ·rcases fD.1 aH with rfl|aH
   ·exact aF
   ·exact U y aH
  ·rcases fD.1 aH with rfl|aH
   ·exact bA
   ·exact ar y aH
theorem Xz{s:bP}(h:hW s):sP s.r↔gq s=some s:=by
 constructor
 ·rintro⟨t,e,_,U⟩;rw[bP.r_inj e];exact U
 ·intro U;exact⟨s,rfl,h,U⟩
theorem xk{l:List dF}:IJ l↔∃s:List ak,l=s.map ak.b/\eN s:=⟨fun⟨s,J,U,ar,a8⟩=>⟨s,J,U,ar,a8⟩,fun⟨s,J,U⟩=>⟨s,J,U.ok,U.sol,U.fits⟩⟩
def rO{α:Type}(a b:List α)(i:Nat)(_:Unit):Prop:= ∀k,k<i->a[k]? =b[k]?
theorem rO.fin{α:Type}{a b:List α}(h:rO a b b.length ())(av:a.length=b.length):a=b:=by
 apply List.ext_getElem?;intro k;by_cases ad:k<b.length
 ·exact h k ad
 ·rw[qF Ω,qF Ω]
theorem rO.step{α:Type}{a b:List α}{i:Nat}(h:rO a b i ()){x:α}(bk:a[i]? =some x)(ab:b[i]? =some x):rO a b (i+1) ():=fun k ad=>by
 rcases(by omega:k<i\/k=i)with J|rfl
 ·exact h k J
 ·rw[bk,ab]
def sp{α:Type}(p:α->Prop)(s:List α)(i:Nat)(_:Unit):Prop:= ∀k b,k<i->s[k]? =some b->p b
theorem sp.step{α:Type}{p:α->Prop}{s:List α}{i:Nat}(h:sp p s i ()){b:α}(ab:s[i]? =some b)(bK:p b):sp p s (i+1) ():=fun k c ad aq=>by
 rcases(by omega:k<i\/k=i)with J|rfl
 ·exact h k c J aq
 ·rw[ab]at aq;cases aq;exact bK
theorem sp.fin{α:Type}{p:α->Prop}{s:List α}(h:sp p s s.length ()):∀b∈s,p b:=fun b ab=>by obtain⟨k,ad,e⟩:=nX ab;exact h k b ad (by rw[cf ad,e])
@[simp]theorem anX(neg:Bool)(x y:b6):iB neg (some [false,false]) x.e y.e=some (True,.bool (if neg then !decide (x=y)else decide (x=y))):=by
 have h:(x.v==y.v&&(x.k==y.k&&true))=decide (x=y):=by rw[p1];simp only[Bool.and_true,cE,dL,e6];cases x;cases y;simp
 rw[<-h];rfl
@[simp]theorem anY(neg:Bool)(x y:bo):iB neg (some [false,true]) x.e y.e=some (True,.bool (if neg then !decide (x=y)else decide (x=y))):=by
 have h:(x.v==y.v&&(x.s==y.s&&true))=decide (x=y):=by rw[p1];simp only[Bool.and_true,cE,dL,e6];cases x;cases y;simp
 rw[<-h];rfl
theorem amD(x y:List ak)(h:x.length<=1000000):bZ az 99 [cM x,cM y] (.bool (decide (x=y))):=Yb x y h
theorem ani(a c:bP)(nA:a.b.length<=1000000)(CG:∀x∈a.d,x.length<=1000000):bZ az 46 [a.e,c.e] (.bool (decide (a=c))):=by
 obtain⟨n,b,d,k,m⟩:=a;obtain⟨n',b0,cl,bI,h5⟩:=c;simp only at nA CG;generalize bG:decide ((⟨n,b,d,k,m⟩:bP)=⟨n',b0,cl,bI,h5⟩)=R;simp only[bP.mk.injEq,bP.e]at bG⊢;by_cases a6:n=n';rotate_left
 ·have fY:R=false:=by rw[<-bG];simp[a6]
  have ua:(n !=n')=true:=by simp[a6]
  rw[fY];clear bG fY;refine bz oz zS Ba fun aT=>?_;unfold xT;exact cD
 subst a6;have fC:=Yb b b0 nA;by_cases bD:b=b0;rotate_left
 ·have fY:R=false:=by rw[<-bG];simp[bD]
  rw[ij bD]at fC;rw[fY];clear bG fY;refine bz oz zS Ba fun aT=>?_;unfold xT;exact cD
 subst bD;rw[gD rfl]at fC;by_cases bY:d.length=cl.length;rotate_left
 ·have fY:R=false:=by rw[<-bG];simp only[gC];rintro⟨_,_,rfl,_⟩;exact bY rfl
  have sD:((d.length:Int) !=cl.length)=true:=by simp;omega
  rw[fY];clear bG fY;refine bz oz zS Ba fun aT=>?_;unfold xT;exact cD
 by_cases c5:k.length=bI.length;rotate_left
 ·have fY:R=false:=by rw[<-bG];simp only[gC];rintro⟨_,_,_,rfl,_⟩;exact c5 rfl
  have aj8:((k.length:Int) !=bI.length)=true:=by simp;omega
  rw[fY];clear bG fY;refine bz oz zS Ba fun aT=>?_;unfold xT;exact cD
 by_cases dc:m.length=h5.length;rotate_left
 ·have fY:R=false:=by rw[<-bG];simp only[gC];rintro⟨_,_,_,_,rfl⟩;exact dc rfl
  have aj9:((m.length:Int) !=h5.length)=true:=by simp;omega
  rw[fY];clear bG fY;refine bz oz zS Ba fun aT=>?_;unfold xT;exact cD
 have yp:d≠cl->R=false:=fun h=>by rw[<-bG];simp[h]
 have yq:k≠bI->R=false:=fun h=>by rw[<-bG];simp[h]
 have KT:m≠h5->R=false:=fun h=>by rw[<-bG];simp[h]
 refine bz oz zS Ba fun aT=>?_;unfold xT;have afb:cl.length<=68719476736:=by simp[gS,gg,gE,lim]at aT;omega
 have afc:bI.length<=68719476736:=by simp[gS,gg,gE,lim]at aT;omega
 have afd:h5.length<=68719476736:=by simp[gS,gg,gE,lim]at aT;omega
 clear aT;simp;(with_reducible repeat' first|refine aj ?_|refine aD fC ?_|refine aE fC ?_|simp[bY,c5,dc]);have cF:=yp;refine dW [2,3,50] (fun i (_:Unit)=>[(51,.int .i64 i)]) cl.length (rO d cl) () bV (fun k ad=>Ω) (fun _ af _=>?_) (fun i _ hi af _=>?_);rotate_left
 ·obtain⟨x,ae⟩:∃x,d[i]? =some x:=⟨_,cf Ω⟩;obtain⟨y,aH⟩:∃y,cl[i]? =some y:=⟨_,cf hi⟩;have gn:i<d.length:=Ω
  have cY:∀h,(d[i]'h)=x:=fun h=>by rw[cf gn]at ae;exact eJ ae
  have eB:∀h,(cl[i]'h)=y:=fun h=>by rw[cf hi]at aH;exact eJ aH
  have fC:=amD x y (CG x (ed ae));by_cases q:x=y
  ·subst q;have ay:=af.step ae aH;rw[gD rfl]at fC;clear af ae aH;simp[hi,gn,cY,eB,-iB];(with_reducible repeat' first|refine aj ?_|refine aD fC ?_|refine aE fC ?_|simp[cY,eB,hi,gn,-iB]);all_goals exact bQ.rng () hi ay bV
  ·rw[cF (fun h=>q (by rw[h]at ae;rw[ae]at aH;exact eJ aH))];rw[ij q]at fC;clear af ae aH;simp[hi,gn,cY,eB,-iB];(with_reducible repeat' first|refine aj ?_|refine aD fC ?_|refine aE fC ?_|simp[cY,eB,hi,gn,q,-iB]);all_goals simp[bu,Hx,aW,aY,aV]
 have dp:=af.fin bY;subst dp;clear af cF yp bY;simp;(with_reducible repeat' first|refine aj ?_|simp[c5]);have cF:=yq;refine dW [2,3,69] (fun i (_:Unit)=>[(70,.int .i64 i)]) bI.length (rO k bI) () bV (fun k ad=>Ω) (fun _ af _=>?_) (fun i _ hi af _=>?_);rotate_left
 ·obtain⟨x,ae⟩:∃x,k[i]? =some x:=⟨_,cf Ω⟩;obtain⟨y,aH⟩:∃y,bI[i]? =some y:=⟨_,cf hi⟩;have gn:i<k.length:=Ω
  have cY:∀h,(k[i]'h)=x:=fun h=>by rw[cf gn]at ae;exact eJ ae
  have eB:∀h,(bI[i]'h)=y:=fun h=>by rw[cf hi]at aH;exact eJ aH
  have fC:=True.intro;by_cases q:x=y
  ·subst q;have ay:=af.step ae aH;skip;clear af ae aH;simp[hi,gn,cY,eB,-iB];(with_reducible repeat' first|refine aj ?_|refine aD fC ?_|refine aE fC ?_|simp[cY,eB,hi,gn,-iB]);all_goals exact bQ.rng () hi ay bV
  ·rw[cF (fun h=>q (by rw[h]at ae;rw[ae]at aH;exact eJ aH))];skip;clear af ae aH;simp[hi,gn,cY,eB,-iB];(with_reducible repeat' first|refine aj ?_|refine aD fC ?_|refine aE fC ?_|simp[cY,eB,hi,gn,q,-iB]);all_goals simp[bu,Hx,aW,aY,aV]
 have dp:=af.fin c5;subst dp;clear af cF yq c5;simp;(with_reducible repeat' first|refine aj ?_|simp[dc]);have cF:=KT;refine dW [2,3,87] (fun i (_:Unit)=>[(88,.int .i64 i)]) h5.length (rO m h5) () bV (fun k ad=>Ω) (fun _ af _=>?_) (fun i _ hi af _=>?_);rotate_left
 ·obtain⟨x,ae⟩:∃x,m[i]? =some x:=⟨_,cf Ω⟩;obtain⟨y,aH⟩:∃y,h5[i]? =some y:=⟨_,cf hi⟩;have gn:i<m.length:=Ω
  have cY:∀h,(m[i]'h)=x:=fun h=>by rw[cf gn]at ae;exact eJ ae
  have eB:∀h,(h5[i]'h)=y:=fun h=>by rw[cf hi]at aH;exact eJ aH
  have fC:=True.intro;by_cases q:x=y
  ·subst q;have ay:=af.step ae aH;skip;clear af ae aH;simp[hi,gn,cY,eB,-iB];(with_reducible repeat' first|refine aj ?_|refine aD fC ?_|refine aE fC ?_|simp[cY,eB,hi,gn,-iB]);all_goals exact bQ.rng () hi ay bV
  ·rw[cF (fun h=>q (by rw[h]at ae;rw[ae]at aH;exact eJ aH))];skip;clear af ae aH;simp[hi,gn,cY,eB,-iB];(with_reducible repeat' first|refine aj ?_|refine aD fC ?_|refine aE fC ?_|simp[cY,eB,hi,gn,q,-iB]);all_goals simp[bu,Hx,aW,aY,aV]
 have dp:=af.fin dc;subst dp;have fY:R=true:=by rw[<-bG];simp
 rw[fY];exact cD
def np.e(r:np):ai:= .agg [.int .i64 r.n,.slice 5 .no (r.b.map dF.e),.slice 1 .no (r.d.map lJ),.slice 2 .no (r.k.map b6.e),.slice 2 .no (r.m.map bo.e)]
theorem Eu(s:bP):s.r.e=s.e:=by simp only[bP.r,np.e,bP.e,qu,JF]
theorem amz(x:List dF):bZ az 53 [lJ x] (.bool (gz x)):=NY x
open Classical in
theorem X8(r:np)(gJ:jb r.m->o7 r.m):bZ az 22 [r.e] (.bool (decide (sP r))):=by
 generalize bG:decide (sP r)=R;have cF:¬M2 r->R=false:=fun h=>by rw[<-bG,gC];exact fun b4=>h b4.raw
 obtain⟨n,b,d,k,m⟩:=r;simp only[np.e]at gJ⊢;by_cases g1:n<0
 ·rw[cF fun h=>by have:=h.n.1;simp only at this;omega];refine bz oz xV yR fun aT=>?_;unfold vT;exact cD
 by_cases g2:100000<n
 ·rw[cF fun h=>by have:=h.n.2;simp only at this;omega];refine bz oz xV yR fun aT=>?_;unfold vT;exact cD
 have lU:bZ az 53 [.slice 5 .no (b.map dF.e)] (.bool (gz b)):=NY b;cases g3:gz b
 ·rw[cF fun h=>by obtain⟨s,ao,aF,_⟩:=h.b;have:=rn.2 (xk.2 ⟨s,ao,aF⟩);simp only at this;rw[g3]at this;cases this]
  rw[g3]at lU;refine bz oz xV yR fun aT=>?_;unfold vT;exact cD
 rw[g3]at lU;obtain⟨s,rfl,ag⟩:=xk.1 (rn.1 g3);clear g3;rw[qu]at lU⊢;have dg:=X2 k;by_cases g4:gT k;rotate_left
 ·rw[cF fun h=>g4 h.k];rw[ij g4]at dg;refine bz oz xV yR fun aT=>?_;unfold vT;exact cD
 rw[gD g4]at dg;have ea:=X4 m;by_cases g5:jb m;rotate_left
 ·rw[cF fun h=>g5 h.m];rw[ij g5]at ea;refine bz oz xV yR fun aT=>?_;unfold vT;exact cD
 rw[gD g5]at ea;have eC:=X9 ag (n:=n) Ω;cases g6:s.all (k0 n)
 ·rw[cF fun h=>by obtain⟨ah,ao,_,bA⟩:=h.b;have dr:=pz ao;subst dr;rw[vS.2 bA]at g6;cases g6]
  rw[g6]at eC;refine bz oz xV yR fun aT=>?_;unfold vT;have LF:=eC;exact cD
 rw[g6]at eC;have cI:=vS.1 g6;clear g6;have tD:=gJ g5;have lq:=tD.len g5;refine bz oz xV yR fun aT=>?_;unfold vT;have tw:d.length<=68719476736:=by simp[gS,gg,gE,lim]at aT;omega
 have hM:=q6 g4;clear aT gJ;simp;(with_reducible repeat' first|refine aj ?_|refine aD lU ?_|refine aE lU ?_|refine aD dg ?_|refine aE dg ?_|refine aD ea ?_|refine aE ea ?_|refine aD eC ?_|refine aE eC ?_|simp[g1,g2]);refine dW [1,46,47] (fun i (_:Unit)=>[(48,.int .i64 i)]) d.length (sp (kr n) d) () bV (fun k b ad=>Ω) (fun _ af _=>?_) (fun i _ hi af _=>?_);rotate_left
 ·obtain⟨x,ae,cY⟩:=ec hi;have De:=ed ae;have c7:=amz x;cases mL:gz x
  ·rw[cF fun h=>by obtain⟨ah,ao,aF,_⟩:=h.d x De;rw[rn.2 (xk.2 ⟨ah,ao,aF⟩)]at mL;cases mL]
   rw[mL]at c7;clear af ae De;exact cD
  ·rw[mL]at c7;obtain⟨y,rfl,aH⟩:=xk.1 (rn.1 mL);clear mL;rw[JE]at c7;have jF:bZ az 56 [cM y,.int .i64 n] (.bool (y.all (k0 n))):=X9 aH (n:=n) Ω;have apy:∀h,lJ (d[i]'h)=cM y:=fun h=>by rw[cY h,JE]
   cases rY:y.all (k0 n)
   ·rw[cF fun h=>by obtain⟨ah,ao,_,bA⟩:=h.d _ De;have dr:=pz ao;subst dr;rw[vS.2 bA]at rY;cases rY]
    rw[rY]at jF;clear af ae De cY;exact cD
   ·rw[rY]at jF;have ay:=af.step ae ⟨y,rfl,aH,vS.1 rY⟩;clear af ae De cY;exact gN
 obtain⟨D,rfl,r2,Kn⟩:=Ru af.fin;clear af;simp only[JF];simp;(with_reducible repeat' first|refine aj ?_|simp);refine dW [1,64,65] (fun i (_:Unit)=>[(66,.int .i64 i)]) k.length (sp (fun x=>x.v<n) k) () bV (fun k b ad=>Ω) (fun _ af _=>?_) (fun i _ hi af _=>?_);rotate_left
 ·obtain⟨x,ae,cY⟩:=ec hi;by_cases mL:x.v<n
  ·have x6:¬n<=x.v:=Ω
   have ay:=af.step ae mL;clear af ae;exact gN
  ·have x6:n<=x.v:=Ω
   rw[cF fun h=>mL (h.kb x (ed ae))];clear af ae;exact cD
 have yf:=af.fin;clear af;simp;(with_reducible repeat' first|refine aj ?_|simp);have qh:=yf;refine dW [1,77,78] (fun i (_:Unit)=>[(79,.int .i64 i)]) m.length (sp (fun x=>x.v<n) m) () bV (fun k b ad=>Ω) (fun _ af _=>?_) (fun i _ hi af _=>?_);rotate_left
 ·obtain⟨x,ae,cY⟩:=ec hi;by_cases mL:x.v<n
  ·have x6:¬n<=x.v:=Ω
   have ay:=af.step ae mL;clear af ae;exact gN
  ·have x6:n<=x.v:=Ω
   rw[cF fun h=>mL (h.mb x (ed ae))];clear af ae;exact cD
 have yf:=af.fin;clear af;simp;(with_reducible repeat' first|refine aj ?_|simp);have og:=yf;have da:hW ⟨n,s,D,k,m⟩:=⟨by simp only;omega,ag,r2,g4,g5,cI,Kn,qh,og⟩;have u0:=Xz da;obtain⟨G,jS,aX⟩:=tD;have dJ:=anj da jS aX;have lr:sP ⟨n,s.map ak.b,D.map fun x=>x.map ak.b,k,m⟩↔gq ⟨n,s,D,k,m⟩=some ⟨n,s,D,k,m⟩:=u0;clear u0 cF;simp only[vC]at dJ;cases lP:gq ⟨n,s,D,k,m⟩with
 |none=>
  rw[lP]at dJ lr;have fY:R=false:=by rw[<-bG,gC,lr];simp
  rw[fY];simp only[l7,lD,bP.e]at dJ;clear bG fY lr;exact cD
 |some t=>
  have Ay:=zb da lP;rw[lP]at dJ lr;have wP:=ani t ⟨n,s,D,k,m⟩ Ay.1.1.b.len (fun x ae=>(Ay.1.1.d x ae).len);have fY:R=decide (t=⟨n,s,D,k,m⟩):=by rw[<-bG,decide_eq_decide,lr];simp
  rw[fY];simp only[jL,oG]at dJ;simp only[bP.e]at dJ wP;clear bG fY lr Ay;generalize decide (t=(⟨n,s,D,k,m⟩:bP))=Q at wP⊢;obtain⟨xt,xp,xq,xr,tm⟩:=t;simp only at dJ wP;exact cD
def Fm:C:=(aa [c8 3 1,c1 4 dd] (.seq (aa [aI 7 0 1 3,aw 8 1 7,aS 9 .eql 8 1] (aZ 9 (aa [I 11 0,aI 12 1 1 3,aw 13 1 12,ch 14 78 11 13,I 10 14,cC 15 0 10,cC 16 1 10,c1 5 dd,bN 4 5 15,I 6 16] (aa [I 17 6] (aZ 17 (aa [a7 18 4 5,bN 4 4 18] .ret) .skip))) .skip)) (.seq (aa [aI 19 0 1 3,aw 20 1 19,aS 21 .eql 20 4] (aZ 21 (.seq (.drawn true 36 [I 22 0,aI 23 3 1 3,aw 24 1 23,jv 25 4 24 0,a7 26 4 25,ch 27 38 22 26,I 28 0,aI 29 3 1 3,aw 30 1 29,jv 31 4 30 1,a7 32 4 31,ch 33 38 28 32,ch 34 83 27 33,bN 4 4 34]) .ret) .skip)) (aa [a7 35 4 3,bN 4 4 35] .ret))))
@[simp] def HB:List bX:=[.cell 4 true 4]
def QG:C:=(aa [bq 6 false] (aa [I 7 0,I 8 1,br 9 .geq 7 8,I 10 9,bW 10 true 11 0,bW 10 true 12 2,au 10 true (br 13 .leq 11 12),dq 14 10 13,I 6 14] .ret))
@[simp] def WK:List bX:=[.tmp 6]
def Jp:C:=(aa [bq 2 false] (.seq (aa [I 9 0,cR 10 75 9,cJ 11 10] (aZ 11 (aa [bq 2 false] .ret) .skip)) (.seq (aa [I 12 0,cz 13 12,cd 14 0] (e5 15 14 13 (.seq (.block 1 (aa [cy 16 5 12 14,a7 17 5 16,c1 4 hT,bN 5 4 17] (.seq (aa [gI 18 1 4 4,aI 19 0 1 18,aw 20 1 19,aS 21 .eql 20 1,I 22 21,au 22 true (gI 23 1 4 4),au 22 true (aI 24 1 1 23),au 22 true (aw 25 1 24),au 22 true (aI 26 0 1 4),au 22 true (aw 27 1 26),au 22 true (br 28 .geq 25 27),dq 29 22 28] (aZ 29 (aa [bq 2 false] .ret) .skip)) (aa [gI 30 1 4 4,a7 31 4 30,dj 32 77 [.t 31,(.c (.slice 1 .nil []))],cz 33 32,cd 34 0] (.block 2 (.loop (aa [br 35 .lss 34 33] (.seq (aZ 35 .skip (.exit 2)) (.seq (.block 3 (aa [cy 36 1 32 34,aw 37 1 36,I 6 37] (aa [I 39 0,I 40 6,ch 41 78 39 40,I 38 41,cC 42 0 38,cC 43 1 38,c1 7 dd,bN 4 7 42,I 8 43] (aa [I 44 8] (aZ 44 (aa [bq 2 false] .ret) .skip))))) (.region [aS 45 .add 34 1,I 34 45])))))))))) (.region [aS 46 .add 14 1,I 14 46])))) (aa [bq 2 true] .ret))))
@[simp] def MP:List bX:=[.tmp 2]
def QY:C:=(aa [bq 2 false] (.seq (aa [I 5 0,cz 6 5,cd 7 0] (e5 8 7 6 (.seq (.block 1 (aa [I 9 7,cy 10 5 5 7,a7 11 5 10,c1 4 hT,I 3 9,bN 5 4 11] (.seq (.drawn true 41 [I 12 3,aS 13 .gtr 12 0,I 14 13,bW 14 true 15 0,bW 14 true 16 3,au 14 true (aS 17 .sub 16 1),au 14 true (cy 18 5 15 17),au 14 true (aI 19 0 1 18),au 14 true (aw 20 1 19),au 14 true (aI 21 0 1 4),au 14 true (aw 22 1 21),au 14 true (br 23 .geq 20 22),dq 24 14 23,I 25 24,au 25 false (aI 26 0 1 4),au 25 false (aw 27 1 26),au 25 false (dj 28 67 [.t 27,(eF 0),(eF 100000)]),au 25 false (cJ 29 28),c6 30 25 29,I 31 30,au 31 false (gI 32 1 4 4),au 31 false (a7 33 4 32),au 31 false (cR 34 76 33),au 31 false (cJ 35 34),c6 36 31 35]) (aZ 36 (aa [bq 2 false] .ret) .skip)))) (.region [aS 37 .add 7 1,I 7 37])))) (aa [I 38 0,cz 39 38,aS 40 .leq 39 400,I 2 40] .ret)))
@[simp] def MW:List bX:=[.tmp 2]
def QD:C:=(aa [c8 1 0,bq 2 false] (aa [a7 3 4 1,dj 4 126 [.t 3,(eF 5000)],aS 5 .leq 4 5000,I 6 5,au 6 true (a7 7 4 1),au 6 true (cR 8 127 7),dq 9 6 8,I 2 9] .ret))
@[simp] def akI:List bX:=[.tmp 2]
def zG:C:=(aa [c8 2 0,e4 4 1] (.seq (aa [aI 7 0 1 2,aw 8 1 7,aS 9 .eql 8 1] (aZ 9 (aa [I 10 1,aI 11 1 1 2,aw 12 1 11,ch 13 128 10 12,I 4 13] .ret) .skip)) (.seq (aa [aI 14 3 1 2,aw 15 1 14,cz 16 15,cd 17 0] (e5 18 17 16 (.seq (.block 1 (aa [cy 19 4 15 17,a7 20 4 19,c1 6 dd,bN 4 6 20] (.region [a7 21 4 6,I 22 1,ch 23 77 21 22,I 1 23]))) (.region [aS 24 .add 17 1,I 17 24])))) (aa [I 25 1,I 4 25] .ret))))
@[simp] def Bq:List bX:=[.tmp 4]
def QW:C:=(aa [c1 4 dd,bq 5 false] (.seq (aa [I 8 0,cz 9 8,cd 10 0] (e5 11 10 9 (.seq (.block 1 (aa [cy 12 5 8 10,a7 13 5 12,c1 7 hT,bN 5 7 13] (aa [aI 14 0 1 7,aw 15 1 14,I 16 1,br 17 .eql 15 16] (aZ 17 (aa [gI 18 1 4 7,a7 19 4 18,bN 4 4 19,bq 5 true] .ret) .skip)))) (.region [aS 20 .add 10 1,I 10 20])))) (aa [hD 21 dd [],bN 4 4 21,bq 5 false] .ret)))
@[simp] def MU:List bX:=[.cell 4 true 4,.tmp 5]
def QU:C:=(aa [c8 3 1,c1 4 dd,bq 5 false] (aa [I 7 0,a7 8 4 3,ch 9 38 7 8,c1 6 dd,bN 4 6 9] (.seq (.drawn true 13 [a7 10 4 6,a7 11 4 6,cR 12 129 11,bN 4 4 10,I 5 12]) .ret)))
@[simp] def WW:List bX:=[.cell 4 true 4,.tmp 5]
def te:C:=(aa [c8 4 1,c8 5 2,e4 6 5,bq 7 false] (aa [I 12 0,a7 13 4 4,ch 14 151 12 13,bN 4 4 14] (aa [I 15 0,a7 16 4 5,ch 17 151 15 16,bN 4 5 17] (.seq (aa [aI 18 0 1 4,aw 19 1 18,aS 20 .eql 19 1,I 21 20,au 21 true (aI 22 0 1 5),au 21 true (aw 23 1 22),au 21 true (aS 24 .eql 23 1),dq 25 21 24,I 26 25,au 26 true (aI 27 1 1 4),au 26 true (aw 28 1 27),au 26 true (aI 29 1 1 5),au 26 true (aw 30 1 29),au 26 true (br 31 .lss 28 30),dq 32 26 31] (aZ 32 (aa [I 33 0,aI 34 1 1 5,aw 35 1 34,a7 36 4 4,dj 37 152 [.t 33,.t 35,.t 36],cC 38 0 37,cC 39 1 37,I 6 38,I 7 39] .ret) .skip)) (.seq (aa [aI 40 0 1 4,aw 41 1 40,aS 42 .eql 41 1,I 43 42,au 43 true (aI 44 0 1 5),au 43 true (aw 45 1 44),au 43 true (aS 46 .eql 45 1),dq 47 43 46,I 48 47,au 48 true (aI 49 1 1 4),au 48 true (aw 50 1 49),au 48 true (aI 51 1 1 5),au 48 true (aw 52 1 51),au 48 true (br 53 .eql 50 52),dq 54 48 53] (aZ 54 (aa [I 55 0,I 6 55,bq 7 true] .ret) .skip)) (.seq (aa [aI 56 0 1 4,aw 57 1 56,aS 58 .eql 57 1] (aZ 58 (aa [I 59 0,aI 60 1 1 4,aw 61 1 60,a7 62 4 5,dj 63 152 [.t 59,.t 61,.t 62],cC 64 0 63,cC 65 1 63,I 6 64,I 7 65] .ret) .skip)) (.seq (aa [aI 66 0 1 5,aw 67 1 66,aS 68 .eql 67 1] (aZ 68 (aa [I 69 0,aI 70 1 1 5,aw 71 1 70,a7 72 4 4,dj 73 152 [.t 69,.t 71,.t 72],cC 74 0 73,cC 75 1 73,I 6 74,I 7 75] .ret) .skip)) (.seq (aa [aI 76 0 1 4,aw 77 1 76,aI 78 0 1 5,aw 79 1 78,br 80 .neq 77 79,I 81 80,au 81 false (aI 82 1 1 4),au 81 false (aw 83 1 82),au 81 false (aI 84 1 1 5),au 81 false (aw 85 1 84),au 81 false (br 86 .neq 83 85),c6 87 81 86,I 88 87,au 88 false (aI 89 2 1 4),au 88 false (aw 90 1 89),au 88 false (aI 91 2 1 5),au 88 false (aw 92 1 91),au 88 false (br 93 .neq 90 92),c6 94 88 93] (aZ 94 (aa [e4 6 5,bq 7 false] .ret) .skip)) (.seq (aa [aI 95 3 1 4,aw 96 1 95,cz 97 96,cd 98 0] (e5 99 98 97 (.seq (.block 1 (aa [I 100 98,cy 101 4 96 98,a7 102 4 101,c1 9 dd,I 8 100,bN 4 9 102] (.seq (.drawn true 119 [I 104 0,a7 105 4 9,aI 106 3 1 5,aw 107 1 106,I 108 8,cy 109 4 107 108,a7 110 4 109,dj 111 101 [.t 104,.t 105,.t 110],I 103 111,cC 112 0 103,cC 113 1 103,I 10 112,I 11 113]) (.seq (aa [I 114 11,cJ 115 114] (aZ 115 (aa [e4 6 5,bq 7 false] .ret) .skip)) (.region [I 116 10,I 0 116]))))) (.region [aS 117 .add 98 1,I 98 117])))) (aa [I 118 0,I 6 118,bq 7 true] .ret))))))))))
@[simp] def sE:List bX:=[.tmp 6,.tmp 7]
def Qy:C:=(aa [bq 2 false] (.seq (aa [cd 3 0] (.block 0 (.loop (.seq (aa [I 5 3,I 6 0,bR 7 (.slen (.t 6)),br 8 .lss 5 7] (aZ 8 .skip (.exit 0))) (.seq (.block 1 (aa [I 11 0,I 12 3,bR 13 (.sidx (.t 11) (.t 12)),bR 14 (.bin .geq false (.t 13) (.c (.int .u8 97))),I 15 14,bW 15 true 16 0,bW 15 true 17 3,au 15 true (bR 18 (.sidx (.t 16) (.t 17))),au 15 true (bR 19 (.bin .leq false (.t 18) (.c (.int .u8 122)))),dq 20 15 19,I 4 20] (aa [I 21 4,cJ 22 21,I 23 22,bW 23 true 24 3,au 23 true (aS 25 .eql 24 0),bW 23 true 26 25,bW 26 false 27 0,bW 26 false 28 3,au 26 false (bR 29 (.sidx (.t 27) (.t 28))),au 26 false (bR 30 (.bin .neq false (.t 29) (.c (.int .u8 45)))),bW 26 false 31 30,bW 31 true 32 0,bW 31 true 33 3,au 31 true (bR 34 (.sidx (.t 32) (.t 33))),au 31 true (bR 35 (.conv .i64 (.t 34))),au 31 true (dj 36 67 [.t 35,(eF 48),(eF 57)]),au 31 true (cJ 37 36),au 26 false (dq 38 31 37),au 23 true (c6 39 26 38),dq 40 23 39] (aZ 40 (aa [bq 2 false] .ret) .skip)))) (.region [I 9 3,aS 10 .add 9 1,I 3 10])))))) (aa [I 41 0,bR 42 (.slen (.t 41)),dj 43 67 [.t 42,(eF 1),(eF 12)],I 2 43] .ret)))
@[simp] def Bn:List bX:=[.tmp 2]
def Q0:C:=(aa [e4 4 5,bq 5 false] (aa [eE 10 4 36 [],I 6 10] (aa [eE 11 4 36 [],I 7 11] (.seq (aa [I 12 1,cz 13 12,cd 14 0] (e5 15 14 13 (.seq (.block 1 (aa [cy 16 5 12 14,a7 17 5 16,c1 9 hT,bN 5 9 17] (aa [I 18 6,aI 19 0 1 9,aw 20 1 19,cR 21 84 20,eE 22 4 36 [.t 21],hj 23 4 36 18 22,I 6 23] (.region [I 24 7,gI 25 1 4 9,a7 26 4 25,eE 27 4 36 [.t 26],hj 28 4 36 24 27,I 7 28])))) (.region [aS 29 .add 14 1,I 14 29])))) (aa [I 30 0,I 31 6,I 32 7,dj 33 156 [.t 30,.t 31,.t 32],cC 34 0 33,cC 35 1 33,I 4 34,I 5 35] .ret)))))
@[simp] def WX:List bX:=[.tmp 4,.tmp 5]
def QK:C:=(aa [c8 2 0,cd 4 0] (aa [cd 5 1] (.seq (aa [aI 8 3 1 2,aw 9 1 8,cz 10 9,cd 11 0] (e5 12 11 10 (.seq (.block 1 (aa [cy 13 4 9 11,a7 14 4 13,c1 7 dd,bN 4 7 14] (.seq (aa [I 15 5,I 16 1,br 17 .gtr 15 16] (aZ 17 (aa [I 18 5,I 4 18] .ret) .skip)) (.region [I 19 5,a7 20 4 7,I 21 1,I 22 5,br 23 .sub 21 22,ch 24 126 20 23,br 25 .add 19 24,I 5 25])))) (.region [aS 26 .add 11 1,I 11 26])))) (aa [I 27 5,I 4 27] .ret))))
@[simp] def MS:List bX:=[.tmp 4]
def ma:C:=(aa [c8 1 0,bq 2 false] (.seq (aa [aI 3 0 1 1,aw 4 1 3,aS 5 .neq 4 1,I 6 5,au 6 true (aI 7 0 1 1),au 6 true (aw 8 1 7),au 6 true (aS 9 .neq 8 3),dq 10 6 9,I 11 10,au 11 true (aI 12 1 1 1),au 11 true (aw 13 1 12),au 11 true (aS 14 .neq 13 0),dq 15 11 14,I 16 15,au 16 false (aI 17 0 1 1),au 16 false (aw 18 1 17),au 16 false (aS 19 .neq 18 2),bW 16 false 20 19,au 20 true (aI 21 2 1 1),au 20 true (aw 22 1 21),xD 20 true 23 (.bin .neq false (.t 22) (.c (.str []))),au 16 false (dq 24 20 23),c6 25 16 24,I 26 25,au 26 false (aI 27 0 1 1),au 26 false (aw 28 1 27),au 26 false (aS 29 .neq 28 4),bW 26 false 30 29,au 30 true (aI 31 3 1 1),au 30 true (aw 32 1 31),au 30 true (cz 33 32),au 30 true (aS 34 .gtr 33 0),au 26 false (dq 35 30 34),c6 36 26 35] (aZ 36 (aa [bq 2 false] .ret) .skip)) (.seq (aa [aI 37 0 1 1,aw 38 1 37] (.block 0 (aa [aS 40 .eql 38 0,I 39 40] (aZ 39 (aa [bq 2 true] .ret) (aa [aS 42 .eql 38 1,I 41 42] (aZ 41 (aa [aI 43 1 1 1,aw 44 1 43,dj 45 67 [.t 44,(eF 0),(eF 100000)],I 2 45] .ret) (aa [aS 47 .eql 38 2,I 46 47] (aZ 46 (aa [aI 48 2 1 1,aw 49 1 48,cR 50 119 49,I 2 50] .ret) (aa [aS 52 .eql 38 3,I 51 52] (aZ 51 (aa [aI 53 1 1 1,aw 54 1 53,dj 55 67 [.t 54,(eF (-1000000000)),(eF 1000000000)],I 2 55] .ret) (aa [aS 57 .eql 38 4,I 56 57] (aZ 56 (aa [aI 58 3 1 1,aw 59 1 58,cz 60 59,aS 61 .eql 60 2,I 62 61,au 62 true (aI 63 3 1 1),au 62 true (aw 64 1 63),au 62 true (jv 65 4 64 0),au 62 true (a7 66 4 65),au 62 true (cR 67 127 66),dq 68 62 67,I 69 68,au 69 true (aI 70 3 1 1),au 69 true (aw 71 1 70),au 69 true (jv 72 4 71 1),au 69 true (a7 73 4 72),au 69 true (cR 74 127 73),dq 75 69 74,I 2 75] .ret) .skip)))))))))))) (aa [bq 2 false] .ret))))
@[simp] def lZ:List bX:=[.tmp 2]
def QN:C:=(aa [e4 4 1] (aa [I 7 0,cz 8 7,I 5 8] (.seq (.block 0 (.loop (.seq (aa [I 9 5,aS 10 .gtr 9 0,I 11 10,bW 11 true 12 0,bW 11 true 13 5,au 11 true (aS 14 .sub 13 1),au 11 true (cy 15 1 12 14),au 11 true (aw 16 1 15),bW 11 true 17 1,au 11 true (br 18 .geq 16 17),dq 19 11 18] (aZ 19 .skip (.exit 0))) (.block 1 (.region [I 20 5,aS 21 .sub 20 1,I 5 21]))))) (.seq (aa [I 22 5,I 23 0,cz 24 23,br 25 .lss 22 24,I 26 25,bW 26 true 27 0,bW 26 true 28 5,au 26 true (cy 29 1 27 28),au 26 true (aw 30 1 29),bW 26 true 31 1,au 26 true (br 32 .eql 30 31),dq 33 26 32] (aZ 33 (aa [I 34 0,I 4 34] .ret) .skip)) (aa [eE 35 1 3 [],I 36 0,I 37 5,bR 38 (.lsl 1 (.t 36) none (some (.t 37))),hj 39 1 3 35 38,I 6 39] (aa [I 40 6,I 41 1,eE 42 1 3 [.t 41],hj 43 1 3 40 42,I 6 43] (aa [I 44 6,I 45 0,I 46 5,bR 47 (.lsl 1 (.t 45) (some (.t 46)) none),hj 48 1 3 44 47,I 4 48] .ret)))))))
@[simp] def y1:List bX:=[.tmp 4]
def QM:C:=(aa [c8 1 0,bq 2 false] (aa [a7 3 4 1,dj 4 126 [.t 3,(eF 5000)],aS 5 .leq 4 5000,I 2 5] .ret))
@[simp] def WO:List bX:=[.tmp 2]
def Fo:C:=(aa [c8 3 1,c1 4 dd] (.seq (aa [aI 7 0 1 3,aw 8 1 7,aS 9 .eql 8 1] (aZ 9 (aa [I 11 0,aI 12 1 1 3,aw 13 1 12,ch 14 78 11 13,I 10 14,cC 15 0 10,cC 16 1 10,c1 5 dd,bN 4 5 15,I 6 16] (aa [I 17 6] (aZ 17 (aa [a7 18 4 5,bN 4 4 18] .ret) .skip))) .skip)) (aa [a7 19 4 3,bN 4 4 19] .ret)))
@[simp] def HC:List bX:=[.cell 4 true 4]
def Ce:C:=(aa [c8 5 2,e4 6 5,bq 7 false] (aa [I 15 0,a7 16 4 5,ch 17 79 15 16,I 14 17,cC 18 0 14,cC 19 1 14,c1 8 dd,bN 4 8 18,I 9 19] (.seq (aa [I 20 9,cJ 21 20,I 22 21,bW 22 false 23 1,au 22 false (a7 24 4 8),au 22 false (ch 25 171 23 24),c6 26 22 25,I 27 26,bW 27 false 28 0,au 27 false (cz 29 28),au 27 false (aS 30 .geq 29 400),c6 31 27 30] (aZ 31 (aa [e4 6 5,bq 7 false] .ret) .skip)) (aa [eE 32 5 54 [],I 10 32] (.seq (aa [I 33 0,cz 34 33,cd 35 0] (e5 36 35 34 (.seq (.block 1 (aa [cy 37 5 33 35,a7 38 5 37,c1 12 hT,bN 5 12 38] (aa [gI 39 1 4 12,a7 40 4 39,I 41 1,a7 42 4 8,dj 43 172 [.t 40,.t 41,.t 42],c1 13 dd,bN 4 13 43] (.seq (aa [a7 44 4 13,cR 45 129 44,cJ 46 45] (aZ 46 (aa [e4 6 5,bq 7 false] .ret) .skip)) (.region [I 47 10,aI 48 0 1 12,aw 49 1 48,a7 50 4 13,hD 51 hT [(0,1,(.t 49)),(1,4,(.t 50))],eE 52 5 54 [.t 51],hj 53 5 54 47 52,I 10 53]))))) (.region [aS 54 .add 35 1,I 35 54])))) (aa [I 55 10,I 56 1,a7 57 4 8,hD 58 hT [(0,1,(.t 56)),(1,4,(.t 57))],ch 59 173 55 58,I 6 59,bq 7 true] .ret))))))
@[simp] def Br:List bX:=[.tmp 6,.tmp 7]
def QZ:C:=(aa [e4 6 5,bq 7 false] (.seq (aa [I 12 1,cz 13 12,cd 14 0] (e5 15 14 13 (.seq (.block 1 (aa [I 16 14,cy 17 4 12 14,a7 18 4 17,c1 9 dd,I 8 16,bN 4 9 18] (.seq (.drawn true 34 [I 20 0,a7 21 4 9,I 22 2,I 23 8,cy 24 4 22 23,a7 25 4 24,dj 26 101 [.t 20,.t 21,.t 25],I 19 26,cC 27 0 19,cC 28 1 19,I 10 27,I 11 28]) (.seq (aa [I 29 11,cJ 30 29] (aZ 30 (aa [e4 6 5,bq 7 false] .ret) .skip)) (.region [I 31 10,I 0 31]))))) (.region [aS 32 .add 14 1,I 14 32])))) (aa [I 33 0,I 6 33,bq 7 true] .ret)))
@[simp] def MX:List bX:=[.tmp 6,.tmp 7]
def QP:C:=(aa [c8 3 1,bq 4 false] (.seq (aa [aI 7 3 1 3,aw 8 1 7,cz 9 8,cd 10 0] (e5 11 10 9 (.seq (.block 1 (aa [cy 12 4 8 10,a7 13 4 12,c1 6 dd,bN 4 6 13] (aa [I 14 0,a7 15 4 6,ch 16 171 14 15] (aZ 16 (aa [bq 4 true] .ret) .skip)))) (.region [aS 17 .add 10 1,I 10 17])))) (aa [aI 18 0 1 3,aw 19 1 18,aS 20 .eql 19 1,I 21 20,au 21 true (aI 22 1 1 3),au 21 true (aw 23 1 22),bW 21 true 24 0,au 21 true (br 25 .eql 23 24),dq 26 21 25,I 4 26] .ret)))
@[simp] def MT:List bX:=[.tmp 4]
def Fl:C:=(aa [c8 3 0,c8 5 2,c1 6 dd] (.seq (aa [aI 7 0 1 3,aw 8 1 7,aS 9 .eql 8 1,I 10 9,au 10 true (aI 11 1 1 3),au 10 true (aw 12 1 11),bW 10 true 13 1,au 10 true (br 14 .eql 12 13),dq 15 10 14] (aZ 15 (aa [a7 16 4 5,bN 4 6 16] .ret) .skip)) (.seq (aa [aI 17 0 1 3,aw 18 1 17,aS 19 .eql 18 4] (aZ 19 (.seq (.drawn true 36 [aI 20 3 1 3,aw 21 1 20,jv 22 4 21 0,a7 23 4 22,I 24 1,a7 25 4 5,dj 26 172 [.t 23,.t 24,.t 25],aI 27 3 1 3,aw 28 1 27,jv 29 4 28 1,a7 30 4 29,I 31 1,a7 32 4 5,dj 33 172 [.t 30,.t 31,.t 32],ch 34 83 26 33,bN 4 6 34]) .ret) .skip)) (aa [a7 35 4 3,bN 4 6 35] .ret))))
@[simp] def HA:List bX:=[.cell 6 true 4]
def QX:C:=(aa [c8 3 1,e4 4 5] (aa [I 7 0,cz 8 7,I 5 8] (.seq (.block 0 (.loop (.seq (.seq (.drawn true 38 [I 9 5,aS 10 .gtr 9 0,I 11 10,bW 11 true 12 0,bW 11 true 13 5,au 11 true (aS 14 .sub 13 1),au 11 true (cy 15 5 12 14),au 11 true (aI 16 0 1 15),au 11 true (aw 17 1 16),au 11 true (aI 18 0 1 3),au 11 true (aw 19 1 18),au 11 true (br 20 .gtr 17 19),dq 21 11 20]) (aZ 21 .skip (.exit 0))) (.block 1 (.region [I 22 5,aS 23 .sub 22 1,I 5 23]))))) (aa [eE 24 5 54 [],I 25 0,I 26 5,bR 27 (.lsl 5 (.t 25) none (some (.t 26))),hj 28 5 54 24 27,I 6 28] (aa [I 29 6,a7 30 5 3,eE 31 5 54 [.t 30],hj 32 5 54 29 31,I 6 32] (aa [I 33 6,I 34 0,I 35 5,bR 36 (.lsl 5 (.t 34) (some (.t 35)) none),hj 37 5 54 33 36,I 4 37] .ret))))))
@[simp] def MV:List bX:=[.tmp 4]
def k9:List (Nat×dz):=[
 (3,⟨1,8,.int .i64,.int .i64 0⟩),
 (5,⟨1,1,.int .u8,.int .u8 0⟩),
 (9,⟨1,16,.str,.str []⟩),
 (23,⟨1,24,.slice 54,.slice 5 .nil []⟩),
 (34,⟨1,24,.slice 36,.slice 4 .nil []⟩),
 (36,⟨4,56,.struct [(0,3),(1,3),(2,9),(3,34)],.agg [.int .i64 0,.int .i64 0,.str [],.slice 4 .nil []]⟩),
 (54,⟨5,64,.struct [(0,3),(1,36)],.agg [.int .i64 0,.int .i64 0,.int .i64 0,.str [],.slice 4 .nil []]⟩),
 (97,⟨1,24,.slice 3,.slice 1 .nil []⟩)]
theorem eH:fI az k9=true:=by kernel_rfl
theorem Mp:b7 k9 Fm HB 2 Tryz.f38=true:=by kernel_rfl
theorem JZ:az.funcs[(38:Nat)]? =some Tryz.f38:=Tryz.func38
theorem ajd:b7 k9 QG WK 3 Tryz.f67=true:=by kernel_rfl
theorem acz:az.funcs[(67:Nat)]? =some Tryz.f67:=Tryz.func67
theorem VN:b7 k9 Jp MP 1 Tryz.f68=true:=by kernel_rfl
theorem R3:az.funcs[(68:Nat)]? =some Tryz.f68:=Tryz.func68
theorem ajv:b7 k9 QY MW 1 Tryz.f75=true:=by kernel_rfl
theorem acR:az.funcs[(75:Nat)]? =some Tryz.f75:=Tryz.func75
theorem aja:b7 k9 QD akI 1 Tryz.f76=true:=by kernel_rfl
theorem acw:az.funcs[(76:Nat)]? =some Tryz.f76:=Tryz.func76
theorem DN:b7 k9 zG Bq 2 Tryz.f77=true:=by kernel_rfl
theorem Cp:az.funcs[(77:Nat)]? =some Tryz.f77:=Tryz.func77
theorem ajt:b7 k9 QW MU 2 Tryz.f78=true:=by kernel_rfl
theorem acP:az.funcs[(78:Nat)]? =some Tryz.f78:=Tryz.func78
theorem ajr:b7 k9 QU WW 2 Tryz.f79=true:=by kernel_rfl
theorem acN:az.funcs[(79:Nat)]? =some Tryz.f79:=Tryz.func79
theorem vq:b7 k9 te sE 3 Tryz.f101=true:=by kernel_rfl
theorem uM:az.funcs[(101:Nat)]? =some Tryz.f101:=Tryz.func101
theorem ai5:b7 k9 Qy Bn 1 Tryz.f119=true:=by kernel_rfl
theorem acq:az.funcs[(119:Nat)]? =some Tryz.f119:=Tryz.func119
theorem ajx:b7 k9 Q0 WX 2 Tryz.f123=true:=by kernel_rfl
theorem acT:az.funcs[(123:Nat)]? =some Tryz.f123:=Tryz.func123
theorem ajh:b7 k9 QK MS 2 Tryz.f126=true:=by kernel_rfl
theorem acD:az.funcs[(126:Nat)]? =some Tryz.f126:=Tryz.func126
theorem nc:b7 k9 ma lZ 1 Tryz.f127=true:=by kernel_rfl
theorem mK:az.funcs[(127:Nat)]? =some Tryz.f127:=Tryz.func127
theorem ajk:b7 k9 QN y1 2 Tryz.f128=true:=by kernel_rfl
theorem acG:az.funcs[(128:Nat)]? =some Tryz.f128:=Tryz.func128
theorem ajj:b7 k9 QM WO 1 Tryz.f129=true:=by kernel_rfl
theorem acF:az.funcs[(129:Nat)]? =some Tryz.f129:=Tryz.func129
theorem Mq:b7 k9 Fo HC 2 Tryz.f151=true:=by kernel_rfl
theorem J0:az.funcs[(151:Nat)]? =some Tryz.f151:=Tryz.func151
theorem Hd:b7 k9 Ce Br 3 Tryz.f152=true:=by kernel_rfl
theorem FG:az.funcs[(152:Nat)]? =some Tryz.f152:=Tryz.func152
theorem ajw:b7 k9 QZ MX 3 Tryz.f156=true:=by kernel_rfl
theorem acS:az.funcs[(156:Nat)]? =some Tryz.f156:=Tryz.func156
theorem ajm:b7 k9 QP MT 2 Tryz.f171=true:=by kernel_rfl
theorem acI:az.funcs[(171:Nat)]? =some Tryz.f171:=Tryz.func171
theorem Mo:b7 k9 Fl HA 3 Tryz.f172=true:=by kernel_rfl
theorem JY:az.funcs[(172:Nat)]? =some Tryz.f172:=Tryz.func172
theorem aju:b7 k9 QX MV 2 Tryz.f173=true:=by kernel_rfl
theorem acQ:az.funcs[(173:Nat)]? =some Tryz.f173:=Tryz.func173
mutual
def lH:b3->Int->Int
 | .mk _ _ _ args,m=>oN args 1 m
def oN:List b3->Int->Int->Int
 |[],n,_=>n
 |x::xs,n,m=>if m<n then n else oN xs (n+lH x (m-n)) m
end
mutual
theorem Jw:∀(t:b3) (m:Int),0<=m->1<=lH t m/\lH t m<=m+1
 | .mk _ _ _ args,m,h=>by simp only[lH];exact Rn args 1 m h Ω Ω
theorem Rn:∀(l:List b3) (n m:Int),0<=m->1<=n->n<=m+1->1<=oN l n m/\oN l n m<=m+1
 |[],n,m,_,J,U=>by simp only[oN];exact⟨J,U⟩
 |x::xs,n,m,bE,J,U=>by
  simp only[oN];split
  ·exact⟨J,U⟩
  ·have:=Jw x (m-n) Ω;exact Rn xs _ m bE Ω Ω
end
theorem Ft:∀(t:T) (m:Int),0<=m->(lH t.tm m<=m↔(t.size:Int)<=m)/\((t.size:Int)<=m->lH t.tm m=t.size)
 | .pair a b,m,h=>by
  have bk:=T.size_pos a;have ab:=T.size_pos b;simp only[T.tm,lH,oN,T.size];by_cases J:m<1
  ·rw[if_pos J];exact⟨Ω,fun h=>Ω⟩
  ·rw[if_neg J];obtain⟨bB,a2⟩:=Ft a (m-1) Ω;have a3:=Jw a.tm (m-1) Ω;by_cases U:(a.size:Int)<=m-1
   ·have e:=a2 U;rw[e];by_cases ar:m<1+(a.size:Int)
    ·omega
    ·rw[if_neg ar];obtain⟨ck,ca⟩:=Ft b (m-(1+a.size)) Ω;refine⟨Ω,fun h=>?_⟩;rw[ca Ω];omega
   ·have:¬lH a.tm (m-1)<=m-1:=fun h=>U (bB.1 h);rw[if_pos Ω];exact⟨Ω,fun h=>Ω⟩
 | .nil,m,h=>by simp[T.tm,lH,oN,T.size]
 | .var _,m,h=>by simp[T.tm,lH,oN,T.size]
 | .sym _,m,h=>by simp[T.tm,lH,oN,T.size]
 | .num _,m,h=>by simp[T.tm,lH,oN,T.size]
theorem ZR(t:b3)(m:Int):lH t m=oN t.args 1 m:=by cases t;rfl
theorem Ye(t:b3):∀m:Int,0<=m->m<=1000000->bZ az 126 [enc t,.int .i64 m] (.int .i64 (lH t m)):=by
 suffices H:∀(k:Nat) (t:b3),t.sz<=k->∀m:Int,0<=m->m<=1000000->bZ az 126 [enc t,.int .i64 m] (.int .i64 (lH t m))from H _ t (eX _)
 intro k;induction k with
 |zero=>intro t aM;cases t;simp[b3.sz]at aM
 |succ k bU=>
  intro t aM m bE J;refine bz eH acD ajh fun aT=>?_;unfold QK;have ir:t.args.length<=68719476736:=by rw[Ci]at aT;simp[gS,gg,gE,lim]at aT;omega
  simp;refine dW [1,9,10] (fun i (n:Int)=>[(5,.int .i64 n),(11,.int .i64 i)]) t.args.length (fun i n=>(1<=n/\n<=m+1)/\oN (t.args.drop i) n m=lH t m) 1 bV ⟨Ω,by simp[ZR]⟩ (fun n af _=>?_) (fun i n hi af _=>?_)
  ·simp;(with_reducible repeat' first|refine aj ?_|simp);simp[bu,MS,aW,aY,aV];have:=af.2;simp[oN]at this;exact this
  ·obtain⟨⟨sb,CY⟩,af⟩:=af;obtain⟨x,ae,cY⟩:=ec hi;have aN:t.args.drop i=x::t.args.drop (i+1):=by rw[kX hi,cY]
   have dS:x.sz<=k:=by have:=al1 (ed ae);omega
   rw[aN]at af;simp only[oN]at af;simp[hi,cY];by_cases ab:m<n
   ·rw[if_pos ab]at af;(with_reducible repeat' first|refine aj ?_|simp[ab]);simp[bu,MS,aW,aY,aV];exact af
   ·rw[if_neg ab]at af;have aq:=Jw x (m-n) Ω;((with_reducible repeat' first|refine aj ?_|refine aD (bU x dS (m-n) Ω Ω) ?_|refine aE (bU x dS (m-n) Ω Ω) ?_|simp[ab]|((first|apply bJ|apply bM|apply bL)<;>intro h<;>try simp at h))<;>(try exact cc));exact bQ.rng (n+lH x (m-n)) hi ⟨Ω,af⟩ bV
theorem BL(t:T):bZ az 129 [t.e] (.bool (decide (t.size<=5000))):=by
 have aq:=(Ft t 5000 Ω).1;have key:=Ye t.tm 5000 Ω Ω;rw[rN]at key;refine bz eH acF ajj fun aT=>?_;unfold QM;simp;(with_reducible repeat' first|refine aj ?_|refine aD key ?_|refine aE key ?_|simp);simp[bu,WO,aW,aY,aV];have:(lH t.tm 5000<=5000)=(t.size<=5000):=by rw[aq];simp;omega
 simp[this]
def ags(l:List ak)(v:Int)(k:Nat)(st:bm):Prop:=∃i:Nat,i<=l.length/\k=l.length-i/\cU l v=cU (l.drop i) v/\st=⟨[(1,.int .i64 v),(4,.ptr (.loc 0) 0),(8,.slice 5 .no (l.map ak.e)),(9,.int .i64 l.length),(10,.int .i64 i)],[(.loc 0,[.int .i64 0,.int .i64 0,.str [],.slice 4 .nil []])],[],1,[]⟩
theorem rA(l:List ak)(v:Int)(av:l.length<=1000000):bZ az 78 [.slice 5 .no (l.map ak.e),.int .i64 v] (.tuple [((cU l v).getD .nil).e,.bool (cU l v).isSome]):=by
 refine bz eH acP ajt fun aT=>?_;unfold QW;simp;refine n5 (ags l v) l.length _ bV ⟨0,Ω,rfl,Ψ,rfl⟩ ?_;rintro k st ⟨i,hi,ad,aX,rfl⟩ jT cI;clear jT cI;by_cases bs:i<l.length
 ·obtain⟨b,ab⟩:∃b,l[i]? =some b:=⟨_,cf bs⟩;have S8:l.drop i=b::l.drop (i+1):=by rw[kX bs];rw[cf bs]at ab;simp at ab;rw[ab]
  have cw:∀h,l[i]'h=b:=fun h=>by rw[cf h]at ab;simpa using ab
  simp[cw,bs];(with_reducible repeat' first|((first|apply bJ|apply bM|apply bL)<;>intro h<;>try simp at h)|refine aj ?_|simp[cw])
  ·have:cU l v=some b.t:=by rw[aX,S8];simp[cU,h]
   simp[bu,MU,aW,aY,aV];simp[this]
  ·refine bQ.next (l.length-(i+1)) Ω ⟨i+1,Ω,rfl,?_,rfl⟩ bV;rw[aX,S8];simp[cU,h]
 ·have:cU l v=none:=by rw[aX,List.drop_of_length_le Ω];simp[cU]
  simp[bs];(with_reducible repeat' first|((first|apply bJ|apply bM|apply bL)<;>intro h<;>try simp at h)|refine aj ?_|simp);simp[bu,MU,aW,aY,aV];simp[this]
theorem amL(l:List ak)(av:l.length<=1000000)(t:T):bZ az 38 [.slice 5 .no (l.map ak.e),t.e] (t.sub (cU l)).e:=by
 induction t with
 |pair a b dM dN=>
  refine bz eH JZ Mp fun aT=>?_;unfold Fm;simp;(with_reducible repeat' first|refine aj ?_|refine aD dM ?_|refine aE dM ?_|refine aD dN ?_|refine aE dN ?_|refine aD (BM _ _) ?_|refine aE (BM _ _) ?_|simp);all_goals simp[bu,HB,aW,aY,aV]
  all_goals simp[T.sub]
 |var n=>
  refine bz eH JZ Mp fun aT=>?_;unfold Fm;simp;((with_reducible repeat' first|refine aj ?_|refine aD (rA l n av) ?_|refine aE (rA l n av) ?_|simp|((first|apply bJ|apply bM|apply bL)<;>intro h<;>try simp at h))<;>(try exact cc));all_goals simp[bu,HB,aW,aY,aV]
  all_goals cases ab:cU l n<;>simp_all[T.sub]
 |_=>
  refine bz eH JZ Mp fun aT=>?_;unfold Fm;simp;(with_reducible repeat' first|refine aj ?_|simp);all_goals simp[bu,HB,aW,aY,aV]
  all_goals simp[T.sub]
theorem Yj(l:List ak)(av:l.length<=1000000)(t:T):bZ az 38 [.slice 5 .no (l.map ak.e),t.e] (t.ap (bh l)).e:=by have:=amL l av t;rw[XC]at this;exact this
theorem zl(l:List ak)(av:l.length<=1000000)(t:T):bZ az 79 [.slice 5 .no (l.map ak.e),t.e] (.tuple [(t.ap (bh l)).e,.bool (decide ((t.ap (bh l)).size<=5000))]):=by refine bz eH acN ajr fun aT=>?_;unfold QU;simp;(with_reducible repeat' first|refine aj ?_|refine aD (Yj l av t) ?_|refine aE (Yj l av t) ?_|refine aD (BL _) ?_|refine aE (BL _) ?_|simp);simp[bu,WW,aW,aY,aV]
def w2(v:Int)(l:List T):Bool:=l.any (T.occ v)
theorem Vz(v:Int)(t:T):t.occ v=(w2 v t.args||(t.kind==1&&t.int==v)):=by cases t<;>simp[T.occ,w2]
theorem xy(v:Int)(t:T):bZ az 171 [.int .i64 v,t.e] (.bool (t.occ v)):=by
 suffices H:∀(k:Nat) (t:T),t.size<=k->bZ az 171 [.int .i64 v,t.e] (.bool (t.occ v))from H _ t (eX _)
 intro k;induction k with
 |zero=>intro t aM;have:=T.size_pos t;omega
 |succ k bU=>
  intro t aM;have mf:t.args.length<=2:=by cases t<;>simp
  refine bz eH acI ajm fun aT=>?_;unfold QP;simp;refine dW [0,3,8,9] (fun i (_:Unit)=>[(10,.int .i64 i)]) t.args.length (fun i _=>w2 v (t.args.drop i)=w2 v t.args) () bV Ψ (fun _ af _=>?_) (fun i _ hi af _=>?_)
  ·have bE:w2 v t.args=false:=by rw[<-af];simp[w2]
   rw[Vz,bE];simp;((with_reducible repeat' first|refine aj ?_|simp|((first|apply bJ|apply bM|apply bL)<;>intro h<;>try simp at h))<;>(try exact cc));all_goals simp[bu,MT,aW,aY,aV]
   all_goals simp_all
  ·obtain⟨x,ae,cY⟩:=ec hi;have aN:t.args.drop i=x::t.args.drop (i+1):=by rw[kX hi,cY]
   have dS:x.size<=k:=by have hm:=ed ae;have:=T.size_pos x;cases t<;>simp at hm;rcases hm with rfl|rfl<;>simp[T.size]at aM<;>omega
   simp only[aN,w2,List.any_cons]at af;simp[hi,cY];cases ax:x.occ v with
   |true=>
    rw[ax]at af;simp at af;have bE:t.occ v=true:=by rw[Vz];simp[w2];left;simpa using af
    (with_reducible repeat' first|refine aj ?_|refine aD (bU x dS) ?_|refine aE (bU x dS) ?_|simp[ax]);simp[bu,MT,aW,aY,aV];simp[bE]
   |false=>rw[ax]at af;have LF:=bU x dS;exact gN
theorem Il(v:Int)(x t:T):bZ az 172 [t.e,.int .i64 v,x.e] (t.ap (Go.Pv.one v x)).e:=by
 induction t with
 |pair a b dM dN=>
  refine bz eH JY Mo fun aT=>?_;unfold Fl;simp;(with_reducible repeat' first|refine aj ?_|refine aD dM ?_|refine aE dM ?_|refine aD dN ?_|refine aE dN ?_|refine aD (BM _ _) ?_|refine aE (BM _ _) ?_|simp);all_goals simp[bu,HA,aW,aY,aV]
  all_goals simp[T.ap]
 |var n=>
  refine bz eH JY Mo fun aT=>?_;unfold Fl;simp;((with_reducible repeat' first|refine aj ?_|simp|((first|apply bJ|apply bM|apply bL)<;>intro h<;>try simp at h))<;>(try exact cc));all_goals simp[bu,HA,aW,aY,aV]
  all_goals simp_all[T.ap,Go.Pv.one]
 |_=>
  refine bz eH JY Mo fun aT=>?_;unfold Fl;simp;(with_reducible repeat' first|refine aj ?_|simp);all_goals simp[bu,HA,aW,aY,aV]
  all_goals simp[T.ap]
theorem Io(s:List ak)(av:s.length<=1000000)(t:T):bZ az 151 [.slice 5 .no (s.map ak.e),t.e] (ht s t).e:=by
 cases t with
 |var n=>
  cases ab:cU s n with
  |none=>refine bz eH J0 Mq fun aT=>?_;unfold Fo;simp;(with_reducible repeat' first|refine aj ?_|refine aD (rA s n av) ?_|refine aE (rA s n av) ?_|simp[ab]);simp[bu,HC,aW,aY,aV];simp[ht,bh,ab]
  |some x=>refine bz eH J0 Mq fun aT=>?_;unfold Fo;simp;(with_reducible repeat' first|refine aj ?_|refine aD (rA s n av) ?_|refine aE (rA s n av) ?_|simp[ab]);simp[bu,HC,aW,aY,aV];simp[ht,bh,ab]
 |_=>refine bz eH J0 Mq fun aT=>?_;unfold Fo;simp;(with_reducible repeat' first|refine aj ?_|simp);simp[bu,HC,aW,aY,aV];simp[ht]
theorem T1(b:ak):∀(s:List ak) (k:Nat),(∀i c,i<k->s[i]? =some c->c.v<=b.v)->(∀c,s[k]? =some c->b.v<c.v)->k<=s.length->o0 b s=s.take k++b::s.drop k
 |[],k,_,_,ad=>by simp at ad;subst ad;rfl
 |c::s,0,_,U,_=>by have:=U c rfl;simp[o0,this]
 |c::s,k+1,J,U,ad=>by have:=J 0 c Ω rfl;simp only[o0,if_neg (by omega:¬b.v<c.v),List.take_succ_cons,List.drop_succ_cons,bO];rw[T1 b s k (fun i d hi aN=>J (i+1) d Ω (by simpa using aN)) (fun d aN=>U d (by simpa using aN)) (by simpa using ad)]
theorem amK(s:List ak)(b:ak)(av:s.length<=1000000)(bk:gQ s):bZ az 173 [.slice 5 .no (s.map ak.e),b.e] (.slice 5 .no ((o0 b s).map ak.e)):=by
 refine bz eH acQ aju fun aT=>?_;unfold QX;simp;refine v7 [0,3] (fun(k:Nat)=>[(5,.int .i64 k)]) (fun k=>k) (fun k=>k<=s.length/\∀c,s[k]? =some c->b.v<c.v) s.length bV ⟨Ω,fun c h=>by simp at h⟩ (fun k af _=>?_);obtain⟨ad,af⟩:=af;have tx:(∀c,0<k->s[k-1]? =some c->c.v<=b.v)->o0 b s=s.take k++b::s.drop k:=fun h=>T1 b s k (fun i c hi aq=>by
  obtain⟨d,aN⟩:∃d,s[k-1]? =some d:=⟨_,cf Ω⟩;have J:=h d Ω aN;rcases Nat.lt_or_ge i (k-1)with U|U
  ·have tz:=(fb.1 aq);have lp:=(fb.1 aN);have:=pg.1 bk i (k-1) tz.1 lp.1 U;rw[tz.2,lp.2]at this;omega
  ·have:i=k-1:=Ω
   subst this;rw[aN]at aq;cases aq;exact J) af ad
 rcases Nat.eq_zero_or_pos k with rfl|fA
 ·have e:=tx fun c h=>Ω
  rw[e];simp;(with_reducible repeat' first|refine aj ?_|simp);simp[bu,MV,aW,aY,aV];try simp[hx]
 ·obtain⟨d,aN⟩:∃d,s[k-1]? =some d:=⟨_,cf Ω⟩;have ao:((k:Int)-1).toNat=k-1:=Ω
  have aF:∀h,(s[k-1]'h)=d:=fun h=>by rw[cf h]at aN;exact eJ aN
  have iV:(0:Int)<k:=Ω
  by_cases ab:b.v<d.v
  ·simp[fA,iV,ao,aF,ab,aN];(with_reducible repeat' first|refine aj ?_|simp[fA,iV,ao,aF,ab,aN]);refine bQ.whl (k-1) Ω ⟨Ω,fun c aq=>by rw[aN]at aq;cases aq;exact ab⟩ ?_;have bA:((k-1:Nat):Int)=(k:Int)-1:=Ω
   simp[bA];exact bV
  ·have e:=tx fun c _ aq=>by rw[aN]at aq;cases aq;omega
   rw[e];simp[fA,iV,ao,aF,ab,aN];(with_reducible repeat' first|refine aj ?_|simp[fA,iV,ao,aF,ab,aN]);simp[bu,MV,aW,aY,aV];have dr:pj s.length (s.map ak.e)=s.map ak.e:=hx Ψ;rw[dr,<-List.map_take,<-List.map_drop,<-hk,<-List.map_append];exact XA _
def ND(v:Int)(x:T)(b:ak):ak:=⟨b.v,b.t.ap (Go.Pv.one v x)⟩
def agD(s:List ak)(v:Int)(x:T)(i:Nat)(out:List ak):Prop:=out=(s.take i).map (ND v x)/\∀b∈s.take i,(b.t.ap (Go.Pv.one v x)).size<=5000
theorem amN(s:List ak)(v:Int)(t:T)(av:s.length<=1000000)(bk:gQ s):bZ az 152 [.slice 5 .no (s.map ak.e),.int .i64 v,t.e] (fH (n2 s v t)):=by
 obtain⟨x,ae⟩:∃x,x=t.ap (bh s):=⟨_,rfl⟩;have r4:=zl s av t;rw[<-ae]at r4;obtain⟨o,ax⟩:∃o,o=n2 s v t:=⟨_,rfl⟩;have h3:x.size<=5000->x.occ v=false->s.length<400->(∀b∈s,(b.t.ap (Go.Pv.one v x)).size<=5000)->o=some (mH s v x):=fun a6 bD bY c5=>by rw[ax,n2,<-ae,if_pos ⟨a6,bD,bY,c5⟩]
 have cF:¬(x.size<=5000/\x.occ v=false/\s.length<400/\∀b∈s,(b.t.ap (Go.Pv.one v x)).size<=5000)->o=none:=fun q=>by rw[ax,n2,<-ae,if_neg q]
 rw[<-ax];clear ax;by_cases J:x.size<=5000;rotate_left
 ·rw[cF fun h=>J h.1];refine bz eH FG Hd fun aT=>?_;unfold Ce;simp;(with_reducible repeat' first|refine aj ?_|refine aD r4 ?_|refine aE r4 ?_|refine aD (xy _ _) ?_|refine aE (xy _ _) ?_|simp[J]);simp[bu,Br,aW,aY,aV];simp[fH]
 cases U:x.occ v with
 |true=>rw[cF fun h=>by rw[U]at h;cases h.2.1];refine bz eH FG Hd fun aT=>?_;unfold Ce;simp;(with_reducible repeat' first|refine aj ?_|refine aD r4 ?_|refine aE r4 ?_|refine aD (xy _ _) ?_|refine aE (xy _ _) ?_|simp[J,U]);simp[bu,Br,aW,aY,aV];simp[fH]
 |false=>
 by_cases ar:s.length<400;rotate_left
 ·rw[cF fun h=>ar h.2.2.1];have tq:(400:Int)<=s.length:=Ω
  refine bz eH FG Hd fun aT=>?_;unfold Ce;simp;(with_reducible repeat' first|refine aj ?_|refine aD r4 ?_|refine aE r4 ?_|refine aD (xy _ _) ?_|refine aE (xy _ _) ?_|simp[J,U,tq]);simp[bu,Br,aW,aY,aV];simp[fH]
 have tq:¬(400:Int)<=s.length:=Ω
 refine bz eH FG Hd fun aT=>?_;unfold Ce;simp;(with_reducible repeat' first|refine aj ?_|refine aD r4 ?_|refine aE r4 ?_|refine aD (xy _ _) ?_|refine aE (xy _ _) ?_|simp[J,U,tq]);refine hQ (α:=List ak) (fun i out=>⟨[(1,.int .i64 v),(8,.ptr (.loc 1) 0),(33,.slice 5 .no (s.map ak.e)),(34,.int .i64 s.length),(10,.slice 5 (.own (.loc 2)) (out.map ak.e)),(35,.int .i64 i)],[(.loc 1,[.int .i64 x.kind,.int .i64 x.int,.str x.name,.slice 4 .no (x.args.map T.e)])],[(.loc 2,⟨out.length,54,5,none⟩)],3,[]⟩) s.length (agD s v x) [] bV ⟨Ψ,Ψ⟩ (fun out af _=>?_) (fun i out hi af _=>?_)
 ·obtain⟨dZ,oc⟩:=af;rw[hx (eX _)]at dZ oc;have aew:gQ out:=by rw[dZ,gQ,List.pairwise_map];exact bk
  have Ap:out.length<=1000000:=by rw[dZ];simpa using av
  rw[h3 J U ar oc];have key:=amK out ⟨v,x⟩ Ap aew;simp;(with_reducible repeat' first|refine aj ?_|refine aD key ?_|refine aE key ?_|simp);simp[bu,Br,aW,aY,aV];simp[fH,mH,dZ];rfl
 ·obtain⟨dZ,oc⟩:=af;obtain⟨b,aC,gi⟩:=ec hi;have wF:s.take (i+1)=s.take i++[b]:=by rw[List.take_succ,aC];rfl
  have Ap:out.length<=1000000:=by rw[dZ];simp;omega
  simp[hi,gi];by_cases bf:(b.t.ap (Go.Pv.one v x)).size<=5000
  ·(with_reducible repeat' first|refine aj ?_|refine aD (Il _ _ _) ?_|refine aE (Il _ _ _) ?_|refine aD (BL _) ?_|refine aE (BL _) ?_|simp[gi,hi,bf]);all_goals first|(refine⟨by unfold lim;omega,?_⟩)|skip
   (with_reducible repeat' first|refine aj ?_|simp);refine bQ.rng (out++[ND v x b]) hi ⟨by rw[wF,dZ,List.map_append];rfl,fun c aq=>?_⟩ ?_
   ·rw[wF]at aq;rcases ih.1 aq with aq|aq
    ·exact oc c aq
    ·simp at aq;subst aq;exact bf
   ·simp[ND];exact⟨by simp[fresh,aP,aG,cn,inObs,Pv.look,jq],en (by simp[fresh,aP,aG,cn,inObs,Pv.look,jq]),eo (by simp[fresh,aP,aG,dV,inObs,Pv.look,jq]),Ψ⟩
  ·rw[cF fun h=>bf (h.2.2.2 b (ed aC))];(with_reducible repeat' first|refine aj ?_|refine aD (Il _ _ _) ?_|refine aE (Il _ _ _) ?_|refine aD (BL _) ?_|refine aE (BL _) ?_|simp[gi,hi,bf]);simp[bu,Br,aW,aY,aV];simp[fH]
theorem amc{s:List ak}(ag:ft s)(aR:fS s){n:Nat}{a b:T}{o:Option (List ak)}(h:kV n s a b=some o):iN s [(a,b)] o:=by obtain⟨n',o',J,U⟩:=Ih ag aR a b;have ao:=Ew (Nat.le_max_left n n') h;have aF:=Ew (Nat.le_max_right n n') J;rw[ao]at aF;cases aF;exact U
def BI(n:Nat):List (T×T)->List ak->Option (Option (List ak))
 |[],s=>some (some s)
 |e::r,s=>match kV n s e.1 e.2 with
  |none=>none
  |some none=>some none
  |some (some s1)=>BI n r s1
def yG(x y:T):Bool:=x.kind==y.kind&&x.int==y.int&&x.name==y.name
theorem ama(n:Nat)(s:List ak){x y:T}(ae:x.kind≠1)(aH:y.kind≠1):kj (kV n) s x y=if yG x y then BI n (x.args.zip y.args) s else some none:=by
 cases x<;>cases y<;>simp[kj,yG,BI]at ae aH⊢
 ·rename_i a b;split<;>simp_all
 ·rename_i a b;split<;>simp_all
 ·rename_i bB a2 ck ca;cases kV n s bB ck with
  |none=>rfl
  |some o=>cases o with
   |none=>rfl
   |some s1=>
    simp only
    cases kV n s1 a2 ca with
    |none=>rfl
    |some o=>cases o<;>rfl
theorem ag3{x y:T}(h:yG x y=true):x.args.length=y.args.length:=by cases x<;>cases y<;>simp[yG]at h⊢
@[simp]theorem aoL(o:Option (List ak)):zP 0 (fH o)=some (True,.slice 5 .no ((o.getD []).map ak.e)):=rfl
@[simp]theorem aoM(o:Option (List ak)):zP 1 (fH o)=some (True,.bool o.isSome):=rfl
theorem amQ(n:Nat):∀(s:List ak) (a b:T) (o:Option (List ak)),ft s->fS s->kV n s a b=some o->bZ az 101 [.slice 5 .no (s.map ak.e),a.e,b.e] (fH o):=by
 induction n with
 |zero=>intro s a b o _ _ h;simp[kV]at h
 |succ n bU=>
  intro s a b o ag aR he;have av:s.length<=1000000:=by have:=aR.1;omega
  have eV:=Io s av a;have dP:=Io s av b;simp only[kV]at he;generalize ht s a=x at he eV;generalize ht s b=y at he dP;have ab:=fun v t=>amN s v t av ag.asc;have qX:∀z:T,¬z.kind=1->(z.kind==1)=false:=fun z h=>by simp[h]
  by_cases ae:x.kind=1
  ·obtain⟨i,rfl⟩:∃i,x= .var i:=by cases x<;>simp at ae;exact⟨_,rfl⟩
   by_cases aH:y.kind=1
   ·obtain⟨j,rfl⟩:∃j,y= .var j:=by cases y<;>simp at aH;exact⟨_,rfl⟩
    simp only[kj,dC]at he;subst he;rcases Int.lt_trichotomy i j with h|h|h
    ·rw[if_pos h];have key:=ab j (.var i);refine bz eH uM vq fun aT=>?_;unfold te;simp;(with_reducible repeat' first|refine aj ?_|refine aD eV ?_|refine aE eV ?_|refine aD dP ?_|refine aE dP ?_|refine aD key ?_|refine aE key ?_|simp[h]);simp[bu,sE,aW,aY,aV];simp[fH]
    ·subst h;rw[if_neg Ω,if_pos rfl];have bE:¬i<i:=Ω
     refine bz eH uM vq fun aT=>?_;unfold te;simp;(with_reducible repeat' first|refine aj ?_|refine aD eV ?_|refine aE eV ?_|refine aD dP ?_|refine aE dP ?_|simp[bE]);simp[bu,sE,aW,aY,aV];simp[fH]
    ·rw[if_neg Ω,if_neg Ω];have key:=ab i (.var j);have bE:¬i<j:=Ω
     have U:¬i=j:=Ω
     refine bz eH uM vq fun aT=>?_;unfold te;simp;((with_reducible repeat' first|refine aj ?_|refine aD eV ?_|refine aE eV ?_|refine aD dP ?_|refine aE dP ?_|refine aD key ?_|refine aE key ?_|simp[bE,U]|((first|apply bJ|apply bM|apply bL)<;>intro h<;>try simp at h))<;>(try exact cc));simp[bu,sE,aW,aY,aV];simp[fH]
   ·have wk:n2 s i y=o:=by cases y<;>first|(simp at aH;done)|exact eJ he
    subst wk;have key:=ab i y;refine bz eH uM vq fun aT=>?_;unfold te;simp;(with_reducible repeat' first|refine aj ?_|refine aD eV ?_|refine aE eV ?_|refine aD dP ?_|refine aE dP ?_|refine aD key ?_|refine aE key ?_|simp[qX y aH]);simp[bu,sE,aW,aY,aV];simp[fH]
  ·by_cases aH:y.kind=1
   ·obtain⟨j,rfl⟩:∃j,y= .var j:=by cases y<;>simp at aH;exact⟨_,rfl⟩
    have wk:n2 s j x=o:=by cases x<;>first|(simp at ae;done)|exact eJ he
    subst wk;have key:=ab j x;refine bz eH uM vq fun aT=>?_;unfold te;simp;(with_reducible repeat' first|refine aj ?_|refine aD eV ?_|refine aE eV ?_|refine aD dP ?_|refine aE dP ?_|refine aD key ?_|refine aE key ?_|simp[qX x ae]);simp[bu,sE,aW,aY,aV];simp[fH]
   ·rw[ama n s ae aH]at he;cases hle:yG x y with
    |false=>
     rw[hle]at he;simp at he;subst he;have KL:(x.kind !=y.kind)=true\/((x.kind !=y.kind)=false/\((x.int !=y.int)=true\/((x.int !=y.int)=false/\(x.name !=y.name)=true))):=by simp only[yG]at hle;simp only[bne];cases ao:(x.kind==y.kind)<;>cases aF:(x.int==y.int)<;>cases bA:(x.name==y.name)<;>simp_all
     rcases KL with a6|⟨a6,bD|⟨bD,bY⟩⟩
     ·refine bz eH uM vq fun aT=>?_;unfold te;simp;(with_reducible repeat' first|refine aj ?_|refine aD eV ?_|refine aE eV ?_|refine aD dP ?_|refine aE dP ?_|simp[qX x ae,qX y aH,a6]);simp[bu,sE,aW,aY,aV];simp[fH]
     ·refine bz eH uM vq fun aT=>?_;unfold te;simp;(with_reducible repeat' first|refine aj ?_|refine aD eV ?_|refine aE eV ?_|refine aD dP ?_|refine aE dP ?_|simp[qX x ae,qX y aH,a6,bD]);simp[bu,sE,aW,aY,aV];simp[fH]
     ·refine bz eH uM vq fun aT=>?_;unfold te;simp;have Hm:¬x.name=y.name:=by simpa using bY
      have aj7:decide (x.name=y.name)=false:=by simp[Hm]
      ((with_reducible repeat' first|refine aj ?_|refine aD eV ?_|refine aE eV ?_|refine aD dP ?_|refine aE dP ?_|simp[qX x ae,qX y aH,a6,bD,bY,Hm,aj7]|((first|apply bJ|apply bM|apply bL)<;>intro h<;>try simp at h))<;>(try exact cc));simp[bu,sE,aW,aY,aV];simp[fH]
    |true=>
     rw[hle,if_pos rfl]at he;have KL:(x.kind !=y.kind)=false/\(x.int !=y.int)=false/\(x.name !=y.name)=false:=by simp only[yG]at hle;simp only[bne];cases ao:(x.kind==y.kind)<;>cases aF:(x.int==y.int)<;>cases bA:(x.name==y.name)<;>simp_all
     obtain⟨a6,bD,bY⟩:=KL;have hlen:=ag3 hle;have Hm:x.name=y.name:=by simpa using bY
     have mf:x.args.length<=2:=by cases x<;>simp
     refine bz eH uM vq fun aT=>?_;unfold te;simp;(with_reducible repeat' first|refine aj ?_|refine aD eV ?_|refine aE eV ?_|refine aD dP ?_|refine aE dP ?_|simp[qX x ae,qX y aH,a6,bD,Hm]);refine hQ (α:=List ak) (fun i ah=>⟨[(5,.ptr (.loc 1) 0),(96,.slice 4 .no (x.args.map T.e)),(97,.int .i64 x.args.length),(0,.slice 5 .no (ah.map ak.e)),(98,.int .i64 i)],[(.loc 1,[.int .i64 y.kind,.int .i64 y.int,.str y.name,.slice 4 .no (y.args.map T.e)])],[],2,[]⟩) x.args.length (fun i ah=>(ft ah/\fS ah)/\BI n ((x.args.zip y.args).drop i) ah=some o) s bV ⟨⟨ag,aR⟩,by simpa using he⟩ (fun ah af _=>?_) (fun i ah hi af _=>?_)
     ·obtain⟨_,af⟩:=af;rw[List.drop_eq_nil_of_le (by simp[hlen])]at af;simp[BI]at af;subst af;simp;(with_reducible repeat' first|refine aj ?_|simp);simp[bu,sE,aW,aY,aV];simp[fH]
     ·obtain⟨⟨g1,g2⟩,af⟩:=af;obtain⟨bB,bk⟩:∃a,x.args[i]? =some a:=⟨_,cf hi⟩;obtain⟨ck,fZ⟩:∃b,y.args[i]? =some b:=⟨_,cf Ω⟩;have nB:∀h,(x.args[i]'h)=bB:=fun h=>by rw[cf hi]at bk;exact eJ bk
      have cw:∀h,(y.args[i]'h)=ck:=fun h=>by rw[cf h]at fZ;exact eJ fZ
      have r9:i<y.args.length:=Ω
      have aN:(x.args.zip y.args).drop i=(bB,ck)::(x.args.zip y.args).drop (i+1):=by rw[kX d7];simp[nB,cw]
      rw[aN]at af;simp only[BI]at af;simp[hi,nB,cw,r9];cases hu:kV n ah bB ck with
      |none=>rw[hu]at af;cases af
      |some hf=>
       have key:=bU ah bB ck hf g1 g2 hu;rw[hu]at af;cases hf with
       |none=>simp at af;subst af;(with_reducible repeat' first|refine aj ?_|refine aD key ?_|refine aE key ?_|simp[nB,cw,hi,r9]);simp[bu,sE,aW,aY,aV];simp[fH]
       |some s1=>have afW:=amc g1 g2 hu;(with_reducible repeat' first|refine aj ?_|refine aD key ?_|refine aE key ?_|simp[nB,cw,hi,r9]);refine bQ.rng s1 hi ⟨afW.1,af⟩ ?_;exact bV
theorem N4(s:List ak)(a b:T)(ag:ft s)(aR:fS s):bZ az 101 [.slice 5 .no (s.map ak.e),a.e,b.e] (fH (mgu s [(a,b)])):=by obtain⟨n,o,J,U⟩:=Ih ag aR a b;rw[pR U];exact amQ n s a b o ag aR J
def agC(s:List ak)(E:List (T×T))(i:Nat)(ah:List ak):Prop:=(ft ah/\fS ah)/\mgu ah (E.drop i)=mgu s E
theorem amM(s:List ak)(l r:List T)(av:l.length=r.length)(ag:ft s)(aR:fS s)(yi:l.length<=1000000):bZ az 156 [.slice 5 .no (s.map ak.e),.slice 4 .no (l.map T.e),.slice 4 .no (r.map T.e)] (fH (mgu s (l.zip r))):=by
 refine bz eH acS ajw fun aT=>?_;unfold QZ;simp;refine hQ (α:=List ak) (fun i ah=>⟨[(2,.slice 4 .no (r.map T.e)),(12,.slice 4 .no (l.map T.e)),(13,.int .i64 l.length),(0,.slice 5 .no (ah.map ak.e)),(14,.int .i64 i)],[],[],0,[]⟩) l.length (agC s (l.zip r)) s bV ⟨⟨ag,aR⟩,Ψ⟩ (fun ah af _=>?_) (fun i ah hi af _=>?_)
 ·obtain⟨⟨g1,g2⟩,af⟩:=af;rw[List.drop_eq_nil_of_le (by simp[av]),G2 g1 g2]at af;rw[<-af];simp;(with_reducible repeat' first|refine aj ?_|simp);simp[bu,MX,aW,aY,aV];simp[fH]
 ·obtain⟨⟨g1,g2⟩,af⟩:=af;obtain⟨a,bk⟩:∃a,l[i]? =some a:=⟨_,cf hi⟩;obtain⟨b,fZ⟩:∃b,r[i]? =some b:=⟨_,cf Ω⟩;have nB:∀h,(l[i]'h)=a:=fun h=>by rw[cf hi]at bk;exact eJ bk
  have cw:∀h,(r[i]'h)=b:=fun h=>by rw[cf h]at fZ;exact eJ fZ
  have r9:i<r.length:=Ω
  have aN:(l.zip r).drop i=(a,b)::(l.zip r).drop (i+1):=by rw[kX d7];simp[nB,cw]
  rw[aN,L7 g1 g2]at af;simp[hi,nB,cw,r9];have key:=N4 ah a b g1 g2;cases hu:mgu ah [(a,b)]with
  |none=>rw[hu]at af key;simp only at af;rw[<-af];(with_reducible repeat' first|refine aj ?_|refine aD key ?_|refine aE key ?_|simp[nB,cw,hi,r9]);simp[bu,MX,aW,aY,aV];simp[fH]
  |some s1=>have nG:=sv g1 g2 hu;rw[hu]at af key;(with_reducible repeat' first|refine aj ?_|refine aD key ?_|refine aE key ?_|simp[nB,cw,hi,r9]);refine bQ.rng s1 hi ⟨nG,af⟩ ?_;exact bV
theorem km(n:Int):bZ az 84 [.int .i64 n] (T.var n).e:=by refine bz fJ R5 VP fun aT=>?_;unfold Jr;exact cD
def agG(t:List ak)(i:Nat)(p:List T×List T):Prop:=p.1=(t.take i).map (fun b=>T.var b.v)/\p.2=(t.take i).map (·.t)
theorem amO(s t:List ak)(ag:ft s)(aR:fS s)(aM:t.length<=1000000):bZ az 123 [.slice 5 .no (s.map ak.e),.slice 5 .no (t.map ak.e)] (fH (mgu s (gY t))):=by
 have bf:(t.map fun b=>T.var b.v).zip (t.map (·.t))=gY t:=by rw[gY,List.zip_map']
 refine bz eH acT ajx fun aT=>?_;unfold Q0;simp;refine hQ (α:=List T×List T) (fun i p=>⟨[(0,.slice 5 .no (s.map ak.e)),(12,.slice 5 .no (t.map ak.e)),(13,.int .i64 t.length),(6,.slice 4 (.own (.loc 0)) (p.1.map T.e)),(7,.slice 4 (.own (.loc 1)) (p.2.map T.e)),(14,.int .i64 i)],[],[(.loc 0,⟨p.1.length,36,4,none⟩),(.loc 1,⟨p.2.length,36,4,none⟩)],2,[]⟩) t.length (agG t) ([],[]) bV ⟨Ψ,Ψ⟩ (fun p af _=>?_) (fun i p hi af _=>?_)
 ·obtain⟨A,B⟩:=p;obtain⟨bg,jR⟩:=af;simp only at bg jR⊢;rw[hx (eX _)]at bg jR;have key:=amM s A B (by rw[bg,jR];simp) ag aR (by rw[bg];simpa using aM);rw[bg,jR,bf,<-bg,<-jR]at key;simp;(with_reducible repeat' first|refine aj ?_|refine aD key ?_|refine aE key ?_|simp);simp[bu,WX,aW,aY,aV];simp[fH]
 ·obtain⟨A,B⟩:=p;obtain⟨bg,jR⟩:=af;simp only at bg jR⊢;obtain⟨b,aC,gi⟩:=ec hi;have wF:t.take (i+1)=t.take i++[b]:=by rw[List.take_succ,aC];rfl
  have aek:A.length<=1000000:=by rw[bg];simp;omega
  have ael:B.length<=1000000:=by rw[jR];simp;omega
  simp[hi,gi];(with_reducible repeat' first|refine aj ?_|refine aD (km _) ?_|refine aE (km _) ?_|simp[gi,hi]);all_goals first|(refine⟨by unfold lim;omega,?_⟩)|skip
  (with_reducible repeat' first|refine aj ?_|simp);all_goals first|(refine⟨by unfold lim;omega,?_⟩)|skip
  (with_reducible repeat' first|refine aj ?_|simp);refine bQ.rng (A++[.var b.v],B++[b.t]) hi ⟨by rw[wF,bg];simp,by rw[wF,jR];simp⟩ ?_;simp;exact⟨by simp[fresh,aP,aG,cn,inObs,Pv.look,jq],en (by simp[fresh,aP,aG,cn,inObs,Pv.look,jq]),eo (by simp[fresh,aP,aG,dV,inObs,Pv.look,jq]),Ψ⟩
theorem dx(n lo hi:Int):bZ az 67 [.int .i64 n,.int .i64 lo,.int .i64 hi] (.bool (decide (lo<=n/\n<=hi))):=by
 refine bz eH acz ajd fun aT=>?_;unfold QG;simp;((with_reducible repeat' first|refine aj ?_|simp|((first|apply bJ|apply bM|apply bL)<;>intro h<;>try simp at h))<;>(try exact cc));all_goals simp[bu,WK,aW,aY,aV]
 all_goals first|omega|(simp;done)|(simp;omega)
def shp:b3->Bool
 | .mk k n s [a,b]=>k==4&&n==0&&s==[]&&shp a&&shp b
 | .mk k n s []=>lv k n s
 |_=>false
theorem H4:∀x:T,shp x.tm=x.ok
 | .nil=>by simp[T.tm,shp,lv,T.ok]
 | .var _=>by simp[T.tm,shp,lv,T.ok]
 | .sym _=>by simp[T.tm,shp,lv,T.ok]
 | .num _=>by simp[T.tm,shp,lv,T.ok]
 | .pair a b=>by simp[T.tm,shp,T.ok,H4 a,H4 b]
theorem alw:∀(m:Nat) (t:b3),t.sz<=m->shp t=true->∃x:T,x.tm=t:=by
 intro m;induction m with
 |zero=>intro t aM;cases t;simp[b3.sz]at aM
 |succ m bU=>
  rintro⟨k,n,s,args⟩ aM h;match args with
  |[a,b]=>
   simp[b3.sz,b3.szL]at aM;simp only[shp,cE,dL]at h;obtain⟨⟨⟨⟨rfl,rfl⟩,ar⟩,J⟩,U⟩:=h;obtain⟨x,rfl⟩:=bU a Ω J;obtain⟨y,rfl⟩:=bU b Ω U;have:s=[]:=by simpa using ar
   subst this;exact⟨.pair x y,rfl⟩
  |[]=>
   simp only[shp,lv]at h;split at h
   ·subst_vars;simp at h;exact⟨.nil,by simp[T.tm,h]⟩
   split at h
   ·subst_vars;simp at h;exact⟨.var n,by simp[T.tm,h]⟩
   split at h
   ·subst_vars;simp at h;exact⟨.sym s,by simp[T.tm,h]⟩
   split at h
   ·subst_vars;simp at h;exact⟨.num n,by simp[T.tm,h]⟩
   ·simp at h
  |[_]=>simp[shp]at h
  |_::_::_::_=>simp[shp]at h
theorem ade(t:b3):t.fits=(decide (lH t 5000<=5000)&&shp t):=by
 by_cases h:shp t=true
 ·obtain⟨x,rfl⟩:=alw _ t (eX _) h;have:=(Ft x 5000 Ω).1;rw[b3.fits_T,T.fit,h];rw[H4]at h;simp[h,this];omega
 ·have bE:t.fits=false:=by
   cases aR:t.fits with
   |false=>rfl
   |true=>obtain⟨x,rfl,ae⟩:=b3.fits_ex aR;rw[H4]at h;simp[T.fit]at ae;exact absurd ae.1 h
  simp at h;rw[bE,h];simp
def Ln(s:List UInt8)(i:Nat):Prop:=i<=s.length/\∀k,k<i->mT (s.getD k 0)=true/\(k=0->low (s.getD k 0)=true)
theorem agA{s:List UInt8}(h:Ln s s.length):iv s=decide (1<=s.length/\s.length<=12):=by
 unfold iv;by_cases av:1<=s.length
 ·have J:=(h.2 0 Ω).2 rfl;have U:(s.drop 1).all mT=true:=by rw[fM];intro b ab;obtain⟨i,hi,e⟩:=nX ab;simp at hi e;have:=(h.2 (i+1) Ω).1;rw[List.getD_eq_getElem?_getD,cf Ω]at this;simp only[jL]at this;rw[<-e];exact this
  rw[J,U];simp
 ·have:decide (1<=s.length/\s.length<=12)=false:=by simp;omega
  rw[this];simp
theorem agz{s:List UInt8}{i:Nat}(hi:i<s.length)(h:mT (s.getD i 0)=false\/(i=0/\low (s.getD i 0)=false)):iv s=false:=by
 cases e:iv s with
 |false=>rfl
 |true=>
  exfalso;simp only[iv,cE,fM]at e;obtain⟨⟨_,ao⟩,aF⟩:=e;rcases h with h|⟨rfl,h⟩
  ·by_cases bE:i=0
   ·subst bE;rw[mT,ao]at h;simp at h
   ·have:=aF (s.getD i 0) (by rw[List.getD_eq_getElem?_getD,cf hi];simp only[jL];refine List.mem_iff_getElem.2 ⟨i-1,by simp;omega,?_⟩;simp[show i-1+1=i from by omega])
    rw[this]at h;cases h
  ·rw[ao]at h;cases h
theorem hg(s:List UInt8):bZ az 119 [.str s] (.bool (iv s)):=by
 generalize bG:iv s=R;refine bz eH acq ai5 fun aT=>?_;unfold Qy;have ir:s.length<=68719476736:=by simp[gS,gg,gE,lim]at aT;omega
 simp;refine v7 [0] (fun(i:Nat)=>[(3,.int .i64 i)]) (fun i=>s.length-i) (Ln s) 0 bV ⟨Ω,fun k ad=>Ω⟩ (fun i af _=>?_);have dZ:=af.1;by_cases hi:i<s.length
 ·have cF:=agz hi;rw[bG]at cF;obtain⟨c,aq,iS⟩:=ec hi;have S3:s.getD i 0=c:=by simp[List.getD_eq_getElem?_getD,aq]
  rw[S3]at cF;have da:mT c=true->(i=0->low c=true)->Ln s (i+1):=fun J U=>⟨Ω,fun k ad=>by
   rcases(by omega:k<i\/k=i)with h|rfl
   ·exact af.2 k h
   ·rw[S3];exact⟨J,U⟩⟩
  have hw:nk.wrap (c.toNat:Int)=c.toNat:=mB _ (by have:=c.toNat_lt;omega);simp[hi,iS,aq];by_cases a6:(97:Int)<=c.toNat
  ·by_cases bD:(c.toNat:Int)<=122
   ·have av:low c=true:=by simp[low];omega
    (with_reducible repeat' first|refine aj ?_|refine aD (dx _ _ _) ?_|refine aE (dx _ _ _) ?_|simp[hi,iS,aq,a6,bD]);exact bQ.whl (i+1) Ω (da (by simp[mT,av]) (fun _=>av)) bV
   ·have av:low c=false:=by simp[low];omega
    by_cases bE:i=0
    ·rw[cF (.inr ⟨bE,av⟩)];have rZ:((i:Int)==0)=true:=by simp[bE]
     (with_reducible repeat' first|refine aj ?_|refine aD (dx _ _ _) ?_|refine aE (dx _ _ _) ?_|simp[hi,iS,aq,a6,bD,rZ,hw]);simp[bu,Bn,aW,aY,aV]
    ·have rZ:((i:Int)==0)=false:=by simp[bE]
     by_cases bY:(c.toNat:Int)=45
     ·have sD:((c.toNat:Int) !=45)=false:=by simp[bY]
      (with_reducible repeat' first|refine aj ?_|refine aD (dx _ _ _) ?_|refine aE (dx _ _ _) ?_|simp[hi,iS,aq,a6,bD,rZ,hw,bY,sD]);all_goals exact bQ.whl (i+1) Ω (da (by simp[mT];omega) (fun h=>absurd h bE)) bV
     ·have sD:((c.toNat:Int) !=45)=true:=by simp[bY]
      by_cases c5:(48:Int)<=c.toNat/\(c.toNat:Int)<=57
      ·(with_reducible repeat' first|refine aj ?_|refine aD (dx _ _ _) ?_|refine aE (dx _ _ _) ?_|simp[hi,iS,aq,a6,bD,rZ,hw,bY,sD,c5]);all_goals exact bQ.whl (i+1) Ω (da (by simp[mT];omega) (fun h=>absurd h bE)) bV
      ·rw[cF (.inl (by simp[mT,av];omega))];(with_reducible repeat' first|refine aj ?_|refine aD (dx _ _ _) ?_|refine aE (dx _ _ _) ?_|simp[hi,iS,aq,a6,bD,rZ,hw,bY,sD,c5]);simp[bu,Bn,aW,aY,aV]
  ·have av:low c=false:=by simp[low];omega
   by_cases bE:i=0
   ·rw[cF (.inr ⟨bE,av⟩)];have rZ:((i:Int)==0)=true:=by simp[bE]
    (with_reducible repeat' first|refine aj ?_|refine aD (dx _ _ _) ?_|refine aE (dx _ _ _) ?_|simp[hi,iS,aq,a6,rZ,hw]);simp[bu,Bn,aW,aY,aV]
   ·have rZ:((i:Int)==0)=false:=by simp[bE]
    by_cases bY:(c.toNat:Int)=45
    ·have sD:((c.toNat:Int) !=45)=false:=by simp[bY]
     (with_reducible repeat' first|refine aj ?_|refine aD (dx _ _ _) ?_|refine aE (dx _ _ _) ?_|simp[hi,iS,aq,a6,rZ,hw,bY,sD]);all_goals exact bQ.whl (i+1) Ω (da (by simp[mT];omega) (fun h=>absurd h bE)) bV
    ·have sD:((c.toNat:Int) !=45)=true:=by simp[bY]
     by_cases c5:(48:Int)<=c.toNat/\(c.toNat:Int)<=57
     ·(with_reducible repeat' first|refine aj ?_|refine aD (dx _ _ _) ?_|refine aE (dx _ _ _) ?_|simp[hi,iS,aq,a6,rZ,hw,bY,sD,c5]);all_goals exact bQ.whl (i+1) Ω (da (by simp[mT];omega) (fun h=>absurd h bE)) bV
     ·rw[cF (.inl (by simp[mT,av];omega))];(with_reducible repeat' first|refine aj ?_|refine aD (dx _ _ _) ?_|refine aE (dx _ _ _) ?_|simp[hi,iS,aq,a6,rZ,hw,bY,sD,c5]);simp[bu,Bn,aW,aY,aV]
 ·have:i=s.length:=Ω
  subst this;rw[agA af]at bG;simp[hi];(with_reducible repeat' first|refine aj ?_|refine aD (dx _ _ _) ?_|refine aE (dx _ _ _) ?_|simp[hi]);simp[bu,Bn,aW,aY,aV];rw[<-bG,p1];simp;omega
def vH:List b3->Bool
 |[a,b]=>shp a&&shp b
 |_=>false
theorem alv(k n:Int)(s:List UInt8)(args:List b3):shp ⟨k,n,s,args⟩=if k≠1/\k≠3/\n≠0 then false else if k≠2/\s≠[]then false else if k≠4/\args≠[]then false else if k=0 then true else if k=1 then decide (0<=n/\n<=100000)else if k=2 then iv s else if k=3 then decide (-1000000000<=n/\n<=1000000000)else if k=4 then vH args else false:=by
 by_cases hb:k=0
 ·subst hb;match args with
  |[]=>by_cases ay:n=0<;>by_cases ag:s=[]<;>simp[shp,lv,ay,ag]
  |[a]=>simp[shp]
  |[a,b]=>simp[shp]
  |_::_::_::_=>simp[shp]
 by_cases aU:k=1
 ·subst aU;match args with
  |[]=>by_cases ag:s=[]<;>simp[shp,lv,ag]
  |[a]=>simp[shp]
  |[a,b]=>simp[shp]
  |_::_::_::_=>simp[shp]
 by_cases bp:k=2
 ·subst bp;match args with
  |[]=>by_cases ay:n=0<;>simp[shp,lv,ay]
  |[a]=>simp[shp]
  |[a,b]=>simp[shp]
  |_::_::_::_=>simp[shp]
 by_cases b1:k=3
 ·subst b1;match args with
  |[]=>by_cases ag:s=[]<;>simp[shp,lv,ag]
  |[a]=>simp[shp]
  |[a,b]=>simp[shp]
  |_::_::_::_=>simp[shp]
 by_cases fT:k=4
 ·subst fT;match args with
  |[]=>simp[shp,lv,vH]
  |[a]=>simp[shp,vH]
  |[a,b]=>by_cases ay:n=0<;>by_cases ag:s=[]<;>simp[shp,vH,ay,ag]
  |_::_::_::_=>simp[shp,vH]
 ·match args with
  |[]=>simp[shp,lv,hb,aU,bp,b1,fT]
  |[a]=>simp[shp,hb,aU,bp,b1,fT]
  |[a,b]=>simp[shp,hb,aU,bp,b1,fT]
  |_::_::_::_=>simp[shp,hb,aU,bp,b1,fT]
set_option maxRecDepth 8000 in
theorem amI(m:Nat):∀(t:b3),t.sz<=m->bZ az 127 [enc t] (.bool (shp t)):=by
 induction m with
 |zero=>intro t aM;cases t;simp[b3.sz]at aM
 |succ m bU=>
 rintro⟨k,n,s,args⟩ aM;generalize bG:shp ⟨k,n,s,args⟩=R;have dp:=alv k n s args;rw[bG]at dp;by_cases ck:k≠1/\k≠3/\n≠0
 ·rw[if_pos ck]at dp;obtain⟨aU,b1,n0⟩:=ck;have AJ:(k !=1)=true:=by simp[aU]
  have AK:(k !=3)=true:=by simp[b1]
  have Ma:(n !=0)=true:=by simp[n0]
  subst dp;refine bz eH mK nc fun aT=>?_;unfold ma;simp[b3.kind,b3.num,b3.name,b3.args];(with_reducible repeat' first|refine aj ?_|refine aD (dx _ _ _) ?_|refine aE (dx _ _ _) ?_|refine aD (hg _) ?_|refine aE (hg _) ?_|simp[AJ,AK,Ma]);all_goals simp[bu,lZ,aW,aY,aV]
 rw[if_neg ck]at dp;have B7:(if k !=1 then k !=3 else false)=true->(n !=0)=false:=by intro h;simp at h⊢;exact Classical.byContradiction fun ay=>ck ⟨h.1,h.2,ay⟩
 by_cases ca:k≠2/\s≠[]
 ·rw[if_pos ca]at dp;have GC:(k !=2)=true:=by simp[ca.1]
  have Ni:s.isEmpty=false:=by simp[ca.2]
  by_cases aU:k=1
  ·subst aU;subst dp;refine bz eH mK nc fun aT=>?_;unfold ma;simp[b3.kind,b3.num,b3.name,b3.args];(with_reducible repeat' first|refine aj ?_|refine aD (dx _ _ _) ?_|refine aE (dx _ _ _) ?_|refine aD (hg _) ?_|refine aE (hg _) ?_|simp[Ni]);all_goals simp[bu,lZ,aW,aY,aV]
  by_cases b1:k=3
  ·subst b1;subst dp;refine bz eH mK nc fun aT=>?_;unfold ma;simp[b3.kind,b3.num,b3.name,b3.args];(with_reducible repeat' first|refine aj ?_|refine aD (dx _ _ _) ?_|refine aE (dx _ _ _) ?_|refine aD (hg _) ?_|refine aE (hg _) ?_|simp[Ni]);all_goals simp[bu,lZ,aW,aY,aV]
  have AJ:(k !=1)=true:=by simp[aU]
  have AK:(k !=3)=true:=by simp[b1]
  have Ma:(n !=0)=false:=B7 (by simp[aU,b1]);subst dp;refine bz eH mK nc fun aT=>?_;unfold ma;simp[b3.kind,b3.num,b3.name,b3.args];(with_reducible repeat' first|refine aj ?_|refine aD (dx _ _ _) ?_|refine aE (dx _ _ _) ?_|refine aD (hg _) ?_|refine aE (hg _) ?_|simp[AJ,AK,Ma,GC,Ni]);all_goals simp[bu,lZ,aW,aY,aV]
 rw[if_neg ca]at dp;by_cases hb:k=0
 ·subst hb;have n0:n=0:=by simpa using B7 (by decide)
  have s0:s=[]:=Classical.byContradiction fun h=>ca ⟨Ω,h⟩;subst n0 s0;by_cases a0:args=[];rotate_left
  ·rw[if_pos ⟨Ω,a0⟩]at dp;have uA:(0:Int)<args.length:=by have:=List.length_pos_iff.2 a0;omega
   subst dp;refine bz eH mK nc fun aT=>?_;unfold ma;simp[b3.kind,b3.num,b3.name,b3.args];((with_reducible repeat' first|refine aj ?_|refine aD (dx _ _ _) ?_|refine aE (dx _ _ _) ?_|refine aD (hg _) ?_|refine aE (hg _) ?_|simp[rE,uA]|((first|apply bJ|apply bM|apply bL)<;>intro h<;>try simp at h))<;>(try exact cc));all_goals simp[bu,lZ,aW,aY,aV]
  rw[if_neg (by simp[a0])]at dp;subst a0;simp at dp;subst dp;refine bz eH mK nc fun aT=>?_;unfold ma;simp[b3.kind,b3.num,b3.name,b3.args];(with_reducible repeat' first|refine aj ?_|refine aD (dx _ _ _) ?_|refine aE (dx _ _ _) ?_|refine aD (hg _) ?_|refine aE (hg _) ?_|simp[rE]);all_goals simp[bu,lZ,aW,aY,aV]
 by_cases aU:k=1
 ·subst aU;have s0:s=[]:=Classical.byContradiction fun h=>ca ⟨Ω,h⟩;subst s0;by_cases a0:args=[];rotate_left
  ·rw[if_pos ⟨Ω,a0⟩]at dp;have uA:(0:Int)<args.length:=by have:=List.length_pos_iff.2 a0;omega
   subst dp;refine bz eH mK nc fun aT=>?_;unfold ma;simp[b3.kind,b3.num,b3.name,b3.args];((with_reducible repeat' first|refine aj ?_|refine aD (dx _ _ _) ?_|refine aE (dx _ _ _) ?_|refine aD (hg _) ?_|refine aE (hg _) ?_|simp[rE,uA]|((first|apply bJ|apply bM|apply bL)<;>intro h<;>try simp at h))<;>(try exact cc));all_goals simp[bu,lZ,aW,aY,aV]
  rw[if_neg (by simp[a0])]at dp;subst a0;simp at dp;subst dp;refine bz eH mK nc fun aT=>?_;unfold ma;simp[b3.kind,b3.num,b3.name,b3.args];(with_reducible repeat' first|refine aj ?_|refine aD (dx _ _ _) ?_|refine aE (dx _ _ _) ?_|refine aD (hg _) ?_|refine aE (hg _) ?_|simp[rE]);all_goals simp[bu,lZ,aW,aY,aV]
 by_cases bp:k=2
 ·subst bp;have n0:n=0:=by simpa using B7 (by decide)
  subst n0;by_cases a0:args=[];rotate_left
  ·rw[if_pos ⟨Ω,a0⟩]at dp;have uA:(0:Int)<args.length:=by have:=List.length_pos_iff.2 a0;omega
   subst dp;refine bz eH mK nc fun aT=>?_;unfold ma;simp[b3.kind,b3.num,b3.name,b3.args];((with_reducible repeat' first|refine aj ?_|refine aD (dx _ _ _) ?_|refine aE (dx _ _ _) ?_|refine aD (hg _) ?_|refine aE (hg _) ?_|simp[rE,uA]|((first|apply bJ|apply bM|apply bL)<;>intro h<;>try simp at h))<;>(try exact cc));all_goals simp[bu,lZ,aW,aY,aV]
  rw[if_neg (by simp[a0])]at dp;subst a0;simp at dp;subst dp;refine bz eH mK nc fun aT=>?_;unfold ma;simp[b3.kind,b3.num,b3.name,b3.args];(with_reducible repeat' first|refine aj ?_|refine aD (dx _ _ _) ?_|refine aE (dx _ _ _) ?_|refine aD (hg _) ?_|refine aE (hg _) ?_|simp[rE]);all_goals simp[bu,lZ,aW,aY,aV]
 by_cases b1:k=3
 ·subst b1;have s0:s=[]:=Classical.byContradiction fun h=>ca ⟨Ω,h⟩;subst s0;by_cases a0:args=[];rotate_left
  ·rw[if_pos ⟨Ω,a0⟩]at dp;have uA:(0:Int)<args.length:=by have:=List.length_pos_iff.2 a0;omega
   subst dp;refine bz eH mK nc fun aT=>?_;unfold ma;simp[b3.kind,b3.num,b3.name,b3.args];((with_reducible repeat' first|refine aj ?_|refine aD (dx _ _ _) ?_|refine aE (dx _ _ _) ?_|refine aD (hg _) ?_|refine aE (hg _) ?_|simp[rE,uA]|((first|apply bJ|apply bM|apply bL)<;>intro h<;>try simp at h))<;>(try exact cc));all_goals simp[bu,lZ,aW,aY,aV]
  rw[if_neg (by simp[a0])]at dp;subst a0;simp at dp;subst dp;refine bz eH mK nc fun aT=>?_;unfold ma;simp[b3.kind,b3.num,b3.name,b3.args];(with_reducible repeat' first|refine aj ?_|refine aD (dx _ _ _) ?_|refine aE (dx _ _ _) ?_|refine aD (hg _) ?_|refine aE (hg _) ?_|simp[rE]);all_goals simp[bu,lZ,aW,aY,aV]
 by_cases fT:k=4
 ·subst fT;have n0:n=0:=by simpa using B7 (by decide)
  have s0:s=[]:=Classical.byContradiction fun h=>ca ⟨Ω,h⟩;subst n0 s0;simp at dp;match args,dp with
  |[a,b],dp=>
   simp[b3.sz,b3.szL]at aM;have bk:=bU a Ω;have ab:=bU b Ω;simp only[vH]at dp;subst dp;refine bz eH mK nc fun aT=>?_;unfold ma;simp[b3.kind,b3.num,b3.name,b3.args];cases q:shp a with
   |true=>rw[q]at bk;(with_reducible repeat' first|refine aj ?_|refine aD bk ?_|refine aE bk ?_|refine aD ab ?_|refine aE ab ?_|simp[rE]);all_goals simp[bu,lZ,aW,aY,aV]
   |false=>rw[q]at bk;(with_reducible repeat' first|refine aj ?_|refine aD bk ?_|refine aE bk ?_|refine aD ab ?_|refine aE ab ?_|simp[rE]);all_goals simp[bu,lZ,aW,aY,aV]
  |[],dp=>simp only[vH]at dp;subst dp;refine bz eH mK nc fun aT=>?_;unfold ma;simp[b3.kind,b3.num,b3.name,b3.args];(with_reducible repeat' first|refine aj ?_|refine aD (dx _ _ _) ?_|refine aE (dx _ _ _) ?_|refine aD (hg _) ?_|refine aE (hg _) ?_|simp[rE]);all_goals simp[bu,lZ,aW,aY,aV]
  |[_],dp=>simp only[vH]at dp;subst dp;refine bz eH mK nc fun aT=>?_;unfold ma;simp[b3.kind,b3.num,b3.name,b3.args];(with_reducible repeat' first|refine aj ?_|refine aD (dx _ _ _) ?_|refine aE (dx _ _ _) ?_|refine aD (hg _) ?_|refine aE (hg _) ?_|simp[rE]);all_goals simp[bu,lZ,aW,aY,aV]
  |_::_::_::l,dp=>
   simp only[vH]at dp;have av:((l.length:Int)+1+1+1==2)=false:=by simp;omega
   subst dp;refine bz eH mK nc fun aT=>?_;unfold ma;simp[b3.kind,b3.num,b3.name,b3.args];(with_reducible repeat' first|refine aj ?_|refine aD (dx _ _ _) ?_|refine aE (dx _ _ _) ?_|refine aD (hg _) ?_|refine aE (hg _) ?_|simp[av]);all_goals simp[bu,lZ,aW,aY,aV]
 have n0:(n !=0)=false:=B7 (by simp[aU,b1]);have s0:s=[]:=Classical.byContradiction fun h=>ca ⟨bp,h⟩;subst s0;have Ue:(k==0)=false:=by simp[hb]
 have AJ:(k==1)=false:=by simp[aU]
 have GC:(k==2)=false:=by simp[bp]
 have AK:(k==3)=false:=by simp[b1]
 have Ui:(k==4)=false:=by simp[fT]
 have Uf:(k !=1)=true:=by simp[aU]
 have Ug:(k !=2)=true:=by simp[bp]
 have Uh:(k !=3)=true:=by simp[b1]
 have Uj:(k !=4)=true:=by simp[fT]
 by_cases a0:args=[]
 ·subst a0;simp[hb,aU,bp,b1,fT]at dp;subst dp;refine bz eH mK nc fun aT=>?_;unfold ma;simp[b3.kind,b3.num,b3.name,b3.args];(with_reducible repeat' first|refine aj ?_|refine aD (dx _ _ _) ?_|refine aE (dx _ _ _) ?_|refine aD (hg _) ?_|refine aE (hg _) ?_|simp[Ue,AJ,GC,AK,Ui,Uf,Ug,Uh,Uj,n0]);all_goals simp[bu,lZ,aW,aY,aV]
 ·rw[if_pos ⟨fT,a0⟩]at dp;have uA:(0:Int)<args.length:=by have:=List.length_pos_iff.2 a0;omega
  subst dp;refine bz eH mK nc fun aT=>?_;unfold ma;simp[b3.kind,b3.num,b3.name,b3.args];((with_reducible repeat' first|refine aj ?_|refine aD (dx _ _ _) ?_|refine aE (dx _ _ _) ?_|refine aD (hg _) ?_|refine aE (hg _) ?_|simp[uA,Ue,AJ,GC,AK,Ui,Uf,Ug,Uh,Uj,n0]|((first|apply bJ|apply bM|apply bL)<;>intro h<;>try simp at h))<;>(try exact cc));all_goals simp[bu,lZ,aW,aY,aV]
theorem EA(t:b3):bZ az 76 [enc t] (.bool t.fits):=by
 rw[ade];have aq:=Ye t 5000 Ω Ω;have ag:=amI t.sz t (eX _);refine bz eH acw aja fun aT=>?_;unfold QD;simp;by_cases q:lH t 5000<=5000
 ·exact cD
 ·exact cD
def Qz:C:=(aa [bq 2 false] (.seq (aa [I 5 0,cz 6 5,cd 7 0] (e5 8 7 6 (.seq (.block 1 (aa [I 9 7,cy 10 2 5 7,a7 11 2 10,cN (.alloc 4 none (.agg [.int .i64 0,.int .i64 0])),I 3 9,bN 2 4 11] (.seq (.drawn true 42 [I 12 3,aS 13 .gtr 12 0,I 14 13,bW 14 true 15 0,bW 14 true 16 3,au 14 true (aS 17 .sub 16 1),au 14 true (cy 18 2 15 17),au 14 true (aI 19 0 1 18),au 14 true (aw 20 1 19),au 14 true (aI 21 0 1 4),au 14 true (aw 22 1 21),au 14 true (br 23 .geq 20 22),dq 24 14 23,I 25 24,au 25 false (aI 26 0 1 4),au 25 false (aw 27 1 26),au 25 false (dj 28 67 [.t 27,(eF 0),(eF 100000)]),au 25 false (cJ 29 28),c6 30 25 29,I 31 30,au 31 false (aI 32 1 1 4),au 31 false (aw 33 1 32),au 31 false (aS 34 .neq 33 2),bW 31 false 35 34,au 35 true (aI 36 1 1 4),au 35 true (aw 37 1 36),au 35 true (aS 38 .neq 37 3),au 31 false (dq 39 35 38),c6 40 31 39]) (aZ 40 (aa [bq 2 false] .ret) .skip)))) (.region [aS 41 .add 7 1,I 7 41])))) (aa [bq 2 true] .ret)))
@[simp] def D3:List bX:=[.tmp 2]
def QB:C:=(aa [bq 2 false] (.seq (aa [I 5 0,cz 6 5,cd 7 0] (e5 8 7 6 (.seq (.block 1 (aa [I 9 7,cy 10 2 5 7,a7 11 2 10,cN (.alloc 4 none (.agg [.int .i64 0,.str []])),I 3 9,bN 2 4 11] (.seq (.drawn true 37 [I 12 3,aS 13 .gtr 12 0,I 14 13,bW 14 true 15 0,bW 14 true 16 3,au 14 true (aS 17 .sub 16 1),au 14 true (cy 18 2 15 17),au 14 true (a7 19 2 18),au 14 true (a7 20 2 4),au 14 true (ch 21 118 19 20),au 14 true (cJ 22 21),dq 23 14 22,I 24 23,au 24 false (aI 25 0 1 4),au 24 false (aw 26 1 25),au 24 false (dj 27 67 [.t 26,(eF 0),(eF 100000)]),au 24 false (cJ 28 27),c6 29 24 28,I 30 29,au 30 false (aI 31 1 1 4),au 30 false (aw 32 1 31),au 30 false (cR 33 119 32),au 30 false (cJ 34 33),c6 35 30 34]) (aZ 35 (aa [bq 2 false] .ret) .skip)))) (.region [aS 36 .add 7 1,I 7 36])))) (aa [bq 2 true] .ret)))
@[simp] def Bo:List bX:=[.tmp 2]
def zI:C:=(aa [c8 4 1,e4 6 2,bq 7 false] (.seq (aa [aI 10 0 1 4,aw 11 1 10,aS 12 .neq 11 1] (aZ 12 (.seq (.drawn true 73 [I 13 0,aI 14 0 1 4,aw 15 1 14,I 16 2,br 17 .eql 15 16,I 6 13,I 7 17]) .ret) .skip)) (aa [cd 8 0] (.seq (.block 0 (.loop (.seq (.seq (.drawn true 73 [I 18 8,I 19 0,cz 20 19,br 21 .lss 18 20,I 22 21,bW 22 true 23 0,bW 22 true 24 8,au 22 true (cy 25 2 23 24),au 22 true (aI 26 0 1 25),au 22 true (aw 27 1 26),au 22 true (aI 28 1 1 4),au 22 true (aw 29 1 28),au 22 true (br 30 .lss 27 29),dq 31 22 30]) (aZ 31 .skip (.exit 0))) (.block 1 (.region [I 32 8,aS 33 .add 32 1,I 8 33]))))) (.seq (.seq (.drawn true 73 [I 34 8,I 35 0,cz 36 35,br 37 .lss 34 36,I 38 37,bW 38 true 39 0,bW 38 true 40 8,au 38 true (cy 41 2 39 40),au 38 true (aI 42 0 1 41),au 38 true (aw 43 1 42),au 38 true (aI 44 1 1 4),au 38 true (aw 45 1 44),au 38 true (br 46 .eql 43 45),dq 47 38 46]) (aZ 47 (.seq (.drawn true 73 [I 48 0,I 49 0,I 50 8,cy 51 2 49 50,aI 52 1 1 51,aw 53 1 52,I 54 2,br 55 .eql 53 54,I 6 48,I 7 55]) .ret) .skip)) (aa [eE 56 2 59 [],I 57 0,I 58 8,bR 59 (.lsl 2 (.t 57) none (some (.t 58))),hj 60 2 59 56 59,I 9 60] (aa [I 61 9,aI 62 1 1 4,aw 63 1 62,I 64 2,bR 65 (.build [.int .i64 0,.int .i64 0] [(0,1,(.t 63)),(1,1,(.t 64))]),eE 66 2 59 [.t 65],hj 67 2 59 61 66,I 9 67] (aa [I 68 9,I 69 0,I 70 8,bR 71 (.lsl 2 (.t 69) (some (.t 70)) none),hj 72 2 59 68 71,I 6 72,bq 7 true] .ret))))))))
@[simp] def xa:List bX:=[.tmp 6,.tmp 7]
def Js:C:=(aa [c8 4 1,e4 6 2,bq 7 false] (.seq (aa [a7 13 4 4,I 14 2,ch 15 132 13 14] (aZ 15 (aa [e4 6 2,bq 7 false] .ret) .skip)) (.seq (aa [a7 16 4 4,dj 17 77 [.t 16,(.c (.slice 1 .nil []))],cz 18 17,cd 19 0] (e5 20 19 18 (.seq (.block 1 (aa [cy 21 1 17 19,aw 22 1 21,I 9 22] (aa [I 23 9,I 24 2,bR 25 (.build [.int .i64 0,.str []] [(0,1,(.t 23)),(1,1,(.t 24))]),cN (.alloc 10 none (.agg [.int .i64 0,.str []])),bN 2 10 25] (aa [cd 11 0] (.seq (.block 2 (.loop (.seq (.seq (.drawn true 68 [I 26 11,I 27 0,cz 28 27,br 29 .lss 26 28,I 30 29,bW 30 true 31 0,bW 30 true 32 11,au 30 true (cy 33 2 31 32),au 30 true (a7 34 2 33),au 30 true (a7 35 2 10),au 30 true (ch 36 118 34 35),dq 37 30 36]) (aZ 37 .skip (.exit 2))) (.block 3 (.region [I 38 11,aS 39 .add 38 1,I 11 39]))))) (.seq (.drawn true 68 [I 40 11,I 41 0,cz 42 41,br 43 .eql 40 42,I 44 43,au 44 false (a7 45 2 10),bW 44 false 46 0,bW 44 false 47 11,au 44 false (cy 48 2 46 47),au 44 false (a7 49 2 48),au 44 false (ch 50 118 45 49),c6 51 44 50]) (aZ 51 (aa [eE 52 2 56 [],I 53 0,I 54 11,bR 55 (.lsl 2 (.t 53) none (some (.t 54))),hj 56 2 56 52 55,I 12 56] (aa [I 57 12,a7 58 2 10,eE 59 2 56 [.t 58],hj 60 2 56 57 59,I 12 60] (.region [I 61 12,I 62 0,I 63 11,bR 64 (.lsl 2 (.t 62) (some (.t 63)) none),hj 65 2 56 61 64,I 0 65]))) .skip))))))) (.fg false 0 (.region [aS 66 .add 19 1,I 19 66]))))) (aa [I 67 0,I 6 67,bq 7 true] .ret))))
@[simp] def MZ:List bX:=[.tmp 6,.tmp 7]
def Fp:C:=(aa [c8 2 0,c8 3 1,bq 4 false] (aa [aI 5 0 1 2,aw 6 1 5,aI 7 0 1 3,aw 8 1 7,br 9 .lss 6 8,I 10 9,au 10 false (aI 11 0 1 2),au 10 false (aw 12 1 11),au 10 false (aI 13 0 1 3),au 10 false (aw 14 1 13),au 10 false (br 15 .eql 12 14),bW 10 false 16 15,au 16 true (aI 17 1 1 2),au 16 true (aw 18 1 17),au 16 true (aI 19 1 1 3),au 16 true (aw 20 1 19),au 16 true (br 21 .lss 18 20),au 10 false (dq 22 16 21),c6 23 10 22,I 4 23] .ret))
@[simp] def akQ:List bX:=[.tmp 4]
def Q6:C:=(aa [e4 4 2,bq 5 false] (aa [eE 10 2 59 [],I 6 10] (aa [bq 7 true] (.seq (.seq (.fg false 6 (.region [I 11 1,cz 12 11,cd 13 0])) (e5 14 13 12 (.seq (.block 1 (aa [cy 15 2 11 13,a7 16 2 15,cN (.alloc 9 none (.agg [.int .i64 0,.int .i64 0])),bN 2 9 16] (.seq (.drawn true 33 [I 18 6,I 19 0,aI 20 0 1 9,aw 21 1 20,cR 22 84 21,ch 23 151 19 22,aI 24 1 1 9,aw 25 1 24,dj 26 103 [.t 18,.t 23,.t 25],I 17 26,cC 27 0 17,cC 28 1 17,I 6 27,I 7 28]) (aa [I 29 7,cJ 30 29] (aZ 30 (aa [e4 4 2,bq 5 false] .ret) .skip))))) (.region [aS 31 .add 13 1,I 13 31])))) (aa [I 32 6,I 4 32,bq 5 true] .ret)))))
@[simp] def MY:List bX:=[.tmp 4,.tmp 5]
def Q7:C:=(aa [e4 4 2,bq 5 false] (aa [eE 10 2 56 [],I 6 10] (aa [bq 7 true] (.seq (.seq (.fg false 6 (.region [I 11 1,cz 12 11,cd 13 0])) (e5 14 13 12 (.seq (.block 1 (aa [cy 15 2 11 13,a7 16 2 15,cN (.alloc 9 none (.agg [.int .i64 0,.str []])),bN 2 9 16] (.seq (.drawn true 33 [I 18 6,I 19 0,aI 20 0 1 9,aw 21 1 20,cR 22 84 21,ch 23 151 19 22,aI 24 1 1 9,aw 25 1 24,dj 26 104 [.t 18,.t 23,.t 25],I 17 26,cC 27 0 17,cC 28 1 17,I 6 27,I 7 28]) (aa [I 29 7,cJ 30 29] (aZ 30 (aa [e4 4 2,bq 5 false] .ret) .skip))))) (.region [aS 31 .add 13 1,I 13 31])))) (aa [I 32 6,I 4 32,bq 5 true] .ret)))))
@[simp] def M0:List bX:=[.tmp 4,.tmp 5]
def zH:C:=(aa [c8 2 0,bq 4 false] (.seq (aa [aI 7 3 1 2,aw 8 1 7,cz 9 8,cd 10 0] (e5 11 10 9 (.seq (.block 1 (aa [cy 12 4 8 10,a7 13 4 12,c1 6 dd,bN 4 6 13] (aa [a7 14 4 6,I 15 1,ch 16 132 14 15] (aZ 16 (aa [bq 4 true] .ret) .skip)))) (.region [aS 17 .add 10 1,I 10 17])))) (aa [aI 18 0 1 2,aw 19 1 18,aS 20 .eql 19 2,I 21 20,au 21 true (aI 22 2 1 2),au 21 true (aw 23 1 22),bW 21 true 24 1,au 21 true (br 25 .eql 23 24),dq 26 21 25,I 4 26] .ret)))
@[simp] def w9:List bX:=[.tmp 4]
def vM:List (Nat×dz):=[
 (3,⟨1,8,.int .i64,.int .i64 0⟩),
 (9,⟨1,16,.str,.str []⟩),
 (25,⟨1,24,.slice 59,.slice 2 .nil []⟩),
 (26,⟨1,24,.slice 56,.slice 2 .nil []⟩),
 (34,⟨1,24,.slice 36,.slice 4 .nil []⟩),
 (36,⟨4,56,.struct [(0,3),(1,3),(2,9),(3,34)],.agg [.int .i64 0,.int .i64 0,.str [],.slice 4 .nil []]⟩),
 (56,⟨2,24,.struct [(0,3),(1,9)],.agg [.int .i64 0,.str []]⟩),
 (59,⟨2,16,.struct [(0,3),(1,3)],.agg [.int .i64 0,.int .i64 0]⟩),
 (97,⟨1,24,.slice 3,.slice 1 .nil []⟩)]
theorem my:fI az vM=true:=by kernel_rfl
theorem ai6:b7 vM Qz D3 1 Tryz.f70=true:=by kernel_rfl
theorem acr:az.funcs[(70:Nat)]? =some Tryz.f70:=Tryz.func70
theorem ai8:b7 vM QB Bo 1 Tryz.f71=true:=by kernel_rfl
theorem acu:az.funcs[(71:Nat)]? =some Tryz.f71:=Tryz.func71
theorem DP:b7 vM zI xa 3 Tryz.f103=true:=by kernel_rfl
theorem Cr:az.funcs[(103:Nat)]? =some Tryz.f103:=Tryz.func103
theorem VQ:b7 vM Js MZ 3 Tryz.f104=true:=by kernel_rfl
theorem R6:az.funcs[(104:Nat)]? =some Tryz.f104:=Tryz.func104
theorem Mr:b7 vM Fp akQ 2 Tryz.f118=true:=by kernel_rfl
theorem J1:az.funcs[(118:Nat)]? =some Tryz.f118:=Tryz.func118
theorem ajD:b7 vM Q6 MY 2 Tryz.f121=true:=by kernel_rfl
theorem acZ:az.funcs[(121:Nat)]? =some Tryz.f121:=Tryz.func121
theorem ajE:b7 vM Q7 M0 2 Tryz.f122=true:=by kernel_rfl
theorem ac0:az.funcs[(122:Nat)]? =some Tryz.f122:=Tryz.func122
theorem DO:b7 vM zH w9 2 Tryz.f132=true:=by kernel_rfl
theorem Cq:az.funcs[(132:Nat)]? =some Tryz.f132:=Tryz.func132
open Classical in
theorem ane(l:List b6):bZ az 70 [.slice 2 .no (l.map b6.e)] (.bool (decide (gT l))):=by
 generalize bG:decide (gT l)=R;refine bz my acr ai6 fun aT=>?_;unfold Qz;have ir:l.length<=68719476736:=by simp[gS,gg,gE,lim]at aT;omega
 simp;refine dW [0,5,6] (fun i (_:Unit)=>[(7,.int .i64 i)]) l.length (fun i _=> ∀j,j<i->im mo nI l j) () bV (fun k ad=>Ω) (fun _ af _=>?_) (fun i _ hi af _=>?_)
 ·have:R=true:=by rw[<-bG,e6,GH];exact af
  rw[this];exact cD
 ·obtain⟨b,ab⟩:∃b,l[i]? =some b:=⟨_,cf hi⟩;obtain⟨c,aq⟩:∃c,l[i-1]? =some c:=⟨_,cf Ω⟩;have cw:∀h,(l[i]'h)=b:=fun h=>by rw[cf hi]at ab;exact eJ ab
  have cF:¬im mo nI l i->R=false:=fun h=>by rw[<-bG,gC];exact fun b4=>h (GH.1 b4 i hi)
  have da:im mo nI l i->∀j,j<i+1->im mo nI l j:=fun h j jB=>by
   by_cases e:j=i
   ·rw[e];exact h
   ·exact af j Ω
  have pJ:im mo nI l i->mo b:=fun h=>(h b ab).1;have bs:im mo nI l i->0<i->c.v<b.v:=fun h bE=>(h b ab).2 c bE aq;have eA:mo b->(0<i->c.v<b.v)->im mo nI l i:=fun J U b0 fZ=>by rw[ab]at fZ;cases fZ;exact⟨J,fun cp bE hH=>by rw[aq]at hH;cases hH;exact U bE⟩
  unfold mo at pJ eA;by_cases g0:0<i/\¬c.v<b.v
  ·rw[cF (fun h=>g0.2 (bs h g0.1))];have ao4:=g0.1;have wc:b.v<=c.v:=Ω
   exact cD
  have aN:(decide (0<i)&&decide (b.v<=c.v))=false:=by simp;intro h;by_cases cu:c.v<b.v;exact cu;exact absurd ⟨h,cu⟩ g0
  by_cases g1:0<=b.v/\b.v<=100000;rotate_left
  ·rw[cF (fun h=>g1 (pJ h).1)];have lj:decide (0<=b.v/\b.v<=100000)=false:=by simp only[gC];exact g1
   by_cases bE:0<i
   ·have wc:¬b.v<=c.v:=by simp[bE]at aN;omega
    simp[hi,cw,aq];(with_reducible repeat' first|refine aj ?_|refine aD (dx _ _ _) ?_|refine aE (dx _ _ _) ?_|simp[cw,aq,hi,bE,wc,lj,g1]);all_goals simp[bu,D3,aW,aY,aV]
   ·obtain rfl:i=0:=Ω
    simp[hi,cw,aq];(with_reducible repeat' first|refine aj ?_|refine aD (dx _ _ _) ?_|refine aE (dx _ _ _) ?_|simp[cw,aq,hi,lj,g1]);all_goals simp[bu,D3,aW,aY,aV]
  have lj:decide (0<=b.v/\b.v<=100000)=true:=by simp only[e6];exact g1
  by_cases g2:b.k=2\/b.k=3;rotate_left
  ·rw[cF (fun h=>g2 (pJ h).2)];have g21:(b.k !=2)=true:=by simp;omega
   have g22:(b.k !=3)=true:=by simp;omega
   by_cases bE:0<i
   ·have wc:¬b.v<=c.v:=by simp[bE]at aN;omega
    simp[hi,cw,aq];(with_reducible repeat' first|refine aj ?_|refine aD (dx _ _ _) ?_|refine aE (dx _ _ _) ?_|simp[cw,aq,hi,bE,wc,lj,g1,g21,g22]);all_goals simp[bu,D3,aW,aY,aV]
   ·obtain rfl:i=0:=Ω
    simp[hi,cw,aq];(with_reducible repeat' first|refine aj ?_|refine aD (dx _ _ _) ?_|refine aE (dx _ _ _) ?_|simp[cw,aq,hi,lj,g1,g21,g22]);all_goals simp[bu,D3,aW,aY,aV]
  have dG:=da (eA ⟨g1,g2⟩ fun bE=>by simp[bE]at aN;omega);have x2:((b.k !=2)=false)\/((b.k !=2)=true/\(b.k !=3)=false):=by
   rcases g2 with h|h
   ·left;simp[h]
   ·right;simp[h]
  rcases x2 with g21|⟨g21,g22⟩
  ·by_cases bE:0<i
   ·have wc:¬b.v<=c.v:=by simp[bE]at aN;omega
    simp[hi,cw,aq];(with_reducible repeat' first|refine aj ?_|refine aD (dx _ _ _) ?_|refine aE (dx _ _ _) ?_|simp[cw,aq,hi,bE,wc,lj,g1,g21]);all_goals exact bQ.rng () hi dG bV
   ·obtain rfl:i=0:=Ω
    simp[hi,cw,aq];(with_reducible repeat' first|refine aj ?_|refine aD (dx _ _ _) ?_|refine aE (dx _ _ _) ?_|simp[cw,aq,hi,lj,g1,g21]);all_goals exact bQ.rng () hi dG bV
  ·by_cases bE:0<i
   ·have wc:¬b.v<=c.v:=by simp[bE]at aN;omega
    simp[hi,cw,aq];(with_reducible repeat' first|refine aj ?_|refine aD (dx _ _ _) ?_|refine aE (dx _ _ _) ?_|simp[cw,aq,hi,bE,wc,lj,g1,g21,g22]);all_goals exact bQ.rng () hi dG bV
   ·obtain rfl:i=0:=Ω
    simp[hi,cw,aq];(with_reducible repeat' first|refine aj ?_|refine aD (dx _ _ _) ?_|refine aE (dx _ _ _) ?_|simp[cw,aq,hi,lj,g1,g21,g22]);all_goals exact bQ.rng () hi dG bV
theorem l2(a b:bo):bZ az 118 [a.e,b.e] (.bool (hU fi a b)):=by
 rw[<-Vn];have bG:tV a b=(decide (a.v<b.v)||(a.v==b.v&&hE a.s b.s)):=rfl;rcases Int.lt_trichotomy a.v b.v with h|h|h
 ·have:tV a b=true:=by rw[bG];simp[h]
  rw[this];refine bz my J1 Mr fun aT=>?_;unfold Fp;exact cD
 ·have J:¬a.v<b.v:=Ω
  have U:(a.v==b.v)=true:=by simp[h]
  have:tV a b=hE a.s b.s:=by rw[bG];simp[h]
  rw[this];refine bz my J1 Mr fun aT=>?_;unfold Fp;exact cD
 ·have J:¬a.v<b.v:=Ω
  have U:¬a.v=b.v:=Ω
  have ar:(a.v==b.v)=false:=by simp[U]
  have:tV a b=false:=by rw[bG];simp[J,U]
  rw[this];refine bz my J1 Mr fun aT=>?_;unfold Fp;exact cD
def Ub(l:List dF)(i:Nat)(_:Unit):Prop:= ∀j,j<i->A7 l j
open Classical in
theorem Yk(l:List dF):bZ az 75 [.slice 5 .no (l.map dF.e)] (.bool (decide (uz l))):=by
 generalize bG:decide (uz l)=R;refine bz eH acR ajv fun aT=>?_;unfold QY;have ir:l.length<=68719476736:=by simp[gS,gg,gE,lim]at aT;omega
 simp;refine dW [0,5,6] (fun i (_:Unit)=>[(7,.int .i64 i)]) l.length (Ub l) () bV (fun k ad=>Ω) (fun _ af _=>?_) (fun i _ hi af _=>?_)
 ·have:R=decide (l.length<=400):=by rw[<-bG,decide_eq_decide];exact⟨fun h=>h.1,fun h=>⟨h,fun j jB=>af j jB⟩⟩
  rw[this];simp;(with_reducible repeat' first|refine aj ?_|simp);simp[bu,MW,aW,aY,aV];all_goals(first|done|omega|(simp;done)|(simp;omega))
 ·obtain⟨b,ab⟩:∃b,l[i]? =some b:=⟨_,cf hi⟩;obtain⟨c,aq⟩:∃c,l[i-1]? =some c:=⟨_,cf Ω⟩;have cw:∀h,(l[i]'h)=b:=fun h=>by rw[cf hi]at ab;exact eJ ab
  have cF:¬A7 l i->R=false:=fun h=>by rw[<-bG,gC];exact fun b4=>h (b4.2 i hi)
  have da:A7 l i->Ub l (i+1) ():=fun h j jB=>by
   by_cases e:j=i
   ·rw[e];exact h
   ·exact af j Ω
  simp[hi,cw,aq];((with_reducible repeat' first|refine aj ?_|refine aD (dx _ _ _) ?_|refine aE (dx _ _ _) ?_|refine aD (EA _) ?_|refine aE (EA _) ?_|simp[cw,aq,hi]|((first|apply bJ|apply bM|apply bL)<;>intro h<;>try simp at h))<;>(try exact cc));all_goals first
   |(have ay:¬A7 l i:=by(intro b4;have J:=b4 b ab;have U:=J.2.1 c;have ar:=J.2.2;first|omega|(have a8:=U Ω aq;omega)|(rw[ar]at h;cases h)|(simp_all;done)|(simp_all;omega))
     rw[cF ay]
     simp[bu,MW,aW,aY,aV]
     done)
   |(refine bQ.rng () hi (da fun b0 fZ=>?_) ?_
     ·rw[ab]at fZ;cases fZ
      refine⟨?_,fun cp bE hH=>?_,?_⟩
      ·omega
      ·rw[aq]at hH;cases hH;omega
      ·first|assumption|simp_all
     ·exact bV)
def mV(n:Int):List Int->List Int
 |[]=>[n]
 |c::l=>if c<n then c::mV n l else if c=n then c::l else n::c::l
def s6(l:List Int):Prop:=l.Pairwise (· < ·)
theorem T3(n:Int):∀(l:List Int) (k:Nat),(∀i c,i<k->l[i]? =some c->c<n)->(∀c,l[k]? =some c->n<=c)->k<=l.length->mV n l=if l[k]? =some n then l else l.take k++n::l.drop k
 |[],k,_,_,ad=>by simp at ad;subst ad;rfl
 |c::l,0,_,U,_=>by
  have:=U c rfl;by_cases e:c=n
  ·simp[mV,e]
  ·have ar:¬c<n:=Ω
   simp[mV,ar,e]
 |c::l,k+1,J,U,ad=>by have bE:=J 0 c Ω rfl;simp only[mV,if_pos bE,List.take_succ_cons,List.drop_succ_cons,bO,List.getElem?_cons_succ];rw[T3 n l k (fun i d hi aN=>J (i+1) d Ω (by simpa using aN)) (fun d aN=>U d (by simpa using aN)) (by simpa using ad)];split<;>rfl
theorem L2{n m:Int}:∀{l:List Int},m∈mV n l↔m=n\/m∈l
 |[]=>by simp[mV]
 |c::l=>by
  simp only[mV];split
  ·simp only[fD,L2 (l:=l)];constructor
   ·rintro(h|h|h)
    ·exact .inr (.inl h)
    ·exact .inl h
    ·exact .inr (.inr h)
   ·rintro(h|h|h)
    ·exact .inr (.inl h)
    ·exact .inl h
    ·exact .inr (.inr h)
  ·split
   ·rename_i h;subst h;simp
   ·simp
theorem T2{n:Int}:∀{l:List Int},s6 l->s6 (mV n l)
 |[],_=>by simp[mV,s6]
 |c::l,h=>by
  obtain⟨J,U⟩:=mC.1 h;simp only[mV];split
  ·rename_i ar;refine mC.2 ⟨fun m hm=>?_,T2 U⟩;rcases L2.1 hm with rfl|hm
   ·exact ar
   ·exact J m hm
  ·split
   ·exact h
   ·refine mC.2 ⟨fun m hm=>?_,h⟩;rcases fD.1 hm with rfl|hm
    ·omega
    ·have:=J m hm;omega
theorem T4(n:Int):∀l:List Int,(mV n l).length<=l.length+1
 |[]=>by simp[mV]
 |c::l=>by
  have:=T4 n l;simp only[mV];split
  ·simp;omega
  ·split<;>simp
theorem Dh(l:List Int)(i:Nat):(ek l)[i]? =(l[i]?).map (ai.int .i64):=by simp[ek]
theorem e0(l:List Int):(ek l).length=l.length:=by simp[ek]
theorem zg:∀l:List Int,dv (ek l)=ek l
 |[]=>by simp[ek,dv]
 |a::l=>by have:=zg l;simp only[ek,hk,dv,ey]at this⊢;rw[this]
theorem Gx(l:List Int)(n:Int)(k:Nat):dv (pj k (ek l)++ai.int .i64 n::List.drop k (pj l.length (ek l)))=ek (pj k l++n::List.drop k l):=by
 have e:pj l.length (ek l)=ek l:=hx (by simp[ek]);have aF:pj k (ek l)++ai.int .i64 n::List.drop k (ek l)=ek (pj k l++n::List.drop k l):=by simp only[ek,List.map_append,hk,List.map_take,List.map_drop]
 rw[e,aF];exact zg _
theorem amH(l:List Int)(n:Int)(av:l.length<=1000000)(bk:s6 l):bZ az 128 [.slice 1 .no (ek l),.int .i64 n] (.slice 1 .no (ek (mV n l))):=by
 refine bz eH acG ajk fun aT=>?_;unfold QN;simp;refine v7 [0,1] (fun(k:Nat)=>[(5,.int .i64 k)]) (fun k=>k) (fun k=>k<=l.length/\∀c,l[k]? =some c->n<=c) l.length bV ⟨Ω,fun c h=>by simp at h⟩ (fun k af _=>?_);obtain⟨ad,af⟩:=af;have tx:(∀c,0<k->l[k-1]? =some c->c<n)->mV n l=if l[k]? =some n then l else l.take k++n::l.drop k:=fun h=>T3 n l k (fun i c hi aq=>by
  obtain⟨d,aN⟩:∃d,l[k-1]? =some d:=⟨_,cf Ω⟩;have J:=h d Ω aN;rcases Nat.lt_or_ge i (k-1)with U|U
  ·have tz:=(fb.1 aq);have lp:=(fb.1 aN);have:=pg.1 bk i (k-1) tz.1 lp.1 U;rw[tz.2,lp.2]at this;omega
  ·have:i=k-1:=Ω
   subst this;rw[aN]at aq;cases aq;exact J) af ad
 have kI:∀c,l[k]? =some c->∀h,((ek l)[k]'h)= .int .i64 c:=fun c h b4=>by have:=Dh l k;rw[h,cf b4]at this;exact eJ this
 have dG:(0<k->∃d,l[k-1]? =some d/\d<n)->∀P:Prop,(mV n l=(if l[k]? =some n then l else l.take k++n::l.drop k)->P)->P:=fun h P kG=>kG (tx fun c bE aq=>by obtain⟨d,aN,J⟩:=h bE;rw[aN]at aq;cases aq;exact J)
 rcases Nat.eq_zero_or_pos k with bE|fA
 ·have bf:decide ((0:Int)<k)=false:=by simp;omega
  refine dG (fun h=>Ω) _ fun e=>?_;by_cases hM:k<l.length
  ·obtain⟨c,aq⟩:∃c,l[k]? =some c:=⟨_,cf hM⟩;have hH:=kI c aq;rw[aq]at e;by_cases q:c=n
   ·have ga:(c==n)=true:=by simp[q]
    rw[if_pos (by rw[q])]at e;rw[e];simp[bf,hM];((with_reducible repeat' first|refine aj ?_|simp[bf,hM,hH,ga]|((first|apply bJ|apply bM|apply bL)<;>intro h<;>try simp at h))<;>(try exact cc));all_goals simp[bu,y1,aW,aY,aV]
   ·have ga:(c==n)=false:=by simp[q]
    rw[if_neg (by simp[q])]at e;rw[e];simp[bf,hM];((with_reducible repeat' first|refine aj ?_|simp[bf,hM,hH,ga]|((first|apply bJ|apply bM|apply bL)<;>intro h<;>try simp at h))<;>(try exact cc));all_goals simp[bu,y1,aW,aY,aV]
    all_goals exact Gx l n k
  ·rw[qF Ω]at e;simp only[reduceCtorEq,if_false]at e;rw[e];simp[bf,hM];((with_reducible repeat' first|refine aj ?_|simp[bf,hM]|((first|apply bJ|apply bM|apply bL)<;>intro h<;>try simp at h))<;>(try exact cc));all_goals simp[bu,y1,aW,aY,aV]
   all_goals exact Gx l n k
 ·obtain⟨d,aN⟩:∃d,l[k-1]? =some d:=⟨_,cf Ω⟩;have ao:((k:Int)-1).toNat=k-1:=Ω
  have aF:∀h,((ek l)[k-1]'h)= .int .i64 d:=fun b4=>by have:=Dh l (k-1);rw[aN,cf b4]at this;exact eJ this
  have iV:(0:Int)<k:=Ω
  have mj:k-1<l.length:=Ω
  by_cases ab:n<=d
  ·simp[fA,iV,ao,aF,ab,mj];(with_reducible repeat' first|refine aj ?_|simp[fA,iV,ao,aF,ab,mj]);refine bQ.whl (k-1) Ω ⟨Ω,fun c aq=>by rw[aN]at aq;cases aq;exact ab⟩ ?_;have bA:((k-1:Nat):Int)=(k:Int)-1:=Ω
   simp[bA];exact bV
  ·refine dG (fun _=>⟨d,aN,Ω⟩) _ fun e=>?_;by_cases hM:k<l.length
   ·obtain⟨c,aq⟩:∃c,l[k]? =some c:=⟨_,cf hM⟩;have hH:=kI c aq;rw[aq]at e;by_cases q:c=n
    ·have ga:(c==n)=true:=by simp[q]
     rw[if_pos (by rw[q])]at e;rw[e];simp[fA,iV,ao,aF,ab,mj,hM];((with_reducible repeat' first|refine aj ?_|simp[fA,iV,ao,aF,ab,mj,hM,hH,ga]|((first|apply bJ|apply bM|apply bL)<;>intro h<;>try simp at h))<;>(try exact cc));all_goals simp[bu,y1,aW,aY,aV]
    ·have ga:(c==n)=false:=by simp[q]
     rw[if_neg (by simp[q])]at e;rw[e];simp[fA,iV,ao,aF,ab,mj,hM];(with_reducible repeat' first|refine aj ?_|simp[fA,iV,ao,aF,ab,mj,hM,hH,ga]);all_goals simp[bu,y1,aW,aY,aV]
     all_goals exact Gx l n k
   ·rw[qF Ω]at e;simp only[reduceCtorEq,if_false]at e;rw[e];simp[fA,iV,ao,aF,ab,mj,hM];(with_reducible repeat' first|refine aj ?_|simp[fA,iV,ao,aF,ab,mj,hM]);all_goals simp[bu,y1,aW,aY,aV]
    all_goals exact Gx l n k
def ig:T->List Int->List Int
 | .var n,l=>mV n l
 | .pair a b,l=>ig b (ig a l)
 |_,l=>l
theorem Oc:∀(t:T) {l:List Int},s6 l->s6 (ig t l)
 | .var _,_,h=>T2 h
 | .pair a b,_,h=>Oc b (Oc a h)
 | .nil,_,h=>h
 | .sym _,_,h=>h
 | .num _,_,h=>h
theorem DE{m:Int}:∀(t:T) {l:List Int},m∈ig t l↔t.occ m=true\/m∈l
 | .var n,l=>by simp only[ig,L2,T.occ,dL];constructor<;>rintro(h|h)<;>first|exact .inr h|exact .inl h.symm
 | .pair a b,l=>by
  simp only[ig,DE b,DE a,T.occ,l4];constructor
  ·rintro(h|h|h)
   ·exact .inl (.inr h)
   ·exact .inl (.inl h)
   ·exact .inr h
  ·rintro((h|h)|h)
   ·exact .inr (.inl h)
   ·exact .inl h
   ·exact .inr (.inr h)
 | .nil,l=>by simp[ig,T.occ]
 | .sym _,l=>by simp[ig,T.occ]
 | .num _,l=>by simp[ig,T.occ]
theorem BQ:∀(t:T) (l:List Int),(ig t l).length<=l.length+t.size
 | .var n,l=>by have:=T4 n l;simp only[ig,T.size];omega
 | .pair a b,l=>by have J:=BQ a l;have U:=BQ b (ig a l);simp only[ig,T.size];omega
 | .nil,l=>by simp[ig]
 | .sym _,l=>by simp[ig]
 | .num _,l=>by simp[ig]
theorem Ez:∀(t:T) (l:List Int),l.length+t.size<=1000000->s6 l->bZ az 77 [t.e,.slice 1 .no (ek l)] (.slice 1 .no (ek (ig t l)))
 | .var n,l,av,bk=>by
  simp only[T.size]at av;have key:=amH l n Ω bk;refine bz eH Cp DN fun aT=>?_;unfold zG;simp;(with_reducible repeat' first|refine aj ?_|refine aD key ?_|refine aE key ?_|simp);all_goals simp[bu,Bq,aW,aY,aV]
  all_goals simp[ig,zg]
 | .pair a b,l,av,bk=>by
  simp only[T.size]at av;have LG:=BQ a l;have aU:=Ez a l Ω bk;have bp:=Ez b (ig a l) Ω (Oc a bk);refine bz eH Cp DN fun aT=>?_;unfold zG;simp;refine dW [15,16] (fun i (_:Unit)=>[(1,.slice 1 .no (ek (if i=0 then l else if i=1 then ig a l else ig b (ig a l)))),(17,.int .i64 i)]) 2 (fun _ _=>True) () bV trivial (fun _ _ _=>?_) (fun i _ hi _ _=>?_)
  ·simp;(with_reducible repeat' first|refine aj ?_|simp);simp[bu,Bq,aW,aY,aV];simp[ig,zg]
  ·rcases(by omega:i=0\/i=1)with rfl|rfl
   ·simp;((with_reducible repeat' first|refine aj ?_|refine aD aU ?_|refine aE aU ?_|simp|((first|apply bJ|apply bM|apply bL)<;>intro h<;>try simp at h))<;>(try exact cc));exact bQ.rng () hi trivial bV
   ·simp;((with_reducible repeat' first|refine aj ?_|refine aD bp ?_|refine aE bp ?_|simp|((first|apply bJ|apply bM|apply bL)<;>intro h<;>try simp at h))<;>(try exact cc));exact bQ.rng () hi trivial bV
 | .nil,l,av,bk=>by refine bz eH Cp DN fun aT=>?_;unfold zG;simp;refine dW [15,16] (fun i (_:Unit)=>[(1,.slice 1 .no (ek l)),(17,.int .i64 i)]) 0 (fun _ _=>True) () bV trivial (fun _ _ _=>?_) (fun i _ hi _ _=>Ω);simp;((with_reducible repeat' first|refine aj ?_|simp|((first|apply bJ|apply bM|apply bL)<;>intro h<;>try simp at h))<;>(try exact cc));simp[bu,Bq,aW,aY,aV];simp[ig,zg]
 | .sym _,l,av,bk=>by refine bz eH Cp DN fun aT=>?_;unfold zG;simp;refine dW [15,16] (fun i (_:Unit)=>[(1,.slice 1 .no (ek l)),(17,.int .i64 i)]) 0 (fun _ _=>True) () bV trivial (fun _ _ _=>?_) (fun i _ hi _ _=>Ω);simp;(with_reducible repeat' first|refine aj ?_|simp);simp[bu,Bq,aW,aY,aV];simp[ig,zg]
 | .num _,l,av,bk=>by refine bz eH Cp DN fun aT=>?_;unfold zG;simp;refine dW [15,16] (fun i (_:Unit)=>[(1,.slice 1 .no (ek l)),(17,.int .i64 i)]) 0 (fun _ _=>True) () bV trivial (fun _ _ _=>?_) (fun i _ hi _ _=>Ω);simp;(with_reducible repeat' first|refine aj ?_|simp);simp[bu,Bq,aW,aY,aV];simp[ig,zg]
def agF(s:List UInt8)(a b:T)(i:Nat)(_:Unit):Prop:=(1<=i->a.has s=false)/\(2<=i->b.has s=false)
theorem Ip(s:List UInt8):∀t:T,bZ az 132 [t.e,.str s] (.bool (t.has s))
 | .pair a b=>by
  have dM:=Ip s a;have dN:=Ip s b;refine bz my Cq DO fun aT=>?_;unfold zH;simp;refine dW [1,2,8,9] (fun i (_:Unit)=>[(10,.int .i64 i)]) 2 (agF s a b) () bV ⟨fun h=>Ω,fun h=>Ω⟩ (fun _ af _=>?_) (fun i _ hi af _=>?_)
  ·simp;(with_reducible repeat' first|refine aj ?_|simp);simp[bu,w9,aW,aY,aV];simp[T.has,af.1,af.2]
  ·rcases(by omega:i=0\/i=1)with rfl|rfl
   ·cases bk:a.has s
    ·rw[bk]at dM;simp;((with_reducible repeat' first|refine aj ?_|refine aD dM ?_|refine aE dM ?_|simp|((first|apply bJ|apply bM|apply bL)<;>intro h<;>try simp at h))<;>(try exact cc));exact bQ.rng () hi ⟨fun _=>bk,fun h=>Ω⟩ bV
    ·rw[bk]at dM;simp;((with_reducible repeat' first|refine aj ?_|refine aD dM ?_|refine aE dM ?_|simp|((first|apply bJ|apply bM|apply bL)<;>intro h<;>try simp at h))<;>(try exact cc));simp[bu,w9,aW,aY,aV];simp[T.has,bk]
   ·cases ab:b.has s
    ·rw[ab]at dN;simp;((with_reducible repeat' first|refine aj ?_|refine aD dN ?_|refine aE dN ?_|simp|((first|apply bJ|apply bM|apply bL)<;>intro h<;>try simp at h))<;>(try exact cc));exact bQ.rng () hi ⟨fun _=>af.1 Ω,fun _=>ab⟩ bV
    ·rw[ab]at dN;simp;((with_reducible repeat' first|refine aj ?_|refine aD dN ?_|refine aE dN ?_|simp|((first|apply bJ|apply bM|apply bL)<;>intro h<;>try simp at h))<;>(try exact cc));simp[bu,w9,aW,aY,aV];simp[T.has,ab]
 | .sym n=>by
  refine bz my Cq DO fun aT=>?_;unfold zH;simp;refine dW [1,2,8,9] (fun i (_:Unit)=>[(10,.int .i64 i)]) 0 (fun i _=>True) () bV trivial (fun _ af _=>?_) (fun i _ hi af _=>Ω);simp;(with_reducible repeat' first|refine aj ?_|simp);all_goals simp[bu,w9,aW,aY,aV]
  all_goals simp[T.has]
 | .num n=>by
  refine bz my Cq DO fun aT=>?_;unfold zH;simp;refine dW [1,2,8,9] (fun i (_:Unit)=>[(10,.int .i64 i)]) 0 (fun i _=>True) () bV trivial (fun _ af _=>?_) (fun i _ hi af _=>Ω);simp;(with_reducible repeat' first|refine aj ?_|simp);all_goals simp[bu,w9,aW,aY,aV]
  all_goals simp[T.has]
 | .var n=>by
  refine bz my Cq DO fun aT=>?_;unfold zH;simp;refine dW [1,2,8,9] (fun i (_:Unit)=>[(10,.int .i64 i)]) 0 (fun i _=>True) () bV trivial (fun _ af _=>?_) (fun i _ hi af _=>Ω);simp;(with_reducible repeat' first|refine aj ?_|simp);all_goals simp[bu,w9,aW,aY,aV]
  all_goals simp[T.has]
 | .nil=>by
  refine bz my Cq DO fun aT=>?_;unfold zH;simp;refine dW [1,2,8,9] (fun i (_:Unit)=>[(10,.int .i64 i)]) 0 (fun i _=>True) () bV trivial (fun _ af _=>?_) (fun i _ hi af _=>Ω);simp;(with_reducible repeat' first|refine aj ?_|simp);all_goals simp[bu,w9,aW,aY,aV]
  all_goals simp[T.has]
def nQ(l:List b6)(o:Option (List b6)):ai:= .tuple [.slice 2 .no ((o.getD l).map b6.e),.bool o.isSome]
@[simp]theorem aqf(S:aL->Prop)(l:List b6)(o:Option (List b6)):aG S (nQ l o)=True:=by simp[nQ]
def wO(l:List b6)(n:Int)(i:Nat):Prop:=i<=l.length/\∀j y,j<i->l[j]? =some y->y.v<n
theorem wO.none{l:List b6}{n:Int}{i:Nat}(h:wO l n i)(bk:l.Pairwise fun x y=>x.v<y.v)(aq:∀c,l[i]? =some c->n<c.v):iZ l n=none:=yD.2 fun x ae=>by
 obtain⟨j,dZ,rfl⟩:=nX ae;have e:=cf dZ;rcases Nat.lt_or_ge j i with J|J
 ·have:=h.2 j _ J e;omega
 ·have F6:i<l.length:=Ω
  have aF:=cf F6;have ar:=aq _ aF;rcases Nat.lt_or_ge i j with U|U
  ·have:=pg.1 bk i j F6 dZ U;omega
  ·obtain rfl:i=j:=Ω
   omega
theorem wO.ins{l:List b6}{n k:Int}{i:Nat}(h:wO l n i)(aq:∀c,l[i]? =some c->n<c.v):lT ⟨n,k⟩ l=l.take i++⟨n,k⟩::l.drop i:=T5 ⟨n,k⟩ l i (fun j y J U=>h.2 j y J U) (fun y aH=>by have:=aq y aH;simp;omega) h.1
theorem wO.step{l:List b6}{n:Int}{i:Nat}{b:b6}(h:wO l n i)(ab:l[i]? =some b)(ay:b.v<n):wO l n (i+1):=⟨(fb.1 ab).1,fun j y J U=>by
 rcases(by omega:j<i\/j=i)with ar|rfl
 ·exact h.2 j y ar U
 ·rw[ab]at U;cases U;exact ay⟩
theorem amV(l:List b6)(av:l.length<=1000000)(bk:l.Pairwise fun x y=>x.v<y.v)(n k:Int):bZ az 103 [.slice 2 .no (l.map b6.e),(T.var n).e,.int .i64 k] (nQ l (jk l (.var n) k)):=by
 generalize dk:jk l (.var n) k=O;have dU:(match iZ l n with|some bI=>if bI=k then some l else none|none=>some (lT ⟨n,k⟩ l))=O:=by rw[<-dk];rfl
 clear dk;refine bz my Cr DP fun aT=>?_;unfold zI;simp;refine v7 [0,2,4] (fun(i:Nat)=>[(8,.int .i64 i)]) (fun i=>l.length-i) (wO l n) 0 bV ⟨Ω,fun j y h=>Ω⟩ (fun i af _=>?_);have ad:=af.1;by_cases hi:i<l.length
 ·obtain⟨b,ab,cw⟩:=ec hi;rcases Int.lt_trichotomy b.v n with h|h|h
  ·have ag:=af.step ab h;clear dU af ab bk;simp[hi,cw,h];((with_reducible repeat' first|refine aj ?_|simp[hi,cw,h]|((first|apply bJ|apply bM|apply bL)<;>intro h<;>try simp at h))<;>(try exact cc));exact bQ.whl (i+1) Ω ag bV
  ·have aX:iZ l n=some b.k:=by rw[<-h];exact Du bk (ed ab)
   have J:¬b.v<n:=Ω
   have U:(b.v==n)=true:=by simp[h]
   rw[aX]at dU;simp only at dU;subst dU;clear af ab bk aX;simp[hi,cw,J,U];(with_reducible repeat' first|refine aj ?_|simp[hi,cw,J,U]);all_goals simp[bu,xa,aW,aY,aV]
   all_goals(by_cases e:b.k=k<;>simp[nQ,e])
  ·have J:¬b.v<n:=Ω
   have U:(b.v==n)=false:=by simp;omega
   have aq:∀c,l[i]? =some c->n<c.v:=fun c aq=>by rw[ab]at aq;cases aq;exact h
   rw[af.none bk aq]at dU;simp only[af.ins aq]at dU;subst dU;clear af ab bk aq;simp[hi,cw,J,U];(with_reducible repeat' first|refine aj ?_|simp[hi,cw,J,U]);all_goals simp[bu,xa,aW,aY,aV]
   all_goals simp[nQ]
   rw[hx (by simp:(l.map b6.e).length<=l.length),<-List.map_take,<-List.map_drop,<-hk,<-List.map_append];exact NG _
 ·have aq:∀c,l[i]? =some c->n<c.v:=fun c aq=>by rw[qF Ω]at aq;cases aq
  rw[af.none bk aq]at dU;simp only[af.ins aq]at dU;have F6:i=l.length:=Ω
  clear af bk aq;subst dU;subst F6;simp;(with_reducible repeat' first|refine aj ?_|simp);all_goals simp[bu,xa,aW,aY,aV]
  all_goals simp[nQ]
  rw[hx (by simp:(l.map b6.e).length<=l.length),show [(⟨n,k⟩:b6).e]=[(⟨n,k⟩:b6)].map b6.e from rfl,<-List.map_append];exact NG _
theorem N6(l:List b6)(av:l.length<=1000000)(bk:l.Pairwise fun x y=>x.v<y.v)(t:T)(k:Int):bZ az 103 [.slice 2 .no (l.map b6.e),t.e,.int .i64 k] (nQ l (jk l t k)):=by
 cases t with
 |var n=>exact amV l av bk n k
 |nil=>
  refine bz my Cr DP fun aT=>?_;unfold zI;simp;(with_reducible repeat' first|refine aj ?_|simp);all_goals simp[bu,xa,aW,aY,aV]
  all_goals(by_cases e:0=k<;>simp[nQ,jk,e])
 |sym n=>
  refine bz my Cr DP fun aT=>?_;unfold zI;simp;(with_reducible repeat' first|refine aj ?_|simp);all_goals simp[bu,xa,aW,aY,aV]
  all_goals(by_cases e:2=k<;>simp[nQ,jk,e])
 |num n=>
  refine bz my Cr DP fun aT=>?_;unfold zI;simp;(with_reducible repeat' first|refine aj ?_|simp);all_goals simp[bu,xa,aW,aY,aV]
  all_goals(by_cases e:3=k<;>simp[nQ,jk,e])
 |pair a b=>
  refine bz my Cr DP fun aT=>?_;unfold zI;simp;(with_reducible repeat' first|refine aj ?_|simp);all_goals simp[bu,xa,aW,aY,aV]
  all_goals(by_cases e:4=k<;>simp[nQ,jk,e])
theorem Yx(s:List ak)(v:Int):ht s (.var v)=bh s v:=rfl
theorem N7{s:List ak}(ag:eN s){l:List b6}(av:gT l):bZ az 121 [.slice 5 .no (s.map ak.e),.slice 2 .no (l.map b6.e)] (gb (fU s l [])):=by
 have yk:=q6 av;refine bz my acZ ajD fun aT=>?_;unfold Q6;simp;refine dW [0,11,12] (fun i (a:List b6)=>[(6,.slice 2 .no (a.map b6.e)),(13,.int .i64 i)]) l.length (T9 s l) [] bV ⟨⟨Ψ,Ψ⟩,rfl⟩ (fun a af _=>?_) (fun i a hi af _=>?_)
 ·obtain⟨_,af⟩:=af;rw[List.drop_length]at af;simp only[fU]at af;rw[<-af];simp;(with_reducible repeat' first|refine aj ?_|simp);simp[bu,MY,aW,aY,aV];simp[gb]
 ·obtain⟨bk,af⟩:=af;obtain⟨b,ab,cw⟩:=ec hi;have oQ:=av.at' b (ed ab);rw[kX hi,cw]at af;simp only[fU]at af;have eC:=Io s ag.len (.var b.v);rw[Yx]at eC;have fB:=N6 a (by have:=q6 bk;omega) bk.asc (bh s b.v) b.k;simp[hi,cw];cases dU:jk a (bh s b.v) b.k with
  |none=>rw[dU]at af fB;simp only at af;rw[<-af];simp only[nQ]at fB;(with_reducible repeat' first|refine aj ?_|refine aD (km _) ?_|refine aE (km _) ?_|refine aD eC ?_|refine aE eC ?_|refine aD fB ?_|refine aE fB ?_|simp[cw,hi]);simp[bu,MY,aW,aY,aV];simp[gb]
  |some bj=>rw[dU]at af fB;simp only[nQ]at fB;(with_reducible repeat' first|refine aj ?_|refine aD (km _) ?_|refine aE (km _) ?_|refine aD eC ?_|refine aE eC ?_|refine aD fB ?_|refine aE fB ?_|simp[cw,hi]);exact bQ.rng bj hi ⟨E2 bk (zc ag oQ.1) oQ.2 dU,af⟩ bV
open Classical in
theorem anf(l:List bo):bZ az 71 [.slice 2 .no (l.map bo.e)] (.bool (decide (jb l))):=by
 generalize bG:decide (jb l)=R;refine bz my acu ai8 fun aT=>?_;unfold QB;have ir:l.length<=68719476736:=by simp[gS,gg,gE,lim]at aT;omega
 simp;refine dW [0,5,6] (fun i (_:Unit)=>[(7,.int .i64 i)]) l.length (fun i _=> ∀j,j<i->im kx kS l j) () bV (fun k ad=>Ω) (fun _ af _=>?_) (fun i _ hi af _=>?_)
 ·have:R=true:=by rw[<-bG,e6,GW];exact af
  rw[this];exact cD
 ·obtain⟨b,ab⟩:∃b,l[i]? =some b:=⟨_,cf hi⟩;obtain⟨c,aq⟩:∃c,l[i-1]? =some c:=⟨_,cf Ω⟩;have cw:∀h,(l[i]'h)=b:=fun h=>by rw[cf hi]at ab;exact eJ ab
  have cF:¬im kx kS l i->R=false:=fun h=>by rw[<-bG,gC];exact fun b4=>h (GW.1 b4 i hi)
  have da:im kx kS l i->∀j,j<i+1->im kx kS l j:=fun h j jB=>by
   by_cases e:j=i
   ·rw[e];exact h
   ·exact af j Ω
  have e1:∀p:Prop,(p->eW)->(im kx kS l i->p)->R=false:=fun p J U=>cF fun h=>J (U h);have pJ:im kx kS l i->kx b:=fun h=>(h b ab).1;have bs:im kx kS l i->0<i->hU fi c b=true:=fun h bE=>by simpa[hU,kS]using(h b ab).2 c bE aq
  have eA:kx b->(0<i->hU fi c b=true)->im kx kS l i:=fun J U b0 fZ=>by rw[ab]at fZ;cases fZ;exact⟨J,fun cp bE hH=>by rw[aq]at hH;cases hH;simpa[hU,kS]using U bE⟩
  unfold kx at pJ eA;by_cases g4:0<i
  ·cases g5:hU fi c b
   ·rw[e1 _ (fun h=>by rw[h]at g5;cases g5) (fun h=>bs h g4)];simp[hi,cw,aq];(with_reducible repeat' first|refine aj ?_|refine aD (l2 _ _) ?_|refine aE (l2 _ _) ?_|simp[cw,aq,hi,g4,g5]);all_goals simp[bu,Bo,aW,aY,aV]
   ·by_cases g1:0<=b.v/\b.v<=100000;rotate_left
    ·rw[e1 _ (fun h=>g1 h) (fun h=>(pJ h).1)];have lj:decide (0<=b.v/\b.v<=100000)=false:=by simp only[gC];exact g1
     simp[hi,cw,aq];(with_reducible repeat' first|refine aj ?_|refine aD (l2 _ _) ?_|refine aE (l2 _ _) ?_|refine aD (dx _ _ _) ?_|refine aE (dx _ _ _) ?_|simp[cw,aq,hi,g4,g5,lj,g1]);all_goals simp[bu,Bo,aW,aY,aV]
    have lj:decide (0<=b.v/\b.v<=100000)=true:=by simp only[e6];exact g1
    cases g3:iv b.s
    ·rw[e1 _ (fun h=>by rw[h]at g3;cases g3) (fun h=>(pJ h).2)];have cg:=hg b.s;rw[g3]at cg;simp[hi,cw,aq];(with_reducible repeat' first|refine aj ?_|refine aD (l2 _ _) ?_|refine aE (l2 _ _) ?_|refine aD (dx _ _ _) ?_|refine aE (dx _ _ _) ?_|refine aD cg ?_|refine aE cg ?_|simp[cw,aq,hi,g4,g5,lj,g1]);all_goals simp[bu,Bo,aW,aY,aV]
    have cg:=hg b.s;rw[g3]at cg;have dG:=da (eA ⟨g1,g3⟩ fun _=>g5);simp[hi,cw,aq];(with_reducible repeat' first|refine aj ?_|refine aD (l2 _ _) ?_|refine aE (l2 _ _) ?_|refine aD (dx _ _ _) ?_|refine aE (dx _ _ _) ?_|refine aD cg ?_|refine aE cg ?_|simp[cw,aq,hi,g4,g5,lj,g1]);all_goals exact bQ.rng () hi dG bV
  ·obtain rfl:i=0:=Ω
   by_cases g1:0<=b.v/\b.v<=100000;rotate_left
   ·rw[e1 _ (fun h=>g1 h) (fun h=>(pJ h).1)];have lj:decide (0<=b.v/\b.v<=100000)=false:=by simp only[gC];exact g1
    simp[hi,cw,aq];(with_reducible repeat' first|refine aj ?_|refine aD (l2 _ _) ?_|refine aE (l2 _ _) ?_|refine aD (dx _ _ _) ?_|refine aE (dx _ _ _) ?_|simp[cw,aq,hi,g4,lj,g1]);all_goals simp[bu,Bo,aW,aY,aV]
   have lj:decide (0<=b.v/\b.v<=100000)=true:=by simp only[e6];exact g1
   cases g3:iv b.s
   ·rw[e1 _ (fun h=>by rw[h]at g3;cases g3) (fun h=>(pJ h).2)];have cg:=hg b.s;rw[g3]at cg;simp[hi,cw,aq];(with_reducible repeat' first|refine aj ?_|refine aD (l2 _ _) ?_|refine aE (l2 _ _) ?_|refine aD (dx _ _ _) ?_|refine aE (dx _ _ _) ?_|refine aD cg ?_|refine aE cg ?_|simp[cw,aq,hi,g4,lj,g1]);all_goals simp[bu,Bo,aW,aY,aV]
   have cg:=hg b.s;rw[g3]at cg;have dG:=da (eA ⟨g1,g3⟩ fun h=>absurd h g4);simp[hi,cw,aq];(with_reducible repeat' first|refine aj ?_|refine aD (l2 _ _) ?_|refine aE (l2 _ _) ?_|refine aD (dx _ _ _) ?_|refine aE (dx _ _ _) ?_|refine aD cg ?_|refine aE cg ?_|simp[cw,aq,hi,g4,lj,g1]);all_goals exact bQ.rng () hi dG bV
def pG(s:List UInt8)(ba:List Int)(l:List bo):List bo:=ba.foldl (fun a v=>ku fi ⟨v,s⟩ a) l
theorem J6(s:List UInt8):∀(ba:List Int) {l:List bo},hF fi l->hF fi (pG s ba l)
 |[],_,h=>h
 |v::ba,_,h=>J6 s ba (Lj lY h)
theorem U3(s:List UInt8){x:bo}:∀(ba:List Int) {l:List bo},x∈pG s ba l↔x∈l\/(x.s=s/\x.v∈ba)
 |[],l=>by simp[pG]
 |v::ba,l=>by
  have:=U3 s (x:=x) ba (l:=ku fi ⟨v,s⟩ l);rw[show pG s (v::ba) l=pG s ba (ku fi ⟨v,s⟩ l)from rfl,this,GZ lY,fD];constructor
  ·rintro((rfl|h)|⟨J,U⟩)
   ·exact .inr ⟨rfl,.inl rfl⟩
   ·exact .inl h
   ·exact .inr ⟨J,.inr U⟩
  ·rintro(h|⟨J,U|U⟩)
   ·exact .inl (.inr h)
   ·refine .inl (.inl ?_);cases x;simp_all
   ·exact .inr ⟨J,U⟩
theorem Sd(s:List UInt8):∀(ba:List Int) (l:List bo),(pG s ba l).length<=l.length+ba.length
 |[],l=>by simp[pG]
 |v::ba,l=>by have J:=Sd s ba (ku fi ⟨v,s⟩ l);have U:=Ll (c:=fi) (⟨v,s⟩:bo) l;rw[show pG s (v::ba) l=pG s ba (ku fi ⟨v,s⟩ l)from rfl];simp only[l5];omega
theorem adi{t:T}{s:List UInt8}(cu:t.has s=false){l:List bo}(bk:hF fi l):j3 l t s=some (pG s (ig t []) l):=IP cu (J6 s _ bk) fun x=>by rw[U3,DE];simp
def Dm(l:List bo)(ba:List Int)(s:List UInt8)(i:Nat)(a:List bo):Prop:=a=pG s (ba.take i) l
def AI(a:List bo)(m:bo)(k:Nat):Prop:=k<=a.length/\∀j y,j<k->a[j]? =some y->fi y m<0
theorem AI.step{a:List bo}{m:bo}{k:Nat}{b:bo}(h:AI a m k)(ab:a[k]? =some b)(ay:fi b m<0):AI a m (k+1):=⟨(fb.1 ab).1,fun j y J U=>by
 rcases(by omega:j<k\/j=k)with ar|rfl
 ·exact h.2 j y ar U
 ·rw[ab]at U;cases U;exact ay⟩
theorem AI.fin{a:List bo}{m:bo}{k:Nat}(h:AI a m k)(aq:∀y,a[k]? =some y->0<=fi y m):ku fi m a=if(match a[k]? with|some y=>decide (fi y m=0)|none=>false)=true then a else a.take k++m::a.drop k:=(Lk lY m a k (fun j y J U=>h.2 j y J U) aq h.1).trans (by cases a[k]?<;>rfl)
theorem Vl(a:List bo)(k:Nat)(m:bo):pj k (a.map bo.e)++m.e::List.drop k (a.map bo.e)=(a.take k++m::a.drop k).map bo.e:=by simp
theorem A0(a:List bo)(k:Nat)(m:bo):dv (pj k (a.map bo.e)++m.e::List.drop k (a.map bo.e))=pj k (a.map bo.e)++m.e::List.drop k (a.map bo.e):=by rw[Vl,NH]
theorem AZ(S:aL->Prop)(a:List bo)(k:Nat)(m:bo):aP S (pj k (a.map bo.e)++m.e::List.drop k (a.map bo.e))=True:=by rw[Vl,UB]
theorem Vk(a:List bo)(m:bo):a.map bo.e++[m.e]=(a++[m]).map bo.e:=by simp
theorem AY(a:List bo)(m:bo):dv (a.map bo.e++[m.e])=a.map bo.e++[m.e]:=by rw[Vk,NH]
theorem AX(S:aL->Prop)(a:List bo)(m:bo):aP S (a.map bo.e++[m.e])=True:=by rw[Vk,UB]
theorem Yn(l:List bo)(av:l.length<=68719470000)(t:T)(aM:t.size<=5000)(s:List UInt8)(bk:hF fi l):bZ az 104 [.slice 2 .no (l.map bo.e),t.e,.str s] (iF (j3 l t s)):=by
 have iE:=Ip s t;cases cu:t.has s;rotate_left
 ·have bE:j3 l t s=none:=by simp[j3,cu]
  rw[bE];rw[cu]at iE;refine bz my R6 VQ fun aT=>?_;unfold Js;simp;(with_reducible repeat' first|refine aj ?_|refine aD iE ?_|refine aE iE ?_|simp);all_goals simp[bu,MZ,aW,aY,aV]
  all_goals simp[iF]
 ·rw[cu]at iE;have dU:=adi cu bk;have jl:=BQ t [];have e3:=Ez t [] d7 (by simp[s6]);have Aa:ek []=[]:=rfl;rw[Aa]at e3;rw[dU];clear dU cu;generalize ig t []=ba at e3 jl⊢;have k6:ba.length<=5000:=by simp at jl;omega
  generalize gm:pG s ba l=F;refine bz my R6 VQ fun aT=>?_;unfold Js;simp;(with_reducible repeat' first|refine aj ?_|refine aD iE ?_|refine aE iE ?_|refine aD e3 ?_|refine aE e3 ?_|simp[e0]);refine dW [2,17,18] (fun i (a:List bo)=>[(0,.slice 2 .no (a.map bo.e)),(19,.int .i64 i)]) ba.length (Dm l ba s) l ⟨by simp[fresh,aP,aG,cn,inObs,Pv.look,e0],en g8,eo g9,Ψ⟩ (by simp[Dm,pG]) (fun a af _=>?_) (fun i a hi af _=>?_)
  ·rw[Dm,l6,gm]at af;subst af;simp[e0];(with_reducible repeat' first|refine aj ?_|simp[e0]);all_goals simp[bu,MZ,aW,aY,aV]
   all_goals simp[iF]
  ·obtain⟨v,aC⟩:∃v,ba[i]? =some v:=⟨_,cf hi⟩;have q4:∀h,((ek ba)[i]'h)= .int .i64 v:=fun b4=>by have:=Dh ba i;rw[aC,cf b4]at this;exact eJ this
   have r3:hF fi a:=by rw[af];exact J6 s _ bk
   have mf:a.length<=68719475000:=by have:=Sd s (ba.take i) l;rw[af];simp at this⊢;omega
   have fu:Dm l ba s (i+1) (ku fi ⟨v,s⟩ a):=by rw[Dm,List.take_succ,aC,af];simp[pG]
   generalize hm:(⟨v,s⟩:bo)=m at fu;have afo:m.v=v:=by rw[<-hm]
   have u4:m.s=s:=by rw[<-hm]
   subst afo;subst u4;clear af gm;simp[hi,q4,e0];(with_reducible repeat' first|refine aj ?_|simp[hi,q4,e0]);refine v7 [0,2,10,17,18,19] (fun(k:Nat)=>[(11,.int .i64 k)]) (fun k=>a.length-k) (AI a m) 0 ⟨by simp[fresh,aP,aG,cn,inObs,Pv.look,e0],en g8,eo g9,Ψ⟩ ⟨Ω,fun j y h=>Ω⟩ (fun k af _=>?_);have ad:=af.1;by_cases hz:k<a.length
   ·obtain⟨b,ab,cw⟩:=ec hz;cases bs:hU fi b m
    ·have wo:0<=fi b m:=by simpa[hU]using bs
     have dG:=af.fin (fun y aH=>by rw[ab]at aH;cases aH;exact wo);rw[ab]at dG;cases F5:hU fi m b
     ·have hle:0<=fi m b:=by simpa[hU]using F5
      have bE:fi b m=0:=by have:=lY.neg b m;omega
      rw[if_pos (by simp[bE])]at dG;rw[dG]at fu;clear af ab dG mf r3;simp[hz,cw];((with_reducible repeat' first|refine aj ?_|refine aD (l2 _ _) ?_|refine aE (l2 _ _) ?_|simp[hz,cw,bs,F5]|((first|apply bJ|apply bM|apply bL)<;>intro h<;>try simp at h))<;>(try exact cc));all_goals exact bQ.rng a hi fu ⟨by simp[fresh,aP,aG,cn,inObs,Pv.look,e0],en g8,eo g9,Ψ⟩
     ·have hle:fi m b<0:=by simpa[hU]using F5
      have bE:¬fi b m=0:=by have:=lY.neg b m;omega
      rw[if_neg (by simp[bE])]at dG;rw[dG]at fu;clear af ab dG r3;simp[hz,cw];((with_reducible repeat' first|refine aj ?_|refine aD (l2 _ _) ?_|refine aE (l2 _ _) ?_|simp[hz,cw,bs,F5]|((first|apply bJ|apply bM|apply bL)<;>intro h<;>try simp at h))<;>(try exact cc));all_goals first|(refine⟨by unfold lim;omega,?_⟩)|skip
      all_goals(with_reducible repeat' first|refine aj ?_|simp)
      all_goals first|(refine⟨by unfold lim;omega,?_⟩)|skip
      all_goals((with_reducible repeat' first|refine aj ?_|simp|((first|apply bJ|apply bM|apply bL)<;>intro h<;>try simp at h))<;>(try exact cc))
      all_goals exact bQ.rng _ hi fu ⟨by simp[fresh,aP,aG,cn,inObs,Pv.look,e0,hx,A0,AZ,AY,AX],en (by simp[fresh,aP,aG,cn,inObs,Pv.look,e0,hx,A0,AZ,AY,AX]),eo (by simp[fresh,aP,aG,dV,inObs,Pv.look,e0,hx,A0,AZ,AY,AX]),Ψ⟩
    ·have wz:fi b m<0:=by simpa[hU]using bs
     have ag:=af.step ab wz;clear af ab r3 fu;simp[hz,cw];((with_reducible repeat' first|refine aj ?_|refine aD (l2 _ _) ?_|refine aE (l2 _ _) ?_|simp[hz,cw,bs]|((first|apply bJ|apply bM|apply bL)<;>intro h<;>try simp at h))<;>(try exact cc));all_goals exact bQ.whl (k+1) Ω ag ⟨by simp[fresh,aP,aG,cn,inObs,Pv.look,e0],en g8,eo g9,Ψ⟩
   ·have dG:=af.fin (fun y aH=>by rw[qF Ω]at aH;cases aH);rw[qF Ω]at dG;simp only[gO,if_false]at dG;rw[dG]at fu;have hM:k=a.length:=Ω
    clear af dG r3;subst hM;simp;(with_reducible repeat' first|refine aj ?_|simp);all_goals first|(refine⟨by unfold lim;omega,?_⟩)|skip
    all_goals(with_reducible repeat' first|refine aj ?_|simp)
    all_goals first|(refine⟨by unfold lim;omega,?_⟩)|skip
    all_goals(with_reducible repeat' first|refine aj ?_|simp)
    all_goals exact bQ.rng _ hi fu ⟨by simp[fresh,aP,aG,cn,inObs,Pv.look,e0,hx,A0,AZ,AY,AX],en (by simp[fresh,aP,aG,cn,inObs,Pv.look,e0,hx,A0,AZ,AY,AX]),eo (by simp[fresh,aP,aG,dV,inObs,Pv.look,e0,hx,A0,AZ,AY,AX]),Ψ⟩
theorem N8{s:List ak}(ag:eN s){l:List bo}(av:jb l){G:List (List UInt8)}(jS:G.length<=687000)(aX:kU G l):bZ az 122 [.slice 5 .no (s.map ak.e),.slice 2 .no (l.map bo.e)] (iF (fQ s l [])):=by
 have hlen:∀{a:List bo},jb a->kU G a->a.length<=68719470000:=fun J U=>by have:=DC J U;omega
 have yk:=hlen av aX;refine bz my ac0 ajE fun aT=>?_;unfold Q7;simp;refine dW [0,11,12] (fun i (a:List bo)=>[(6,.slice 2 .no (a.map bo.e)),(13,.int .i64 i)]) l.length (Ua s G l) [] bV ⟨⟨Ψ,by simp[hF]⟩,fun x ae=>by simp at ae,rfl⟩ (fun a af _=>?_) (fun i a hi af _=>?_)
 ·obtain⟨_,_,af⟩:=af;rw[List.drop_length]at af;simp only[fQ]at af;rw[<-af];simp;(with_reducible repeat' first|refine aj ?_|simp);simp[bu,M0,aW,aY,aV];simp[iF]
 ·obtain⟨bk,Db,af⟩:=af;obtain⟨b,ab,cw⟩:=ec hi;have oQ:=av.at' b (ed ab);have Kv:=aX b (ed ab);rw[kX hi,cw]at af;simp only[fQ]at af;have eC:=Io s ag.len (.var b.v);rw[Yx]at eC;have fB:=Yn a (hlen bk Db) (bh s b.v) (Ek ag b.v) b.s bk.asc;simp[hi,cw];cases dU:j3 a (bh s b.v) b.s with
  |none=>rw[dU]at af fB;simp only at af;rw[<-af];simp only[iF]at fB;(with_reducible repeat' first|refine aj ?_|refine aD (km _) ?_|refine aE (km _) ?_|refine aD eC ?_|refine aE eC ?_|refine aD fB ?_|refine aE fB ?_|simp[cw,hi]);simp[bu,M0,aW,aY,aV];simp[iF]
  |some bj=>rw[dU]at af fB;simp only[iF]at fB;(with_reducible repeat' first|refine aj ?_|refine aD (km _) ?_|refine aE (km _) ?_|refine aD eC ?_|refine aE eC ?_|refine aD fB ?_|refine aE fB ?_|simp[cw,hi]);exact bQ.rng bj hi ⟨E3 bk (zc ag oQ.1) oQ.2 dU,B3 Db Kv dU,af⟩ bV
theorem alY{s:List ak}(ax:j1 s)(bk:gQ s)(aR:fS s):gz (s.map ak.b)=s.all (mG s):=by
 rw[p1,fM,rn,<-Xu bk];constructor
 ·rintro⟨ah,J,U,ar,a8⟩;rw[pz J];exact ar
 ·intro ar;exact⟨s,rfl,ax,ar,aR⟩
theorem ZD{s:List ak}(bk:gQ s)(b:ak):mG s b=true↔(∀v∈ig b.t [],cU s v=none)/\(b.t.kind==1&&decide (b.v<=b.t.int))=false:=by unfold mG;rw[cE,Se bk];simp only[true_and,rC,DE,List.not_mem_nil,or_false]
def Dl(s:List ak)(ba:List Int)(i:Nat)(_:Unit):Prop:= ∀v∈ba.take i,cU s v=none
theorem Dl.step{s:List ak}{ba:List Int}{i:Nat}(h:Dl s ba i ()){v:Int}(aC:ba[i]? =some v)(ay:cU s v=none):Dl s ba (i+1) ():=fun w hw=>by
 rw[List.take_succ,aC]at hw;simp only[ih,Option.toList_some,oF]at hw;rcases hw with hw|rfl
 ·exact h w hw
 ·exact ay
theorem Oa(l:List dF):bZ az 68 [.slice 5 .no (l.map dF.e)] (.bool (gz l)):=by
 have aC:=Yk l;by_cases h:uz l;rotate_left
 ·have bE:gz l=false:=by unfold gz;simp only[gC];rintro⟨s,J,U,ar,a8⟩;exact h (uk.2 ⟨s,J,U,ar.asc,a8⟩)
  rw[bE];refine bz eH R3 VN fun aT=>?_;unfold Jp;exact cD
 ·obtain⟨s,rfl,ax,bk,aR⟩:=uk.1 h;have av:s.length<=1000000:=by have:=aR.1;omega
  rw[alY ax bk aR];rw[qu]at aC⊢;simp only[h,decide_true]at aC;clear h;generalize bG:s.all (mG s)=R;refine bz eH R3 VN fun aT=>?_;unfold Jp;simp;(with_reducible repeat' first|refine aj ?_|refine aD aC ?_|refine aE aC ?_|simp);refine dW [0,12,13] (fun i (_:Unit)=>[(14,.int .i64 i)]) s.length (kM (mG s) s) () bV (fun k b ad=>Ω) (fun _ af _=>?_) (fun i _ hi af _=>?_)
  ·have:R=true:=by rw[<-bG,fM];intro b ab;obtain⟨k,ad,e⟩:=nX ab;exact af k b ad (by rw[cf ad,e])
   rw[this];exact cD
  ·obtain⟨b,ab,cw⟩:=ec hi;have e1:¬mG s b=true->R=false:=fun h=>by rw[<-bG,Bool.eq_false_iff];intro b4;rw[fM]at b4;exact h (b4 b (ed ab))
   have r8:mG s b=true->kM (mG s) s (i+1) ():=fun h=>af.step ab h;have u0:=ZD bk b;have dS:=aR.2 b (ed ab);have jl:=BQ b.t [];have e3:=Ez b.t [] d7 (by simp[s6]);have Aa:ek []=[]:=rfl;rw[Aa]at e3;generalize ig b.t []=ba at e3 jl u0;have k6:ba.length<=5000:=by simp at jl;omega
   rw[u0]at e1 r8;clear u0 af jl ab;simp[hi,cw];cases ad:(b.t.kind==1&&decide (b.v<=b.t.int));rotate_left
   ·rw[e1 (by rw[ad];simp)];rw[cE]at ad;have gy:=ad.1;have jC:b.v<=b.t.int:=of_decide_eq_true ad.2;exact cD
   ·rw[ad]at e1 r8;simp only[and_true]at e1 r8;cases gy:(b.t.kind==1)
    ·clear ad;(with_reducible repeat' first|refine aj ?_|refine aD e3 ?_|refine aE e3 ?_|simp[cw,hi,e0,gy]);refine dW [0,12,13,14,32,33] (fun j (_:Unit)=>[(34,.int .i64 j)]) ba.length (Dl s ba) () ⟨by simp[fresh,aP,aG,cn,inObs,Pv.look,e0],en g8,eo g9,Ψ⟩ (fun v aC=>by simp at aC) (fun _ af _=>?_) (fun j _ dZ af _=>?_)
     ·have aX:=r8 (fun v aC=>af v (by rwa[l6]));simp[e0];(with_reducible repeat' first|refine aj ?_|simp[e0]);exact bQ.rng () hi aX ⟨by simp[fresh,aP,aG,cn,inObs,Pv.look,e0],en g8,eo g9,Ψ⟩
     ·obtain⟨v,aC⟩:∃v,ba[j]? =some v:=⟨_,cf dZ⟩;have q4:∀h,((ek ba)[j]'h)= .int .i64 v:=fun b4=>by have:=Dh ba j;rw[aC,cf b4]at this;exact eJ this
      have jo:=rA s v av;cases hR:cU s v with
      |none=>have ay:=af.step aC hR;rw[hR]at jo;simp only[l7,lD]at jo;clear af r8 e1 hR;simp[dZ,q4,e0];(with_reducible repeat' first|refine aj ?_|refine aD jo ?_|refine aE jo ?_|simp[dZ,q4,e0]);exact bQ.rng () dZ ay ⟨by simp[fresh,aP,aG,cn,inObs,Pv.look,e0],en g8,eo g9,Ψ⟩
      |some x=>rw[e1 (fun h=>by have:=h v (ed aC);rw[hR]at this;cases this)];rw[hR]at jo;simp only[jL,oG]at jo;clear af r8 e1 hR;simp[dZ,q4,e0];(with_reducible repeat' first|refine aj ?_|refine aD jo ?_|refine aE jo ?_|simp[dZ,q4,e0]);simp[bu,MP,aW,aY,aV]
    ·have jC:¬b.v<=b.t.int:=by rw[gy]at ad;simpa using ad
     clear ad;(with_reducible repeat' first|refine aj ?_|refine aD e3 ?_|refine aE e3 ?_|simp[cw,hi,e0,gy,jC]);refine dW [0,12,13,14,32,33] (fun j (_:Unit)=>[(34,.int .i64 j)]) ba.length (Dl s ba) () ⟨by simp[fresh,aP,aG,cn,inObs,Pv.look,e0],en g8,eo g9,Ψ⟩ (fun v aC=>by simp at aC) (fun _ af _=>?_) (fun j _ dZ af _=>?_)
     ·have aX:=r8 (fun v aC=>af v (by rwa[l6]));simp[e0];(with_reducible repeat' first|refine aj ?_|simp[e0]);exact bQ.rng () hi aX ⟨by simp[fresh,aP,aG,cn,inObs,Pv.look,e0],en g8,eo g9,Ψ⟩
     ·obtain⟨v,aC⟩:∃v,ba[j]? =some v:=⟨_,cf dZ⟩;have q4:∀h,((ek ba)[j]'h)= .int .i64 v:=fun b4=>by have:=Dh ba j;rw[aC,cf b4]at this;exact eJ this
      have jo:=rA s v av;cases hR:cU s v with
      |none=>have ay:=af.step aC hR;rw[hR]at jo;simp only[l7,lD]at jo;clear af r8 e1 hR;simp[dZ,q4,e0];(with_reducible repeat' first|refine aj ?_|refine aD jo ?_|refine aE jo ?_|simp[dZ,q4,e0]);exact bQ.rng () dZ ay ⟨by simp[fresh,aP,aG,cn,inObs,Pv.look,e0],en g8,eo g9,Ψ⟩
      |some x=>rw[e1 (fun h=>by have:=h v (ed aC);rw[hR]at this;cases this)];rw[hR]at jo;simp only[jL,oG]at jo;clear af r8 e1 hR;simp[dZ,q4,e0];(with_reducible repeat' first|refine aj ?_|refine aD jo ?_|refine aE jo ?_|simp[dZ,q4,e0]);simp[bu,MP,aW,aY,aV]
theorem Ob{s:List ak}(h:eN s):bZ az 68 [.slice 5 .no (s.map ak.e)] (.bool true):=by have:=Oa (s.map ak.b);rw[qu,rn.2 ⟨s,rfl,h.ok,h.sol,h.fits⟩]at this;exact this
def Q2:C:=(aa [bq 2 false] (.seq (aa [I 5 0,cz 6 5,cd 7 0] (e5 8 7 6 (.seq (.block 1 (aa [cy 9 1 5 7,aw 10 1 9,I 4 10] (aa [I 11 4,cR 12 68 11,cJ 13 12] (aZ 13 (aa [bq 2 false] .ret) .skip)))) (.region [aS 14 .add 7 1,I 7 14])))) (aa [bq 2 true] .ret)))
@[simp] def akN:List bX:=[.tmp 2]
def Ra:C:=(aa [bq 4 false] (.seq (aa [I 7 0,cz 8 7,cd 9 0] (e5 10 9 8 (.seq (.block 1 (aa [cy 11 5 7 9,a7 12 5 11,c1 6 hT,bN 5 6 12] (aa [aI 13 0 1 6,aw 14 1 13,I 15 1,br 16 .geq 14 15,I 17 16,au 17 false (gI 18 1 4 6),au 17 false (a7 19 4 18),bW 17 false 20 1,au 17 false (ch 21 120 19 20),au 17 false (cJ 22 21),c6 23 17 22] (aZ 23 (aa [bq 4 false] .ret) .skip)))) (.region [aS 24 .add 9 1,I 9 24])))) (aa [bq 4 true] .ret)))
@[simp] def akS:List bX:=[.tmp 4]
def Q1:C:=(aa [e4 4 5] (aa [eE 10 5 54 [],I 5 10] (.seq (aa [I 11 1,cz 12 11,cd 13 0] (e5 14 13 12 (.seq (.block 1 (aa [cy 15 5 11 13,a7 16 5 15,c1 7 hT,bN 5 7 16] (aa [I 18 0,aI 19 0 1 7,aw 20 1 19,ch 21 78 18 20,I 17 21,cC 22 0 17,cC 23 1 17,c1 8 dd,bN 4 8 22,I 9 23] (aa [I 24 9,cJ 25 24] (aZ 25 (.region [I 26 5,a7 27 5 7,eE 28 5 54 [.t 27],hj 29 5 54 26 28,I 5 29]) .skip))))) (.region [aS 30 .add 13 1,I 13 30])))) (aa [I 31 5,I 4 31] .ret))))
@[simp] def akM:List bX:=[.tmp 4]
def zJ:C:=(aa [c8 2 0,bq 4 false] (.seq (aa [aI 7 3 1 2,aw 8 1 7,cz 9 8,cd 10 0] (e5 11 10 9 (.seq (.block 1 (aa [cy 12 4 8 10,a7 13 4 12,c1 6 dd,bN 4 6 13] (aa [a7 14 4 6,I 15 1,ch 16 120 14 15,cJ 17 16] (aZ 17 (aa [bq 4 false] .ret) .skip)))) (.region [aS 18 .add 10 1,I 10 18])))) (aa [aI 19 0 1 2,aw 20 1 19,aS 21 .neq 20 1,I 22 21,au 22 false (aI 23 1 1 2),au 22 false (aw 24 1 23),bW 22 false 25 1,au 22 false (br 26 .lss 24 25),c6 27 22 26,I 4 27] .ret)))
@[simp] def xb:List bX:=[.tmp 4]
def Q5:C:=(aa [e4 2 1] (aa [eE 11 1 23 [],I 3 11] (.seq (.seq (.fg false 3 (.region [I 12 0,cz 13 12,cd 14 0])) (e5 15 14 13 (.seq (.block 1 (aa [cy 16 1 12 14,aw 17 1 16,I 5 17] (aa [bq 6 true] (.seq (aa [I 18 0,cz 19 18,cd 20 0] (.block 2 (.loop (aa [br 21 .lss 20 19] (.seq (aZ 21 .skip (.exit 2)) (.seq (.block 3 (aa [cy 22 1 18 20,aw 23 1 22,I 8 23] (.region [I 24 6,I 25 24,bW 25 true 26 8,bW 25 true 27 5,au 25 true (ch 28 125 26 27),au 25 true (aS 29 .eql 28 0),bW 25 true 30 29,bW 30 false 31 8,bW 30 false 32 5,au 30 false (ch 33 157 31 32),au 30 false (cJ 34 33),au 25 true (c6 35 30 34),dq 36 25 35,I 6 36]))) (.region [aS 37 .add 20 1,I 20 37]))))))) (aa [I 38 3,cz 39 38,I 9 39] (.seq (.block 4 (.loop (.seq (aa [I 40 9,aS 41 .gtr 40 0,I 42 41,bW 42 true 43 3,bW 42 true 44 9,au 42 true (aS 45 .sub 44 1),au 42 true (cy 46 1 43 45),au 42 true (aw 47 1 46),bW 42 true 48 5,au 42 true (ch 49 125 47 48),au 42 true (aS 50 .geq 49 0),dq 51 42 50] (aZ 51 .skip (.exit 4))) (.block 5 (.region [I 52 9,aS 53 .sub 52 1,I 9 53]))))) (aa [I 54 6,I 55 54,bW 55 true 56 9,bW 55 true 57 3,au 55 true (cz 58 57),au 55 true (br 59 .eql 56 58),bW 55 true 60 59,bW 60 false 61 3,bW 60 false 62 9,au 60 false (cy 63 1 61 62),au 60 false (aw 64 1 63),bW 60 false 65 5,au 60 false (ch 66 125 64 65),au 60 false (aS 67 .neq 66 0),au 55 true (c6 68 60 67),dq 69 55 68] (aZ 69 (aa [eE 70 1 23 [],I 71 3,I 72 9,bR 73 (.lsl 1 (.t 71) none (some (.t 72))),hj 74 1 23 70 73,I 10 74] (aa [I 75 10,I 76 5,eE 77 1 23 [.t 76],hj 78 1 23 75 77,I 10 78] (.region [I 79 10,I 80 3,I 81 9,bR 82 (.lsl 1 (.t 80) (some (.t 81)) none),hj 83 1 23 79 82,I 3 83]))) .skip)))))))) (.fg false 3 (.region [aS 84 .add 14 1,I 14 84]))))) (aa [I 85 3,I 2 85] .ret))))
@[simp] def akP:List bX:=[.tmp 2]
def Q3:C:=(aa [cd 4 0] (.seq (aa [cd 5 0] (.block 0 (.loop (.seq (aa [I 7 5,I 8 0,cz 9 8,br 10 .lss 7 9,I 11 10,bW 11 true 12 5,bW 11 true 13 1,au 11 true (cz 14 13),au 11 true (br 15 .lss 12 14),dq 16 11 15] (aZ 16 .skip (.exit 0))) (.seq (.block 1 (.seq (.seq (.drawn true 67 [I 19 0,I 20 5,cy 21 5 19 20,aI 22 0 1 21,aw 23 1 22,I 24 1,I 25 5,cy 26 5 24 25,aI 27 0 1 26,aw 28 1 27,br 29 .neq 23 28]) (aZ 29 (.seq (.drawn true 67 [I 30 0,I 31 5,cy 32 5 30 31,aI 33 0 1 32,aw 34 1 33,I 35 1,I 36 5,cy 37 5 35 36,aI 38 0 1 37,aw 39 1 38,br 40 .lss 34 39,cR 41 158 40,I 4 41]) .ret) .skip)) (.seq (.drawn true 67 [I 42 0,I 43 5,cy 44 5 42 43,gI 45 1 4 44,a7 46 4 45,I 47 1,I 48 5,cy 49 5 47 48,gI 50 1 4 49,a7 51 4 50,ch 52 130 46 51,I 6 52]) (aa [I 53 6,aS 54 .neq 53 0] (aZ 54 (aa [I 55 6,I 4 55] .ret) .skip))))) (.region [I 17 5,aS 18 .add 17 1,I 5 18])))))) (.seq (aa [I 56 0,cz 57 56,I 58 1,cz 59 58,br 60 .neq 57 59] (aZ 60 (aa [I 61 0,cz 62 61,I 63 1,cz 64 63,br 65 .lss 62 64,cR 66 158 65,I 4 66] .ret) .skip)) (aa [cd 4 0] .ret))))
@[simp] def D4:List bX:=[.tmp 4]
def QC:C:=(aa [bq 4 false] (.seq (aa [I 11 0,cR 12 68 11,cJ 13 12,I 14 13,bW 14 false 15 1,au 14 false (cR 16 68 15),au 14 false (cJ 17 16),c6 18 14 17] (aZ 18 (aa [bq 4 false] .ret) .skip)) (.seq (aa [I 19 0,cz 20 19,cd 21 0] (e5 22 21 20 (.seq (.block 1 (aa [cy 23 5 19 21,a7 24 5 23,c1 6 hT,bN 5 6 24] (aa [I 26 1,aI 27 0 1 6,aw 28 1 27,cR 29 84 28,ch 30 79 26 29,I 25 30,cC 31 0 25,cC 32 1 25,c1 7 dd,bN 4 7 31,I 8 32] (aa [I 34 1,gI 35 1 4 6,a7 36 4 35,ch 37 79 34 36,I 33 37,cC 38 0 33,cC 39 1 33,c1 9 dd,bN 4 9 38,I 10 39] (aa [I 40 8,cJ 41 40,I 42 41,bW 42 false 43 10,au 42 false (cJ 44 43),c6 45 42 44,I 46 45,au 46 false (a7 47 4 7),au 46 false (a7 48 4 9),au 46 false (ch 49 80 47 48),au 46 false (cJ 50 49),c6 51 46 50] (aZ 51 (aa [bq 4 false] .ret) .skip)))))) (.region [aS 52 .add 21 1,I 21 52])))) (aa [bq 4 true] .ret))))
@[simp] def MO:List bX:=[.tmp 4]
def xv:List (Nat×dz):=[
 (3,⟨1,8,.int .i64,.int .i64 0⟩),
 (23,⟨1,24,.slice 54,.slice 5 .nil []⟩),
 (24,⟨1,24,.slice 23,.slice 1 .nil []⟩),
 (34,⟨1,24,.slice 36,.slice 4 .nil []⟩),
 (36,⟨4,56,.struct [(0,3),(1,3),(2,9),(3,34)],.agg [.int .i64 0,.int .i64 0,.str [],.slice 4 .nil []]⟩),
 (54,⟨5,64,.struct [(0,3),(1,36)],.agg [.int .i64 0,.int .i64 0,.int .i64 0,.str [],.slice 4 .nil []]⟩)]
theorem sR:fI az xv=true:=by kernel_rfl
theorem ajz:b7 xv Q2 akN 1 Tryz.f69=true:=by kernel_rfl
theorem acV:az.funcs[(69:Nat)]? =some Tryz.f69:=Tryz.func69
theorem ajH:b7 xv Ra akS 2 Tryz.f72=true:=by kernel_rfl
theorem ac3:az.funcs[(72:Nat)]? =some Tryz.f72:=Tryz.func72
theorem ajy:b7 xv Q1 akM 2 Tryz.f102=true:=by kernel_rfl
theorem acU:az.funcs[(102:Nat)]? =some Tryz.f102:=Tryz.func102
theorem DQ:b7 xv zJ xb 2 Tryz.f120=true:=by kernel_rfl
theorem Cs:az.funcs[(120:Nat)]? =some Tryz.f120:=Tryz.func120
theorem ajC:b7 xv Q5 akP 1 Tryz.f124=true:=by kernel_rfl
theorem acY:az.funcs[(124:Nat)]? =some Tryz.f124:=Tryz.func124
theorem ajA:b7 xv Q3 D4 2 Tryz.f125=true:=by kernel_rfl
theorem acW:az.funcs[(125:Nat)]? =some Tryz.f125:=Tryz.func125
theorem ai9:b7 xv QC MO 2 Tryz.f157=true:=by kernel_rfl
theorem acv:az.funcs[(157:Nat)]? =some Tryz.f157:=Tryz.func157
def PQ:C:=(aa [c8 1 0,bq 2 false] (aa [cN (.alloc 3 (some 501) (.bool false)),cN (.store 1 (.t 3) (.c (.bool true)))] (aa [a7 4 4 1,bR 5 (.mkf 116 [.t 3]),ch 6 107 4 5] (aa [aw 7 1 3,I 2 7] .ret))))
@[simp] def Wr:List bX:=[.tmp 2]
def QR:C:=(aa [c8 2 0,c8 3 1,bq 4 false] (aa [a7 5 4 2,a7 6 4 3,ch 7 130 5 6,aS 8 .eql 7 0,I 4 8] .ret))
@[simp] def WS:List bX:=[.tmp 4]
def PR:C:=(.region [cN (.store 1 (.t 1) (.c (.bool false)))])
@[simp] def Ws:List bX:=[]
def Cd:C:=(aa [c8 2 0,c8 3 1,cd 4 0] (.seq (aa [aI 7 0 1 2,aw 8 1 7,aI 9 0 1 3,aw 10 1 9,br 11 .neq 8 10] (aZ 11 (aa [aI 12 0 1 2,aw 13 1 12,aI 14 0 1 3,aw 15 1 14,br 16 .lss 13 15,cR 17 158 16,I 4 17] .ret) .skip)) (.seq (aa [aI 18 1 1 2,aw 19 1 18,aI 20 1 1 3,aw 21 1 20,br 22 .neq 19 21] (aZ 22 (aa [aI 23 1 1 2,aw 24 1 23,aI 25 1 1 3,aw 26 1 25,br 27 .lss 24 26,cR 28 158 27,I 4 28] .ret) .skip)) (.seq (aa [aI 29 2 1 2,aw 30 1 29,aI 31 2 1 3,aw 32 1 31,br 33 .neq 30 32] (aZ 33 (aa [aI 34 2 1 2,aw 35 1 34,aI 36 2 1 3,aw 37 1 36,br 38 .lss 35 37,cR 39 158 38,I 4 39] .ret) .skip)) (.seq (aa [cd 5 0] (.block 0 (.loop (.seq (aa [I 40 5,aI 41 3 1 2,aw 42 1 41,cz 43 42,br 44 .lss 40 43,I 45 44,bW 45 true 46 5,au 45 true (aI 47 3 1 3),au 45 true (aw 48 1 47),au 45 true (cz 49 48),au 45 true (br 50 .lss 46 49),dq 51 45 50] (aZ 51 .skip (.exit 0))) (.seq (.block 1 (.seq (.drawn true 68 [aI 54 3 1 2,aw 55 1 54,I 56 5,cy 57 4 55 56,a7 58 4 57,aI 59 3 1 3,aw 60 1 59,I 61 5,cy 62 4 60 61,a7 63 4 62,ch 64 130 58 63,I 6 64]) (aa [I 65 6,aS 66 .neq 65 0] (aZ 66 (aa [I 67 6,I 4 67] .ret) .skip)))) (.region [I 52 5,aS 53 .add 52 1,I 5 53])))))) (aa [cd 4 0] .ret))))))
@[simp] def Bp:List bX:=[.tmp 4]
def QS:C:=(aa [cd 2 0] (.seq (aa [I 3 0] (aZ 3 (aa [cd 2 (-1)] .ret) .skip)) (aa [cd 2 1] .ret)))
@[simp] def WT:List bX:=[.tmp 2]
def BE:List (Nat×dz):=[
 (3,⟨1,8,.int .i64,.int .i64 0⟩),
 (4,⟨1,1,.bool,.bool false⟩),
 (9,⟨1,16,.str,.str []⟩),
 (34,⟨1,24,.slice 36,.slice 4 .nil []⟩),
 (36,⟨4,56,.struct [(0,3),(1,3),(2,9),(3,34)],.agg [.int .i64 0,.int .i64 0,.str [],.slice 4 .nil []]⟩)]
theorem xw:fI az BE=true:=by kernel_rfl
theorem ain:b7 BE PQ Wr 1 Tryz.f63=true:=by kernel_rfl
theorem abG:az.funcs[(63:Nat)]? =some Tryz.f63:=Tryz.func63
theorem ajo:b7 BE QR WS 2 Tryz.f80=true:=by kernel_rfl
theorem acK:az.funcs[(80:Nat)]? =some Tryz.f80:=Tryz.func80
theorem aio:b7 BE PR Ws 2 Tryz.f116=true:=by kernel_rfl
theorem abH:az.funcs[(116:Nat)]? =some Tryz.f116:=Tryz.func116
theorem Hc:b7 BE Cd Bp 2 Tryz.f130=true:=by kernel_rfl
theorem FF:az.funcs[(130:Nat)]? =some Tryz.f130:=Tryz.func130
theorem ajp:b7 BE QS WT 1 Tryz.f158=true:=by kernel_rfl
theorem acL:az.funcs[(158:Nat)]? =some Tryz.f158:=Tryz.func158
theorem Y6{t u:T}(J:t.kind=u.kind)(U:t.int=u.int)(ar:t.name=u.name)(a8:t.args=u.args):t=u:=by cases t<;>cases u<;>simp_all
theorem rz(b:Bool):bZ az 158 [.bool b] (.int .i64 (if b then-1 else 1)):=by
 refine bz xw acL ajp fun aT=>?_;unfold QS;simp;((with_reducible repeat' first|refine aj ?_|simp|((first|apply bJ|apply bM|apply bL)<;>intro h<;>try simp at h))<;>(try exact cc));all_goals simp[bu,WT,aW,aY,aV]
 all_goals simp_all
theorem ajN{a b:T}(bk:a.args=[]\/b.args=[])(J:a.kind=b.kind)(U:a.int=b.int):et a b=kT a.name b.name:=by cases a<;>cases b<;>simp_all[et]
def Dk(a b:T)(i:Nat)(_:Unit):Prop:=a.args.take i=b.args.take i
theorem Yd(a:T)(bU:∀x∈a.args,∀b:T,bZ az 130 [x.e,b.e] (.int .i64 (et x b)))(b:T):bZ az 130 [a.e,b.e] (.int .i64 (et a b)):=by
 have hle:a.args.length<=2:=by cases a<;>simp
 by_cases ad:a.kind=b.kind
 ·by_cases hi:a.int=b.int
  ·by_cases ay:a.name=b.name
   ·have hlen:a.args.length=b.args.length:=by cases a<;>cases b<;>simp at ad⊢
    refine bz xw FF Hc fun aT=>?_;unfold Cd;simp[ad,hi,ay];refine dW [2,3] (fun i (_:Unit)=>[(5,.int .i64 i)]) a.args.length (Dk a b) () bV (by simp[Dk]) (fun _ af _=>?_) (fun i _ bs af _=>?_)
    ·simp;(with_reducible repeat' first|refine aj ?_|simp);simp[bu,Bp,aW,aY,aV];unfold Dk at af;rw[hx Ω,hx Ω]at af;exact((re a b).2 (Y6 ad hi ay af)).symm
    ·have q1:i<b.args.length:=Ω
     obtain⟨x,ae⟩:∃x,x=a.args[i]:=⟨_,rfl⟩;obtain⟨y,aH⟩:∃y,y=b.args[i]:=⟨_,rfl⟩;have oj:=bU x (by rw[ae];exact List.getElem_mem bs) y;simp[bs,q1,<-ae,<-aH];(with_reducible repeat' first|((first|apply bJ|apply bM|apply bL)<;>intro h<;>try simp at h)|refine aj ?_|refine aD oj ?_|refine aE oj ?_|simp)
     ·simp[bu,Bp,aW,aY,aV];unfold Dk at af;cases a with
      |pair bB a2=>
       cases b with
       |pair ck ca=>
        simp at bs af ae aH;rcases(by omega:i=0\/i=1)with rfl|rfl
        ·simp at ae aH;subst ae aH;simp[et,h]
        ·simp at af ae aH;subst ae aH af;simp[et,(re bB bB).2 rfl]
       |_=>simp at ad
      |_=>simp at bs
     ·refine bQ.rng () bs ?_ bV;unfold Dk at af⊢;rw[List.take_succ,List.take_succ,af,cf bs,cf q1,<-ae,<-aH,(re x y).1 h]
   ·refine bz xw FF Hc fun aT=>?_;unfold Cd;simp[ad,hi,ay];((with_reducible repeat' first|refine aj ?_|refine aD (rz _) ?_|refine aE (rz _) ?_|simp|((first|apply bJ|apply bM|apply bL)<;>intro h<;>try simp at h))<;>(try exact cc));simp[bu,Bp,aW,aY,aV];have:a.args=[]\/b.args=[]:=by cases a<;>cases b<;>simp at ad ay⊢
    rw[ajN this ad hi,kT,if_neg ay]
  ·refine bz xw FF Hc fun aT=>?_;unfold Cd;simp[ad,hi];((with_reducible repeat' first|refine aj ?_|refine aD (rz _) ?_|refine aE (rz _) ?_|simp|((first|apply bJ|apply bM|apply bL)<;>intro h<;>try simp at h))<;>(try exact cc));simp[bu,Bp,aW,aY,aV];cases a<;>cases b<;>simp at ad hi
   ·rw[VW];simp[ev];split<;>(try split)<;>omega
   ·rw[VV];simp[ev];split<;>(try split)<;>omega
 ·refine bz xw FF Hc fun aT=>?_;unfold Cd;simp[ad];((with_reducible repeat' first|refine aj ?_|refine aD (rz _) ?_|refine aE (rz _) ?_|simp|((first|apply bJ|apply bM|apply bL)<;>intro h<;>try simp at h))<;>(try exact cc));simp[bu,Bp,aW,aY,aV];rw[sC ad];simp[ev];split<;>(try split)<;>omega
theorem Ik(a:T):∀b:T,bZ az 130 [a.e,b.e] (.int .i64 (et a b)):=by
 induction a with
 |pair x y oj ql=>
  refine Yd _ fun z bf=>?_;simp at bf;rcases bf with rfl|rfl
  ·exact oj
  ·exact ql
 |_=>exact Yd _ fun x ae=>by simp at ae
theorem Im(a b:T):bZ az 80 [a.e,b.e] (.bool (decide (a=b))):=by refine bz xw acK ajo fun aT=>?_;unfold QR;simp;(with_reducible repeat' first|refine aj ?_|refine aD (Ik _ _) ?_|refine aE (Ik _ _) ?_|simp);simp[bu,WS,aW,aY,aV];have:=re a b;by_cases h:et a b=0<;>simp_all
theorem amP{s t:List ak}(ag:eN s)(aM:eN t):bZ az 102 [.slice 5 .no (s.map ak.e),.slice 5 .no (t.map ak.e)] (.slice 5 .no ((eG s t).map ak.e)):=by
 have afU:=aM.len;generalize bG:eG s t=R;refine bz sR acU ajy fun aT=>?_;unfold Q1;simp;refine hQ (α:=List ak) (fun i out=>⟨[(0,.slice 5 .no (s.map ak.e)),(11,.slice 5 .no (t.map ak.e)),(12,.int .i64 t.length),(5,.slice 5 (.own (.loc 0)) (out.map ak.e)),(13,.int .i64 i)],[],[(.loc 0,⟨out.length,54,5,none⟩)],1,[]⟩) t.length (q5 s t) [] bV (by simp[q5,eG]) (fun out af _=>?_) (fun i out hi af _=>?_)
 ·rw[q5,hx (eX _),bG]at af;rw[<-af];exact cD
 ·obtain⟨b,aC,gi⟩:=ec hi;have Ap:out.length<=1000000:=by
   have:out.length<=(t.take i).length:=by rw[af];exact List.length_filter_le _ _
   simp at this;omega
  have jo:=rA s b.v ag.len;cases ab:cU s b.v with
  |none=>
   have ay:q5 s t (i+1) (out++[b]):=by rw[q5,ng aC,eG,List.filter_append,af];simp[eG,ab]
   rw[ab]at jo;simp only[l7,lD]at jo;clear af aC ab;simp[hi,gi];(with_reducible repeat' first|refine aj ?_|refine aD jo ?_|refine aE jo ?_|simp[gi,hi]);all_goals first|(refine⟨by unfold lim;omega,?_⟩)|skip
   (with_reducible repeat' first|refine aj ?_|simp);refine bQ.rng (out++[b]) hi ay ?_;simp;exact⟨by simp[fresh,aP,aG,cn,inObs,Pv.look,jq],en (by simp[fresh,aP,aG,cn,inObs,Pv.look,jq]),eo (by simp[fresh,aP,aG,dV,inObs,Pv.look,jq]),Ψ⟩
  |some x=>
   have ay:q5 s t (i+1) out:=by rw[q5,ng aC,eG,List.filter_append,af];simp[eG,ab]
   rw[ab]at jo;simp only[jL,oG]at jo;clear af aC ab;simp[hi,gi];(with_reducible repeat' first|refine aj ?_|refine aD jo ?_|refine aE jo ?_|simp[gi,hi]);refine bQ.rng out hi ay ?_;exact bV
theorem amw{s t:List ak}(ag:eN s)(aM:eN t):bZ az 157 [.slice 5 .no (s.map ak.e),.slice 5 .no (t.map ak.e)] (.bool (nJ s t)):=by
 have qk:=ag.len;generalize bG:nJ s t=R;have c7:=Ob ag;have dJ:=Ob aM;refine bz sR acv ai9 fun aT=>?_;unfold QC;simp;(with_reducible repeat' first|refine aj ?_|refine aD c7 ?_|refine aE c7 ?_|refine aD dJ ?_|refine aE dJ ?_|simp);refine dW [1,19,20] (fun i (_:Unit)=>[(21,.int .i64 i)]) s.length (kM (su t) s) () bV (fun k b ad=>Ω) (fun _ af _=>?_) (fun i _ hi af _=>?_)
 ·have:R=true:=by rw[<-bG,nJ,fM];intro b ab;obtain⟨k,ad,e⟩:=nX ab;exact af k b ad (by rw[cf ad,e])
  rw[this];exact cD
 ·obtain⟨b,aC,gi⟩:=ec hi;have e1:su t b=false->R=false:=fun h=>by rw[<-bG,Bool.eq_false_iff];intro b4;rw[nJ,fM]at b4;rw[b4 b (ed aC)]at h;cases h
  have aU:=zl t aM.len (.var b.v);have bp:=zl t aM.len b.t;have yx:=Ek aM b.v;have Gt:((T.var b.v).ap (bh t)).size<=5000:=yx;rw[gD Gt]at aU;rw[show(T.var b.v).ap (bh t)=bh t b.v from rfl]at aU;by_cases bf:(b.t.ap (bh t)).size<=5000
  ·rw[gD bf]at bp;by_cases he:bh t b.v=b.t.ap (bh t)
   ·have ay:=af.step aC (by simp[su,he]);have fC:=Im (bh t b.v) (b.t.ap (bh t));rw[gD he]at fC;clear af aC;simp[hi,gi];(with_reducible repeat' first|refine aj ?_|refine aD (km _) ?_|refine aE (km _) ?_|refine aD aU ?_|refine aE aU ?_|refine aD bp ?_|refine aE bp ?_|refine aD fC ?_|refine aE fC ?_|simp[gi,hi]);exact bQ.rng () hi ay bV
   ·rw[e1 (by simp[su,he])];have fC:=Im (bh t b.v) (b.t.ap (bh t));rw[ij he]at fC;clear af aC;simp[hi,gi];(with_reducible repeat' first|refine aj ?_|refine aD (km _) ?_|refine aE (km _) ?_|refine aD aU ?_|refine aE aU ?_|refine aD bp ?_|refine aE bp ?_|refine aD fC ?_|refine aE fC ?_|simp[gi,hi]);simp[bu,MO,aW,aY,aV]
  ·rw[ij bf]at bp;rw[e1 (by simp only[su,gC];intro e;rw[<-e]at bf;exact bf yx)];clear af aC;simp[hi,gi];(with_reducible repeat' first|refine aj ?_|refine aD (km _) ?_|refine aE (km _) ?_|refine aD aU ?_|refine aE aU ?_|refine aD bp ?_|refine aE bp ?_|simp[gi,hi]);simp[bu,MO,aW,aY,aV]
theorem N5(d e:List ak):bZ az 125 [.slice 5 .no (d.map ak.e),.slice 5 .no (e.map ak.e)] (.int .i64 (eu d e)):=by
 generalize bG:eu d e=R;refine bz sR acW ajA fun aT=>?_;unfold Q3;have aN:d.length<=68719476736:=by simp[gS,gg,gE,lim]at aT;omega
 have he:e.length<=68719476736:=by simp[gS,gg,gE,lim]at aT;omega
 simp;refine v7 [0,1] (fun(i:Nat)=>[(5,.int .i64 i)]) (fun i=>d.length-i) (Lo d e) 0 bV ⟨Ω,Ω,Ψ⟩ (fun i af _=>?_);obtain⟨J,U,ar⟩:=af;rw[bG]at ar;by_cases hi:i<d.length
 ·by_cases hL:i<e.length
  ·obtain⟨x,ae⟩:∃x,d[i]? =some x:=⟨_,cf hi⟩;obtain⟨y,aH⟩:∃y,e[i]? =some y:=⟨_,cf hL⟩;have cY:∀h,(d[i]'h)=x:=fun h=>by rw[cf hi]at ae;exact eJ ae
   have eB:∀h,(e[i]'h)=y:=fun h=>by rw[cf hL]at aH;exact eJ aH
   have Af:d.drop i=x::d.drop (i+1):=by rw[kX hi,cY]
   have Ag:e.drop i=y::e.drop (i+1):=by rw[kX hL,eB]
   rw[Af,Ag]at ar;rw[VT]at ar;by_cases a6:x.v=y.v
   ·have o4:ev x.v y.v=0:=(ky.zero _ _).2 a6;have ua:(x.v !=y.v)=false:=by simp[a6]
    rw[if_pos o4]at ar;by_cases bD:et x.t y.t=0
    ·rw[if_pos bD]at ar;have ay:Lo d e (i+1):=⟨Ω,Ω,by rw[bG];exact ar⟩;have iE:=Ik x.t y.t;rw[bD]at iE;clear Af Ag ae aH ar o4;simp[hi,hL,cY,eB];((with_reducible repeat' first|refine aj ?_|refine aD iE ?_|refine aE iE ?_|simp[cY,eB,hi,hL,a6,ua]|((first|apply bJ|apply bM|apply bL)<;>intro h<;>try simp at h))<;>(try exact cc));all_goals exact bQ.whl (i+1) Ω ay bV
    ·rw[if_neg bD]at ar;have iE:=Ik x.t y.t;have yX:(et x.t y.t !=0)=true:=by simp[bD]
     clear Af Ag ae aH o4;simp[hi,hL,cY,eB];(with_reducible repeat' first|refine aj ?_|refine aD iE ?_|refine aE iE ?_|simp[cY,eB,hi,hL,a6,ua,bD,yX]);all_goals simp[bu,D4,aW,aY,aV]
     all_goals exact ar
   ·have o4:¬ev x.v y.v=0:=fun h=>a6 ((ky.zero _ _).1 h);have ua:(x.v !=y.v)=true:=by simp[a6]
    rw[if_neg o4]at ar;have dm:R=if decide (x.v<y.v)=true then-1 else 1:=by rw[<-ar];unfold ev;simp only[e6];(repeat' split)<;>omega
    clear Af Ag ae aH ar o4;rw[dm];simp[hi,hL,cY,eB];(with_reducible repeat' first|refine aj ?_|refine aD (rz _) ?_|refine aE (rz _) ?_|simp[cY,eB,hi,hL,a6,ua]);all_goals simp[bu,D4,aW,aY,aV]
  ·have hle:e.length<d.length:=Ω
   have:(1:Int)=R:=by rw[<-ar,eu,Dx _ _ _ (.inr (List.drop_eq_nil_of_le Ω))];simp only[sZ];unfold ev;(repeat' split)<;>omega
   have cK:¬(d.length:Int)=e.length:=Ω
   have KS:((d.length:Int) !=e.length)=true:=by simp;omega
   have jV:¬(d.length:Int)<e.length:=Ω
   have C0:¬d.length<e.length:=Ω
   have afs:¬d.length=e.length:=Ω
   clear ar;rw[<-this];simp[hi,hL];(with_reducible repeat' first|refine aj ?_|refine aD (rz _) ?_|refine aE (rz _) ?_|simp[hi,hL,cK,KS,jV,C0,afs]);all_goals simp[bu,D4,aW,aY,aV]
   all_goals(try simp[C0])
 ·have eZ:i=d.length:=Ω
  by_cases av:d.length=e.length
  ·have:(0:Int)=R:=by rw[<-ar,eu,Dx _ _ _ (.inl (List.drop_eq_nil_of_le Ω))];simp only[sZ];unfold ev;(repeat' split)<;>omega
   clear ar;rw[<-this];exact cD
  ·have:(-1:Int)=R:=by rw[<-ar,eu,Dx _ _ _ (.inl (List.drop_eq_nil_of_le Ω))];simp only[sZ];unfold ev;(repeat' split)<;>omega
   have cK:¬(d.length:Int)=e.length:=Ω
   have KS:((d.length:Int) !=e.length)=true:=by simp;omega
   have jV:(d.length:Int)<e.length:=Ω
   have C0:d.length<e.length:=Ω
   clear ar;rw[<-this];simp[hi];(with_reducible repeat' first|refine aj ?_|refine aD (rz _) ?_|refine aE (rz _) ?_|simp[hi,cK,KS,jV,C0,av]);all_goals simp[bu,D4,aW,aY,aV]
   all_goals(try simp[C0])
def agE(n:Int)(a b:T)(i:Nat)(_:Unit):Prop:=(1<=i->fm n a=true)/\(2<=i->fm n b=true)
theorem N9(n:Int):∀t:T,bZ az 120 [t.e,.int .i64 n] (.bool (fm n t))
 | .pair a b=>by
  have dM:=N9 n a;have dN:=N9 n b;refine bz sR Cs DQ fun aT=>?_;unfold zJ;simp;refine dW [1,2,8,9] (fun i (_:Unit)=>[(10,.int .i64 i)]) 2 (agE n a b) () bV ⟨fun h=>Ω,fun h=>Ω⟩ (fun _ af _=>?_) (fun i _ hi af _=>?_)
  ·simp;(with_reducible repeat' first|refine aj ?_|simp);simp[bu,xb,aW,aY,aV];simp[fm,af.1,af.2]
  ·rcases(by omega:i=0\/i=1)with rfl|rfl
   ·cases bk:fm n a
    ·rw[bk]at dM;simp;(with_reducible repeat' first|refine aj ?_|refine aD dM ?_|refine aE dM ?_|simp);simp[bu,xb,aW,aY,aV];simp[fm,bk]
    ·rw[bk]at dM;simp;((with_reducible repeat' first|refine aj ?_|refine aD dM ?_|refine aE dM ?_|simp|((first|apply bJ|apply bM|apply bL)<;>intro h<;>try simp at h))<;>(try exact cc));exact bQ.rng () hi ⟨fun _=>bk,fun h=>Ω⟩ bV
   ·cases ab:fm n b
    ·rw[ab]at dN;simp;((with_reducible repeat' first|refine aj ?_|refine aD dN ?_|refine aE dN ?_|simp|((first|apply bJ|apply bM|apply bL)<;>intro h<;>try simp at h))<;>(try exact cc));simp[bu,xb,aW,aY,aV];simp[fm,ab]
    ·rw[ab]at dN;simp;((with_reducible repeat' first|refine aj ?_|refine aD dN ?_|refine aE dN ?_|simp|((first|apply bJ|apply bM|apply bL)<;>intro h<;>try simp at h))<;>(try exact cc));exact bQ.rng () hi ⟨fun _=>af.1 Ω,fun _=>ab⟩ bV
 | .sym v=>by
  refine bz sR Cs DQ fun aT=>?_;unfold zJ;simp;refine dW [1,2,8,9] (fun i (_:Unit)=>[(10,.int .i64 i)]) 0 (fun i _=>True) () bV trivial (fun _ af _=>?_) (fun i _ hi af _=>Ω);simp;((with_reducible repeat' first|refine aj ?_|simp|((first|apply bJ|apply bM|apply bL)<;>intro h<;>try simp at h))<;>(try exact cc));all_goals simp[bu,xb,aW,aY,aV]
  all_goals simp[fm]
 | .num v=>by
  refine bz sR Cs DQ fun aT=>?_;unfold zJ;simp;refine dW [1,2,8,9] (fun i (_:Unit)=>[(10,.int .i64 i)]) 0 (fun i _=>True) () bV trivial (fun _ af _=>?_) (fun i _ hi af _=>Ω);simp;(with_reducible repeat' first|refine aj ?_|simp);all_goals simp[bu,xb,aW,aY,aV]
  all_goals simp[fm]
 | .var v=>by
  refine bz sR Cs DQ fun aT=>?_;unfold zJ;simp;refine dW [1,2,8,9] (fun i (_:Unit)=>[(10,.int .i64 i)]) 0 (fun i _=>True) () bV trivial (fun _ af _=>?_) (fun i _ hi af _=>Ω);simp;(with_reducible repeat' first|refine aj ?_|simp);all_goals simp[bu,xb,aW,aY,aV]
  all_goals simp[fm]
 | .nil=>by
  refine bz sR Cs DQ fun aT=>?_;unfold zJ;simp;refine dW [1,2,8,9] (fun i (_:Unit)=>[(10,.int .i64 i)]) 0 (fun i _=>True) () bV trivial (fun _ af _=>?_) (fun i _ hi af _=>Ω);simp;(with_reducible repeat' first|refine aj ?_|simp);all_goals simp[bu,xb,aW,aY,aV]
  all_goals simp[fm]
theorem Yo(s:List ak)(n:Int):bZ az 72 [.slice 5 .no (s.map ak.e),.int .i64 n] (.bool (s.all (k0 n))):=by
 generalize bG:s.all (k0 n)=R;refine bz sR ac3 ajH fun aT=>?_;unfold Ra;have ir:s.length<=68719476736:=by simp[gS,gg,gE,lim]at aT;omega
 simp;refine dW [1,7,8] (fun i (_:Unit)=>[(9,.int .i64 i)]) s.length (kM (k0 n) s) () bV (fun k b ad=>Ω) (fun _ af _=>?_) (fun i _ hi af _=>?_)
 ·have:R=true:=by rw[<-bG,fM];intro b ab;obtain⟨k,ad,e⟩:=nX ab;exact af k b ad (by rw[cf ad,e])
  rw[this];exact cD
 ·obtain⟨b,aC,gi⟩:=ec hi;have e1:k0 n b=false->R=false:=fun h=>by rw[<-bG,Bool.eq_false_iff];intro b4;rw[fM]at b4;rw[b4 b (ed aC)]at h;cases h
  have lU:=N9 n b.t;by_cases J:b.v<n
  ·have oa:¬n<=b.v:=Ω
   cases U:fm n b.t
   ·rw[e1 (by simp[k0,U])];rw[U]at lU;clear af aC;exact cD
   ·have ay:=af.step aC (by simp[k0,J,U]);rw[U]at lU;clear af aC;exact gN
  ·have oa:n<=b.v:=Ω
   rw[e1 (by simp[k0,J])];clear af aC;exact cD
theorem amR(l:List (List dF)):bZ az 69 [.slice 1 .no (l.map lJ)] (.bool (l.all gz)):=by
 generalize bG:l.all gz=R;refine bz sR acV ajz fun aT=>?_;unfold Q2;have ir:l.length<=68719476736:=by simp[gS,gg,gE,lim]at aT;omega
 simp;refine dW [5,6] (fun i (_:Unit)=>[(7,.int .i64 i)]) l.length (kM gz l) () bV (fun k b ad=>Ω) (fun _ af _=>?_) (fun i _ hi af _=>?_)
 ·have:R=true:=by rw[<-bG,fM];intro b ab;obtain⟨k,ad,e⟩:=nX ab;exact af k b ad (by rw[cf ad,e])
  rw[this];exact cD
 ·obtain⟨b,aC,gi⟩:=ec hi;have c7:bZ az 68 [lJ b] (.bool (gz b)):=Oa b;cases ab:gz b
  ·have:R=false:=by rw[<-bG,Bool.eq_false_iff];intro b4;rw[fM]at b4;rw[b4 b (ed aC)]at ab;cases ab
   rw[this];rw[ab]at c7;clear af aC;exact cD
  ·have ay:=af.step aC ab;rw[ab]at c7;clear af aC;exact gN
theorem Rt(a:List (List ak))(k:Nat)(m:List ak):pj k (a.map cM)++cM m::List.drop k (a.map cM)=(a.take k++m::a.drop k).map cM:=by simp
theorem qT(a:List (List ak))(k:Nat)(m:List ak):dv (pj k (a.map cM)++cM m::List.drop k (a.map cM))=pj k (a.map cM)++cM m::List.drop k (a.map cM):=by rw[Rt,NI]
theorem qS(S:aL->Prop)(a:List (List ak))(k:Nat)(m:List ak):aP S (pj k (a.map cM)++cM m::List.drop k (a.map cM))=True:=by rw[Rt,UC]
theorem Jy(a:List (List ak))(m:List ak):a.map cM++[cM m]=(a++[m]).map cM:=by simp
theorem p7(a:List (List ak))(m:List ak):dv (a.map cM++[cM m])=a.map cM++[cM m]:=by rw[Jy,NI]
theorem qR(S:aL->Prop)(a:List (List ak))(m:List ak):aP S (a.map cM++[cM m])=True:=by rw[Jy,UC]
theorem Ym(L:List (List ak))(h0:∀d∈L,eN d):bZ az 124 [.slice 1 .no (L.map cM)] (.slice 1 .no ((jY L).map cM)):=by
 generalize bG:jY L=R;rw[ahy]at bG;refine bz sR acY ajC fun aT=>?_;unfold Q5;have ir:L.length<=68719476736:=by simp[gS,gg,gE,lim]at aT;omega
 simp;refine dW [0,12,13] (fun i (a:List (List ak))=>[(3,.slice 1 .no (a.map cM)),(14,.int .i64 i)]) L.length (yB L) [] bV (by simp[yB]) (fun a af _=>?_) (fun i a hi af _=>?_)
 ·rw[yB,l6,bG]at af;subst af;exact cD
 ·obtain⟨e,he,KB⟩:=ec hi;have r3:hF eu a:=by rw[af];exact L8 _ (by simp[hF])
  have mf:a.length<=i:=by have:=Vh (L:=L) (L.take i) [];rw[af];simp at this⊢;omega
  have fu:=af.step he;have lP:=h0 e (ed he);have bp:∀d,bZ az 125 [cM d,cM e] (.int .i64 (eu d e)):=fun d=>N5 d e;clear af he;simp[hi,KB];(with_reducible repeat' first|refine aj ?_|simp[hi,KB]);refine dW [0,3,5,12,13,14,18,19] (fun j (b:Bool)=>[(6,.bool b),(20,.int .i64 j)]) L.length (qn L e) true bV (by simp[qn]) (fun keep af _=>?_) (fun j keep dZ af _=>?_)
  ·rw[qn,l6]at af;have Tk:keep=iY L e:=af;rw[qw,<-Tk]at fu;clear af Tk;simp;(with_reducible repeat' first|refine aj ?_|simp);refine v7 [0,3,5,6,12,13,14] (fun(k:Nat)=>[(9,.int .i64 k)]) (fun k=>k) (GA a e) a.length bV ⟨Ω,fun c h=>by simp at h⟩ (fun k af _=>?_);have ad:=af.1;rcases Nat.eq_zero_or_pos k with bE|fA
   ·have bf:decide ((0:Int)<k)=false:=by simp;omega
    have sn:¬(0:Int)<k:=Ω
    have dG:=af.fin r3 fun d h=>Ω
    clear af r3;cases keep with
    |false=>simp only[gO,if_false]at fu;clear dG;exact gN
    |true=>
     simp only[if_true]at fu;by_cases hz:k<a.length
     ·obtain⟨c,aq,iS⟩:=ec hz;rw[aq]at dG;by_cases q:eu c e=0
      ·rw[if_pos (by simp[q])]at dG;rw[dG]at fu;clear dG aq;simp[hz,iS,bf,sn];((with_reducible repeat' first|refine aj ?_|refine aD (bp _) ?_|refine aE (bp _) ?_|simp[hz,iS,q,bf,sn]|((first|apply bJ|apply bM|apply bL)<;>intro h<;>try simp at h))<;>(try exact cc));all_goals exact bQ.rng a hi fu bV
      ·rw[if_neg (by simp[q])]at dG;have ga:(eu c e !=0)=true:=by simp[q]
       rw[dG]at fu;clear dG aq;simp[hz,iS,bf,sn];((with_reducible repeat' first|refine aj ?_|refine aD (bp _) ?_|refine aE (bp _) ?_|simp[hz,iS,q,ga,bf,sn]|((first|apply bJ|apply bM|apply bL)<;>intro h<;>try simp at h))<;>(try exact cc));all_goals first|(refine⟨by unfold lim;omega,?_⟩)|skip
       all_goals(with_reducible repeat' first|refine aj ?_|simp)
       all_goals first|(refine⟨by unfold lim;omega,?_⟩)|skip
       all_goals((with_reducible repeat' first|refine aj ?_|simp|((first|apply bJ|apply bM|apply bL)<;>intro h<;>try simp at h))<;>(try exact cc))
       all_goals exact bQ.rng _ hi fu ⟨by simp[fresh,aP,aG,cn,inObs,Pv.look,hx,qT,qS,p7,qR],en (by simp[fresh,aP,aG,cn,inObs,Pv.look,hx,qT,qS,p7,qR]),eo (by simp[fresh,aP,aG,dV,inObs,Pv.look,hx,qT,qS,p7,qR]),Ψ⟩
     ·rw[qF Ω]at dG;simp only[gO,if_false]at dG;rw[dG]at fu;have hM:k=a.length:=Ω
      have qe:a.take k++e::a.drop k=a++[e]:=by rw[hM];simp
      rw[qe]at fu;clear dG qe;simp[hz,bf,sn];((with_reducible repeat' first|refine aj ?_|refine aD (bp _) ?_|refine aE (bp _) ?_|simp[hz,hM,bf,sn]|((first|apply bJ|apply bM|apply bL)<;>intro h<;>try simp at h))<;>(try exact cc));all_goals first|(refine⟨by unfold lim;omega,?_⟩)|skip
      all_goals(with_reducible repeat' first|refine aj ?_|simp)
      all_goals first|(refine⟨by unfold lim;omega,?_⟩)|skip
      all_goals((with_reducible repeat' first|refine aj ?_|simp|((first|apply bJ|apply bM|apply bL)<;>intro h<;>try simp at h))<;>(try exact cc))
      all_goals exact bQ.rng _ hi fu ⟨by simp[fresh,aP,aG,cn,inObs,Pv.look,hx,qT,qS,p7,qR],en (by simp[fresh,aP,aG,cn,inObs,Pv.look,hx,qT,qS,p7,qR]),eo (by simp[fresh,aP,aG,dV,inObs,Pv.look,hx,qT,qS,p7,qR]),Ψ⟩
   ·obtain⟨d,aN⟩:∃d,a[k-1]? =some d:=⟨_,cf Ω⟩;have ao:((k:Int)-1).toNat=k-1:=Ω
    have aF:∀h,(a[k-1]'h)=d:=fun h=>by rw[cf h]at aN;exact eJ aN
    have iV:(0:Int)<k:=Ω
    have mj:k-1<a.length:=Ω
    by_cases ab:0<=eu d e
    ·have ag:GA a e (k-1):=⟨Ω,fun c aq=>by rw[aN]at aq;cases aq;exact ab⟩;clear af r3 fu aN;simp[fA,iV,ao,aF,ab,mj];((with_reducible repeat' first|refine aj ?_|refine aD (bp _) ?_|refine aE (bp _) ?_|simp[fA,iV,ao,aF,ab,mj]|((first|apply bJ|apply bM|apply bL)<;>intro h<;>try simp at h))<;>(try exact cc));refine bQ.whl (k-1) Ω ag ?_;have bA:((k-1:Nat):Int)=(k:Int)-1:=Ω
     simp[bA];exact bV
    ·have dG:=af.fin r3 fun cl _ lp=>by rw[aN]at lp;cases lp;omega
     clear af r3 aN;cases keep with
     |false=>simp only[gO,if_false]at fu;clear dG;simp[fA,iV,ao,aF,ab,mj];(with_reducible repeat' first|refine aj ?_|refine aD (bp _) ?_|refine aE (bp _) ?_|simp[fA,iV,ao,aF,ab,mj]);all_goals exact bQ.rng a hi fu bV
     |true=>
      simp only[if_true]at fu;by_cases hz:k<a.length
      ·obtain⟨c,aq,iS⟩:=ec hz;rw[aq]at dG;by_cases q:eu c e=0
       ·rw[if_pos (by simp[q])]at dG;rw[dG]at fu;clear dG aq;simp[hz,iS,fA,iV,ao,aF,ab,mj];((with_reducible repeat' first|refine aj ?_|refine aD (bp _) ?_|refine aE (bp _) ?_|simp[hz,iS,q,fA,iV,ao,aF,ab,mj]|((first|apply bJ|apply bM|apply bL)<;>intro h<;>try simp at h))<;>(try exact cc));all_goals exact bQ.rng a hi fu bV
       ·rw[if_neg (by simp[q])]at dG;have ga:(eu c e !=0)=true:=by simp[q]
        rw[dG]at fu;clear dG aq;simp[hz,iS,fA,iV,ao,aF,ab,mj];((with_reducible repeat' first|refine aj ?_|refine aD (bp _) ?_|refine aE (bp _) ?_|simp[hz,iS,q,ga,fA,iV,ao,aF,ab,mj]|((first|apply bJ|apply bM|apply bL)<;>intro h<;>try simp at h))<;>(try exact cc));all_goals first|(refine⟨by unfold lim;omega,?_⟩)|skip
        all_goals(with_reducible repeat' first|refine aj ?_|simp)
        all_goals first|(refine⟨by unfold lim;omega,?_⟩)|skip
        all_goals((with_reducible repeat' first|refine aj ?_|simp|((first|apply bJ|apply bM|apply bL)<;>intro h<;>try simp at h))<;>(try exact cc))
        all_goals exact bQ.rng _ hi fu ⟨by simp[fresh,aP,aG,cn,inObs,Pv.look,hx,qT,qS,p7,qR],en (by simp[fresh,aP,aG,cn,inObs,Pv.look,hx,qT,qS,p7,qR]),eo (by simp[fresh,aP,aG,dV,inObs,Pv.look,hx,qT,qS,p7,qR]),Ψ⟩
      ·rw[qF Ω]at dG;simp only[gO,if_false]at dG;rw[dG]at fu;have hM:k=a.length:=Ω
       have qe:a.take k++e::a.drop k=a++[e]:=by rw[hM];simp
       rw[qe]at fu;clear dG qe;simp[hz,fA,iV,ao,aF,ab,mj];((with_reducible repeat' first|refine aj ?_|refine aD (bp _) ?_|refine aE (bp _) ?_|simp[hz,hM,fA,iV,ao,aF,ab,mj]|((first|apply bJ|apply bM|apply bL)<;>intro h<;>try simp at h))<;>(try exact cc));all_goals first|(refine⟨by unfold lim;omega,?_⟩)|skip
       all_goals(with_reducible repeat' first|refine aj ?_|simp)
       all_goals first|(refine⟨by unfold lim;omega,?_⟩)|skip
       all_goals(with_reducible repeat' first|refine aj ?_|simp)
       all_goals exact bQ.rng _ hi fu ⟨by simp[fresh,aP,aG,cn,inObs,Pv.look,hx,qT,qS,p7,qR],en (by simp[fresh,aP,aG,cn,inObs,Pv.look,hx,qT,qS,p7,qR]),eo (by simp[fresh,aP,aG,dV,inObs,Pv.look,hx,qT,qS,p7,qR]),Ψ⟩
  ·obtain⟨d,aN,hdi⟩:=ec dZ;have ay:=af.step aN;have iX:=h0 d (ed aN);have ea:bZ az 157 [cM d,cM e] (.bool (nJ d e)):=amw iX lP;clear af aN fu r3;cases keep with
   |false=>simp only[Bool.false_and]at ay;exact gN
   |true=>
    simp only[Bool.true_and,wT]at ay;by_cases q:eu d e=0
    ·rw[gD ((lX.zero _ _).1 q),Bool.true_or]at ay;simp[dZ,hdi];(with_reducible repeat' first|refine aj ?_|refine aD (bp _) ?_|refine aE (bp _) ?_|simp[dZ,hdi,q]);all_goals exact bQ.rng true dZ ay bV
    ·rw[ij (fun h=>q ((lX.zero _ _).2 h)),Bool.false_or]at ay;have ga:(eu d e==0)=false:=by simp[q]
     cases aX:nJ d e
     ·rw[aX]at ay ea;simp[dZ,hdi];(with_reducible repeat' first|refine aj ?_|refine aD (bp _) ?_|refine aE (bp _) ?_|refine aD ea ?_|refine aE ea ?_|simp[dZ,hdi,q,ga]);all_goals exact bQ.rng true dZ ay bV
     ·rw[aX]at ay ea;simp[dZ,hdi];(with_reducible repeat' first|refine aj ?_|refine aD (bp _) ?_|refine aE (bp _) ?_|refine aD ea ?_|refine aE ea ?_|simp[dZ,hdi,q,ga]);all_goals exact bQ.rng false dZ ay bV
def vW:C:=(aa [c8 1 0,bq 2 false] (.seq (aa [aI 11 0 1 1,aw 12 1 11,dj 13 67 [.t 12,(eF 0),(eF 100000)],cJ 14 13,I 15 14,au 15 false (aI 16 1 1 1),au 15 false (aw 17 1 16),au 15 false (cR 18 68 17),au 15 false (cJ 19 18),c6 20 15 19,I 21 20,au 21 false (aI 22 2 1 1),au 21 false (aw 23 1 22),au 21 false (cR 24 69 23),au 21 false (cJ 25 24),c6 26 21 25,I 27 26,au 27 false (aI 28 3 1 1),au 27 false (aw 29 1 28),au 27 false (cR 30 70 29),au 27 false (cJ 31 30),c6 32 27 31,I 33 32,au 33 false (aI 34 4 1 1),au 33 false (aw 35 1 34),au 33 false (cR 36 71 35),au 33 false (cJ 37 36),c6 38 33 37,I 39 38,au 39 false (aI 40 1 1 1),au 39 false (aw 41 1 40),au 39 false (aI 42 0 1 1),au 39 false (aw 43 1 42),au 39 false (ch 44 72 41 43),au 39 false (cJ 45 44),c6 46 39 45] (aZ 46 (aa [bq 2 false] .ret) .skip)) (.seq (aa [aI 47 2 1 1,aw 48 1 47,cz 49 48,cd 50 0] (e5 51 50 49 (.seq (.block 1 (aa [cy 52 1 48 50,aw 53 1 52,I 4 53] (aa [I 54 4,aI 55 0 1 1,aw 56 1 55,ch 57 72 54 56,cJ 58 57] (aZ 58 (aa [bq 2 false] .ret) .skip)))) (.region [aS 59 .add 50 1,I 50 59])))) (.seq (aa [aI 60 3 1 1,aw 61 1 60,cz 62 61,cd 63 0] (.block 2 (.loop (aa [br 64 .lss 63 62] (.seq (aZ 64 .skip (.exit 2)) (.seq (.block 3 (aa [cy 65 2 61 63,a7 66 2 65,cN (.alloc 6 none (.agg [.int .i64 0,.int .i64 0])),bN 2 6 66] (aa [aI 67 0 1 6,aw 68 1 67,aI 69 0 1 1,aw 70 1 69,br 71 .geq 68 70] (aZ 71 (aa [bq 2 false] .ret) .skip)))) (.region [aS 72 .add 63 1,I 63 72]))))))) (.seq (aa [aI 73 4 1 1,aw 74 1 73,cz 75 74,cd 76 0] (.block 4 (.loop (aa [br 77 .lss 76 75] (.seq (aZ 77 .skip (.exit 4)) (.seq (.block 5 (aa [cy 78 2 74 76,a7 79 2 78,cN (.alloc 8 none (.agg [.int .i64 0,.str []])),bN 2 8 79] (aa [aI 80 0 1 8,aw 81 1 80,aI 82 0 1 1,aw 83 1 82,br 84 .geq 81 83] (aZ 84 (aa [bq 2 false] .ret) .skip)))) (.region [aS 85 .add 76 1,I 76 85]))))))) (aa [a7 87 5 1,cR 88 73 87,I 86 88,cC 89 0 86,cC 90 1 86,c1 9 kR,bN 5 9 89,I 10 90] (aa [I 91 10,I 92 91,au 92 true (a7 93 5 9),au 92 true (a7 94 5 1),au 92 true (ch 95 74 93 94),dq 96 92 95,I 2 96] .ret)))))))
@[simp] def akH:List bX:=[.tmp 2]
def Fq:C:=(aa [c8 1 0,c1 2 kR,bq 3 false] (aa [aI 20 1 1 1,aw 21 1 20,aI 22 3 1 1,aw 23 1 22,ch 24 121 21 23,I 19 24,cC 25 0 19,cC 26 1 19,I 4 25,I 5 26] (aa [aI 28 1 1 1,aw 29 1 28,aI 30 4 1 1,aw 31 1 30,ch 32 122 29 31,I 27 32,cC 33 0 27,cC 34 1 27,I 6 33,I 7 34] (.seq (aa [I 35 5,cJ 36 35,I 37 36,bW 37 false 38 7,au 37 false (cJ 39 38),c6 40 37 39] (aZ 40 (aa [hD 41 kR [],bN 5 2 41,bq 3 false] .ret) .skip)) (aa [aI 42 0 1 1,aw 43 1 42,aI 44 1 1 1,aw 45 1 44,I 46 4,hD 47 kR [(0,1,(.t 43)),(1,1,(.t 45)),(3,1,(.t 46))],c1 8 kR,bN 5 8 47] (.seq (aa [I 48 6,cz 49 48,cd 50 0] (e5 51 50 49 (.seq (.block 1 (aa [cy 52 2 48 50,a7 53 2 52,cN (.alloc 10 none (.agg [.int .i64 0,.str []])),bN 2 10 53] (aa [I 55 4,aI 56 0 1 10,aw 57 1 56,cR 58 84 57,dj 59 103 [.t 55,.t 58,(eF 2)],I 54 59,cC 60 0 54,cC 61 1 54,I 11 60,I 12 61] (aa [I 62 12] (aZ 62 (.region [aI 63 4 1 8,aw 64 1 63,a7 65 2 10,eE 66 2 56 [.t 65],hj 67 2 56 64 66,aI 68 4 1 8,bN 1 68 67]) .skip))))) (.region [aS 69 .add 50 1,I 50 69])))) (aa [eE 70 1 23 [],I 13 70] (.seq (aa [aI 71 2 1 1,aw 72 1 71,cz 73 72,cd 74 0] (.block 2 (.loop (aa [br 75 .lss 74 73] (.seq (aZ 75 .skip (.exit 2)) (.seq (.block 3 (aa [cy 76 1 72 74,aw 77 1 76,I 15 77] (aa [aI 79 1 1 1,aw 80 1 79,I 81 15,ch 82 123 80 81,I 78 82,cC 83 0 78,cC 84 1 78,I 16 83,I 17 84] (.seq (aa [I 85 17] (aZ 85 (aa [I 87 16,aI 88 3 1 8,aw 89 1 88,ch 90 121 87 89,I 86 90,cC 91 0 86,cC 92 1 86,I 5 92] (.region [I 94 16,aI 95 4 1 8,aw 96 1 95,ch 97 122 94 96,I 93 97,cC 98 0 93,cC 99 1 93,I 7 99])) .skip)) (.seq (aa [I 100 17,cJ 101 100,I 102 101,bW 102 false 103 5,au 102 false (cJ 104 103),c6 105 102 104,I 106 105,bW 106 false 107 7,au 106 false (cJ 108 107),c6 109 106 108] (aZ 109 (aa [bq 5 true] (aa [bq 7 true] (.exit 3))) .skip)) (aa [aI 110 1 1 1,aw 111 1 110,I 112 16,ch 113 102 111 112,I 18 113] (.seq (aa [I 114 18,cz 115 114,aS 116 .eql 115 0] (aZ 116 (aa [hD 117 kR [],bN 5 2 117,bq 3 false] .ret) .skip)) (.region [I 118 13,I 119 18,eE 120 1 23 [.t 119],hj 121 1 23 118 120,I 13 121])))))))) (.region [aS 122 .add 74 1,I 74 122]))))))) (aa [I 123 13,cR 124 124 123,aI 125 2 1 8,bN 1 125 124] (.seq (.fz true 8 (.drawn true 131 [bR 126 (.loadZ true 5 (.t 8)),aI 127 2 1 8,bR 128 (.loadZ false 1 (.t 127)),cz 129 128,aS 130 .leq 129 30,bN 5 2 126,I 3 130])) .ret))))))))))
@[simp] def vx:List bX:=[.cell 2 true 5,.tmp 3]
def xU:C:=(aa [c8 2 0,c8 3 1,bq 4 false] (.seq (aa [aI 11 0 1 2,aw 12 1 11,aI 13 0 1 3,aw 14 1 13,br 15 .neq 12 14,I 16 15,au 16 false (aI 17 1 1 2),au 16 false (aw 18 1 17),au 16 false (aI 19 1 1 3),au 16 false (aw 20 1 19),au 16 false (ch 21 125 18 20),au 16 false (aS 22 .neq 21 0),c6 23 16 22,I 24 23,au 24 false (aI 25 2 1 2),au 24 false (aw 26 1 25),au 24 false (cz 27 26),au 24 false (aI 28 2 1 3),au 24 false (aw 29 1 28),au 24 false (cz 30 29),au 24 false (br 31 .neq 27 30),c6 32 24 31,I 33 32,au 33 false (aI 34 3 1 2),au 33 false (aw 35 1 34),au 33 false (cz 36 35),au 33 false (aI 37 3 1 3),au 33 false (aw 38 1 37),au 33 false (cz 39 38),au 33 false (br 40 .neq 36 39),c6 41 33 40,I 42 41,au 42 false (aI 43 4 1 2),au 42 false (aw 44 1 43),au 42 false (cz 45 44),au 42 false (aI 46 4 1 3),au 42 false (aw 47 1 46),au 42 false (cz 48 47),au 42 false (br 49 .neq 45 48),c6 50 42 49] (aZ 50 (aa [bq 4 false] .ret) .skip)) (.seq (aa [aI 51 2 1 2,aw 52 1 51,cz 53 52,cd 54 0] (e5 55 54 53 (.seq (.block 1 (aa [I 56 54,cy 57 1 52 54,aw 58 1 57,I 5 56,I 6 58] (aa [I 59 6,aI 60 2 1 3,aw 61 1 60,I 62 5,cy 63 1 61 62,aw 64 1 63,ch 65 125 59 64,aS 66 .neq 65 0] (aZ 66 (aa [bq 4 false] .ret) .skip)))) (.region [aS 67 .add 54 1,I 54 67])))) (.seq (aa [aI 68 3 1 2,aw 69 1 68,cz 70 69,cd 71 0] (.block 2 (.loop (aa [br 72 .lss 71 70] (.seq (aZ 72 .skip (.exit 2)) (.seq (.block 3 (aa [I 73 71,cy 74 2 69 71,a7 75 2 74,cN (.alloc 8 none (.agg [.int .i64 0,.int .i64 0])),I 7 73,bN 2 8 75] (.seq (.drawn true 100 [a7 76 2 8,aI 77 3 1 3,aw 78 1 77,I 79 7,cy 80 2 78 79,a7 81 2 80,bR 82 (.beq true (some [false,false]) (.t 76) (.t 81))]) (aZ 82 (aa [bq 4 false] .ret) .skip)))) (.region [aS 83 .add 71 1,I 71 83]))))))) (.seq (aa [aI 84 4 1 2,aw 85 1 84,cz 86 85,cd 87 0] (.block 4 (.loop (aa [br 88 .lss 87 86] (.seq (aZ 88 .skip (.exit 4)) (.seq (.block 5 (aa [I 89 87,cy 90 2 85 87,a7 91 2 90,cN (.alloc 10 none (.agg [.int .i64 0,.str []])),I 9 89,bN 2 10 91] (.seq (.drawn true 100 [a7 92 2 10,aI 93 4 1 3,aw 94 1 93,I 95 9,cy 96 2 94 95,a7 97 2 96,bR 98 (.beq true (some [false,true]) (.t 92) (.t 97))]) (aZ 98 (aa [bq 4 false] .ret) .skip)))) (.region [aS 99 .add 87 1,I 87 99]))))))) (aa [bq 4 true] .ret))))))
@[simp] def HE:List bX:=[.tmp 4]
def Ig:List (Nat×dz):=[
 (3,⟨1,8,.int .i64,.int .i64 0⟩),
 (9,⟨1,16,.str,.str []⟩),
 (23,⟨1,24,.slice 54,.slice 5 .nil []⟩),
 (24,⟨1,24,.slice 23,.slice 1 .nil []⟩),
 (25,⟨1,24,.slice 59,.slice 2 .nil []⟩),
 (26,⟨1,24,.slice 56,.slice 2 .nil []⟩),
 (28,⟨5,104,.struct [(0,3),(1,23),(2,24),(3,25),(4,26)],.agg [.int .i64 0,.slice 5 .nil [],.slice 1 .nil [],.slice 2 .nil [],.slice 2 .nil []]⟩),
 (56,⟨2,24,.struct [(0,3),(1,9)],.agg [.int .i64 0,.str []]⟩),
 (59,⟨2,16,.struct [(0,3),(1,3)],.agg [.int .i64 0,.int .i64 0]⟩)]
theorem oA:fI az Ig=true:=by kernel_rfl
theorem yU:b7 Ig vW akH 1 Tryz.f31=true:=by kernel_rfl
theorem xY:az.funcs[(31:Nat)]? =some Tryz.f31:=Tryz.func31
theorem Ms:b7 Ig Fq vx 1 Tryz.f73=true:=by kernel_rfl
theorem J2:az.funcs[(73:Nat)]? =some Tryz.f73:=Tryz.func73
theorem Bb:b7 Ig xU HE 2 Tryz.f74=true:=by kernel_rfl
theorem zT:az.funcs[(74:Nat)]? =some Tryz.f74:=Tryz.func74
noncomputable def pX(s:bP):ai:= .tuple [(sK s).e,.bool (gq s).isSome]
theorem amU{k:List b6}(ad:gT k)(v:Int):bZ az 103 [.slice 2 .no (k.map b6.e),(T.var v).e,.int .i64 2] (nQ k (jk k (.var v) 2)):=N6 k (by have:=q6 ad;omega) ad.asc (.var v) 2
theorem N3{b y:List ak}(ab:eN b)(aH:eN y):bZ az 102 [.slice 5 .no (b.map ak.e),.slice 5 .no (y.map ak.e)] (cM (eG b y)):=amP ab aH
theorem Yl{b x:List ak}(ab:eN b)(ae:eN x):bZ az 123 [.slice 5 .no (b.map ak.e),cM x] (fH (mgu b (gY x))):=amO b x ab.sol ab.fits ae.len
def LV(a:List bo):ai:=match a with
 |[]=>.slice 2 .nil []
 |_::_=>.slice 2 (.own (.loc 5)) (a.map bo.e)
def LU(a:List bo):List (aL×fN):=match a with
 |[]=>[]
 |_::_=>[(.loc 5,⟨a.length,56,2,none⟩)]
def LS(a:List bo):Nat:=match a with
 |[]=>3
 |_::_=>6
@[simp]theorem aqz:LV []= .slice 2 .nil []:=rfl
@[simp]theorem aqy(x:bo)(a:List bo):LV (x::a)= .slice 2 (.own (.loc 5)) (x.e::a.map bo.e):=rfl
@[simp]theorem aqx:LU []=[]:=rfl
@[simp]theorem aqw(x:bo)(a:List bo):LU (x::a)=[(.loc 5,⟨a.length+1,56,2,none⟩)]:=rfl
@[simp]theorem aqv:LS []=3:=rfl
@[simp]theorem aqu(x:bo)(a:List bo):LS (x::a)=6:=rfl
theorem BN{s:bP}(h:hW s){G:List (List UInt8)}(jS:G.length<=687000)(aX:kU G s.m):bZ az 73 [s.e] (pX s):=by
 unfold pX;generalize dk:gq s=O;generalize dm:sK s=SS;have kO:=N7 h.b h.k;have kP:=N8 h.b h.m jS aX;have kv:=fun k=>HH (acc:=[]) (a:=k) h.b h.k.at' ⟨Ψ,Ψ⟩;have qx:=fun m=>D5 (acc:=[]) (a:=m) h.b h.m.at' ⟨Ψ,by simp[hF]⟩;have nx:=fun m=>HJ (acc:=[]) (a:=m) (s:=s.b) aX (fun x ae=>by simp at ae);have ab:=h.b;have aN:=h.d;clear h aX;unfold gq at dk;unfold sK at dm;obtain⟨n,b,d,hb,m0⟩:=s;simp only at kO kP kv qx nx ab aN dk dm;have e8:=ab.len;simp only[bP.e];generalize fU b hb []=ok at kO dk dm kv;generalize fQ b m0 []=om at kP dk dm qx nx;cases ok with
 |none=>
  simp only at dk dm;subst dk;subst dm;simp only[gb]at kO;simp only[iF]at kP;clear kv qx nx;refine bz oA J2 Ms fun aT=>?_;unfold Fq;simp;(with_reducible repeat' first|refine aj ?_|refine aD kO ?_|refine aE kO ?_|refine aD kP ?_|refine aE kP ?_|simp);all_goals simp[bu,vx,aW,aY,aV]
  all_goals simp[iI,bP.e]
 |some k=>
  simp only at dk dm;cases om with
  |none=>
   simp only at dk dm;subst dk;subst dm;simp only[gb]at kO;simp only[iF]at kP;clear kv qx nx;refine bz oA J2 Ms fun aT=>?_;unfold Fq;simp;(with_reducible repeat' first|refine aj ?_|refine aD kO ?_|refine aE kO ?_|refine aD kP ?_|refine aE kP ?_|simp);all_goals simp[bu,vx,aW,aY,aV]
   all_goals simp[iI,bP.e]
  |some m=>
   simp only at dk dm;have wu:=kv k rfl;have yl:=qx m rfl;have ye:=nx m rfl;have lq:m.length<=68719470000:=by have:=DC yl ye;omega
   have Am:=UW (k:=k) yl;have Ah:=NL (k:=k) ye;simp only[gb,jL,oG]at kO;simp only[iF,jL,oG]at kP;clear kv qx nx;refine bz oA J2 Ms fun aT=>?_;unfold Fq;have tw:d.length<=68719476736:=by simp[gS,gg,gE,lim]at aT;omega
   clear aT;simp;(with_reducible repeat' first|refine aj ?_|refine aD kO ?_|refine aE kO ?_|refine aD kP ?_|refine aE kP ?_|simp);refine hQ (fun i (a:List bo)=>⟨[(1,.ptr (.loc 0) 0),(2,.ptr (.loc 1) 0),(4,.slice 2 .no (k.map b6.e)),(8,.ptr (.loc 2) 0),(48,.slice 2 .no (m.map bo.e)),(49,.int .i64 m.length),(50,.int .i64 i)],[(.loc 0,[.int .i64 n,.slice 5 .no (b.map ak.e),.slice 1 .no (d.map cM),.slice 2 .no (hb.map b6.e),.slice 2 .no (m0.map bo.e)]),(.loc 1,[.int .i64 0,.slice 5 .nil [],.slice 1 .nil [],.slice 2 .nil [],.slice 2 .nil []]),(.loc 2,[.int .i64 n,.slice 5 .no (b.map ak.e),.slice 1 .nil [],.slice 2 .no (k.map b6.e),LV a])],LU a,LS a,[]⟩) m.length (tK k m) [] bV (by simp[tK]) (fun a af _=>?_) (fun i a hi af _=>?_);rotate_left
   ·obtain⟨x,ae,cY⟩:=ec hi;have mf:a.length<=68719470000:=by
     have:a.length<=(m.take i).length:=by rw[af];exact List.length_filter_le _ _
     simp at this;omega
    have ay:=af.step ae;have jF:=amU wu x.v;have bF:(jk k (.var x.v) 2).isSome=jG k x:=Ze wu x.v;simp only[nQ,bF]at jF;clear bF;generalize (jk k (.var x.v) 2).getD k=kz at jF;cases aR:jG k x
    ·rw[aR]at ay jF;simp only[gO,if_false]at ay;clear af ae aR;cases a with
     |nil=>simp[hi,cY];(with_reducible repeat' first|refine aj ?_|refine aD (km _) ?_|refine aE (km _) ?_|refine aD jF ?_|refine aE jF ?_|simp[hi,cY]);all_goals exact bQ.rng [] hi ay bV
     |cons y ys=>simp[hi,cY];(with_reducible repeat' first|refine aj ?_|refine aD (km _) ?_|refine aE (km _) ?_|refine aD jF ?_|refine aE jF ?_|simp[hi,cY]);all_goals exact bQ.rng (y::ys) hi ay bV
    ·rw[aR]at ay jF;simp only[if_true]at ay;clear af ae aR;cases a with
     |nil=>
      simp[hi,cY];(with_reducible repeat' first|refine aj ?_|refine aD (km _) ?_|refine aE (km _) ?_|refine aD jF ?_|refine aE jF ?_|simp[hi,cY]);all_goals first|(refine⟨by unfold lim;omega,?_⟩)|skip
      all_goals(with_reducible repeat' first|refine aj ?_|simp)
      all_goals exact bQ.rng [x] hi ay bV
     |cons y ys=>
      simp only[l5]at mf;simp[hi,cY];(with_reducible repeat' first|refine aj ?_|refine aD (km _) ?_|refine aE (km _) ?_|refine aD jF ?_|refine aE jF ?_|simp[hi,cY]);all_goals first|(refine⟨by unfold lim;omega,?_⟩)|skip
      all_goals(with_reducible repeat' first|refine aj ?_|simp)
      all_goals exact bQ.rng (y::ys++[x]) hi ay ⟨by simp[fresh,aP,aG,cn,inObs,Pv.look,AN],en (by simp[fresh,aP,aG,cn,inObs,Pv.look,AN]),eo (by simp[fresh,aP,aG,dV,inObs,Pv.look,AN]),Ψ⟩
   rw[tK,l6]at af;rw[<-af]at Am Ah dk dm;clear af yl ye;cases a with
   |nil=>
    simp;(with_reducible repeat' first|refine aj ?_|simp);refine hQ (fun i (L:List (List ak))=>⟨[(1,.ptr (.loc 0) 0),(2,.ptr (.loc 1) 0),(8,.ptr (.loc 2) 0),(13,.slice 1 (.own (.loc 3)) (L.map cM)),(72,.slice 1 .no (d.map cM)),(73,.int .i64 d.length),(74,.int .i64 i)],[(.loc 0,[.int .i64 n,.slice 5 .no (b.map ak.e),.slice 1 .no (d.map cM),.slice 2 .no (hb.map b6.e),.slice 2 .no (m0.map bo.e)]),(.loc 1,[.int .i64 0,.slice 5 .nil [],.slice 1 .nil [],.slice 2 .nil [],.slice 2 .nil []]),(.loc 2,[.int .i64 n,.slice 5 .no (b.map ak.e),.slice 1 .nil [],.slice 2 .no (k.map b6.e),.slice 2 .nil []])],[(.loc 3,⟨L.length,23,1,none⟩)],3+1,[]⟩) d.length (qo b k [] d) [] bV ⟨Ψ,Ψ,Ψ⟩ (fun L af _=>?_) (fun i L hi af _=>?_)
    ·have h0:=af.fin;have wi:=af.2.1;rw[h0]at dk dm;simp only at dk dm;have kN:=Ym L wi;clear af h0 wi;generalize jY L=M at kN dk dm;subst dm;by_cases lK:M.length<=30
     ·have oP:(M.length:Int)<=30:=Ω
      rw[if_pos lK]at dk;subst dk;simp;(with_reducible repeat' first|refine aj ?_|refine aD kN ?_|refine aE kN ?_|simp[lK,oP]);all_goals simp[bu,vx,aW,aY,aV]
      all_goals try simp[bP.e,lK,oP]
      all_goals first|exact⟨_,rfl,rfl⟩|skip
     ·have oP:¬(M.length:Int)<=30:=Ω
      rw[if_neg lK]at dk;subst dk;simp;(with_reducible repeat' first|refine aj ?_|refine aD kN ?_|refine aE kN ?_|simp[lK,oP]);all_goals simp[bu,vx,aW,aY,aV]
      all_goals try simp[bP.e,lK,oP]
      all_goals first|exact⟨_,rfl,rfl⟩|skip
    ·obtain⟨x,ae,cY⟩:=ec hi;have hN:=aN x (ed ae);have SN:=af.1;have gM:=Yl ab hN;simp only[fH]at gM;cases hu:mgu b (gY x)with
     |none=>have ay:=af.skip ae fun r=>LJ hu;rw[hu]at gM;simp only[l7,lD]at gM;clear af ae dk dm;exact gN
     |some y=>
      have jm:=ab.mgu (Ck hN) hu;rw[hu]at gM;simp only[jL,oG]at gM;have dg:=N7 jm wu;have ea:=N8 jm Am jS Ah;have h4:=N3 ab jm;simp only[gb]at dg;simp only[iF,qG,hk]at ea;by_cases jU:fU y k []=none\/fQ y [] []=none
      ·have ay:=af.skip ae fun r=>LI hu jU;clear af ae dk dm hu h4;rcases jU with e|e
       ·rw[e]at dg;simp only[l7,lD]at dg;exact gN
       ·rw[e]at ea;simp only[l7,lD]at ea;generalize (fU y k []).isSome=a6 at dg;cases a6
        ·exact gN
        ·exact gN
      ·have ao:(fU y k []).isSome=true:=by cases e:fU y k []with|none=>exact absurd (.inl e) jU|some _=>rfl
       have aF:(fQ y [] []).isSome=true:=by cases e:fQ y [] []with|none=>exact absurd (.inr e) jU|some _=>rfl
       rw[ao]at dg;rw[aF]at ea;by_cases cK:eG b y=[]
       ·have ag:=af.stop ae fun r=>LH hu jU cK;rw[ag]at dk dm;simp only at dk dm;subst dk;subst dm;rw[cK]at h4;simp only[cM,qG]at h4;clear af ae hu jU;simp[hi,cY];(with_reducible repeat' first|refine aj ?_|refine aD gM ?_|refine aE gM ?_|refine aD dg ?_|refine aE dg ?_|refine aD ea ?_|refine aE ea ?_|refine aD h4 ?_|refine aE h4 ?_|simp[hi,cY]);all_goals simp[bu,vx,aW,aY,aV]
        all_goals try simp[iI,bP.e]
       ·have ay:=af.snoc ae (DG (b:=b) jm) fun r=>LK hu jU cK;have wx:¬((eG b y).length:Int)=0:=by have:(eG b y).length≠0:=fun h=>cK (List.length_eq_zero_iff.1 h);omega
        have wy:(((eG b y).length:Int)==0)=false:=by simp[cK]
        clear af ae hu jU dk dm;generalize eG b y=z at h4 ay wx wy cK;simp only[cM]at h4;simp[hi,cY];(with_reducible repeat' first|refine aj ?_|refine aD gM ?_|refine aE gM ?_|refine aD dg ?_|refine aE dg ?_|refine aD ea ?_|refine aE ea ?_|refine aD h4 ?_|refine aE h4 ?_|simp[hi,cY,wx,wy,cK]);all_goals first|(refine⟨by unfold lim;omega,?_⟩)|skip
        all_goals(with_reducible repeat' first|refine aj ?_|simp)
        all_goals exact bQ.rng (L++[z]) hi ay ⟨by simp[fresh,aP,aG,cn,inObs,Pv.look,tN,cM],en (by simp[fresh,aP,aG,cn,inObs,Pv.look,tN,cM]),eo (by simp[fresh,aP,aG,dV,inObs,Pv.look,tN,cM]),Ψ⟩
   |cons EJ EK=>
    simp;(with_reducible repeat' first|refine aj ?_|simp);refine hQ (fun i (L:List (List ak))=>⟨[(1,.ptr (.loc 0) 0),(2,.ptr (.loc 1) 0),(8,.ptr (.loc 2) 0),(13,.slice 1 (.own (.loc 6)) (L.map cM)),(72,.slice 1 .no (d.map cM)),(73,.int .i64 d.length),(74,.int .i64 i)],[(.loc 0,[.int .i64 n,.slice 5 .no (b.map ak.e),.slice 1 .no (d.map cM),.slice 2 .no (hb.map b6.e),.slice 2 .no (m0.map bo.e)]),(.loc 1,[.int .i64 0,.slice 5 .nil [],.slice 1 .nil [],.slice 2 .nil [],.slice 2 .nil []]),(.loc 2,[.int .i64 n,.slice 5 .no (b.map ak.e),.slice 1 .nil [],.slice 2 .no (k.map b6.e),.slice 2 (.own (.loc 5)) (EJ.e::EK.map bo.e)])],[(.loc 6,⟨L.length,23,1,none⟩)],6+1,[]⟩) d.length (qo b k (EJ::EK) d) [] bV ⟨Ψ,Ψ,Ψ⟩ (fun L af _=>?_) (fun i L hi af _=>?_)
    ·have h0:=af.fin;have wi:=af.2.1;rw[h0]at dk dm;simp only at dk dm;have kN:=Ym L wi;clear af h0 wi;generalize jY L=M at kN dk dm;subst dm;by_cases lK:M.length<=30
     ·have oP:(M.length:Int)<=30:=Ω
      rw[if_pos lK]at dk;subst dk;simp;(with_reducible repeat' first|refine aj ?_|refine aD kN ?_|refine aE kN ?_|simp[lK,oP]);all_goals simp[bu,vx,aW,aY,aV]
      all_goals try simp[bP.e,lK,oP]
      all_goals first|exact⟨_,rfl,rfl⟩|skip
     ·have oP:¬(M.length:Int)<=30:=Ω
      rw[if_neg lK]at dk;subst dk;simp;(with_reducible repeat' first|refine aj ?_|refine aD kN ?_|refine aE kN ?_|simp[lK,oP]);all_goals simp[bu,vx,aW,aY,aV]
      all_goals try simp[bP.e,lK,oP]
      all_goals first|exact⟨_,rfl,rfl⟩|skip
    ·obtain⟨x,ae,cY⟩:=ec hi;have hN:=aN x (ed ae);have SN:=af.1;have gM:=Yl ab hN;simp only[fH]at gM;cases hu:mgu b (gY x)with
     |none=>have ay:=af.skip ae fun r=>LJ hu;rw[hu]at gM;simp only[l7,lD]at gM;clear af ae dk dm;exact gN
     |some y=>
      have jm:=ab.mgu (Ck hN) hu;rw[hu]at gM;simp only[jL,oG]at gM;have dg:=N7 jm wu;have ea:=N8 jm Am jS Ah;have h4:=N3 ab jm;simp only[gb]at dg;simp only[iF,qG,hk]at ea;by_cases jU:fU y k []=none\/fQ y (EJ::EK) []=none
      ·have ay:=af.skip ae fun r=>LI hu jU;clear af ae dk dm hu h4;rcases jU with e|e
       ·rw[e]at dg;simp only[l7,lD]at dg;exact gN
       ·rw[e]at ea;simp only[l7,lD]at ea;generalize (fU y k []).isSome=a6 at dg;cases a6
        ·exact gN
        ·exact gN
      ·have ao:(fU y k []).isSome=true:=by cases e:fU y k []with|none=>exact absurd (.inl e) jU|some _=>rfl
       have aF:(fQ y (EJ::EK) []).isSome=true:=by cases e:fQ y (EJ::EK) []with|none=>exact absurd (.inr e) jU|some _=>rfl
       rw[ao]at dg;rw[aF]at ea;by_cases cK:eG b y=[]
       ·have ag:=af.stop ae fun r=>LH hu jU cK;rw[ag]at dk dm;simp only at dk dm;subst dk;subst dm;rw[cK]at h4;simp only[cM,qG]at h4;clear af ae hu jU;simp[hi,cY];(with_reducible repeat' first|refine aj ?_|refine aD gM ?_|refine aE gM ?_|refine aD dg ?_|refine aE dg ?_|refine aD ea ?_|refine aE ea ?_|refine aD h4 ?_|refine aE h4 ?_|simp[hi,cY]);all_goals simp[bu,vx,aW,aY,aV]
        all_goals try simp[iI,bP.e]
       ·have ay:=af.snoc ae (DG (b:=b) jm) fun r=>LK hu jU cK;have wx:¬((eG b y).length:Int)=0:=by have:(eG b y).length≠0:=fun h=>cK (List.length_eq_zero_iff.1 h);omega
        have wy:(((eG b y).length:Int)==0)=false:=by simp[cK]
        clear af ae hu jU dk dm;generalize eG b y=z at h4 ay wx wy cK;simp only[cM]at h4;simp[hi,cY];(with_reducible repeat' first|refine aj ?_|refine aD gM ?_|refine aE gM ?_|refine aD dg ?_|refine aE dg ?_|refine aD ea ?_|refine aE ea ?_|refine aD h4 ?_|refine aE h4 ?_|simp[hi,cY,wx,wy,cK]);all_goals first|(refine⟨by unfold lim;omega,?_⟩)|skip
        all_goals(with_reducible repeat' first|refine aj ?_|simp)
        all_goals exact bQ.rng (L++[z]) hi ay ⟨by simp[fresh,aP,aG,cn,inObs,Pv.look,tN,cM],en (by simp[fresh,aP,aG,cn,inObs,Pv.look,tN,cM]),eo (by simp[fresh,aP,aG,dV,inObs,Pv.look,tN,cM]),Ψ⟩
theorem amS(x y:List ak):bZ az 125 [cM x,cM y] (.int .i64 (eu x y)):=N5 x y
theorem am4{x y:List ak}(h:¬x=y):(eu x y !=0)=true:=by have:¬eu x y=0:=fun e=>h ((lX.zero _ _).1 e);simp[this]
theorem am2(a c:bP):bZ az 74 [a.e,c.e] (.bool (decide (a=c))):=by
 obtain⟨n,b,d,k,m⟩:=a;obtain⟨n',b0,cl,bI,h5⟩:=c;generalize bG:decide ((⟨n,b,d,k,m⟩:bP)=⟨n',b0,cl,bI,h5⟩)=R;simp only[bP.mk.injEq,bP.e]at bG⊢;by_cases a6:n=n';rotate_left
 ·have fY:R=false:=by rw[<-bG];simp[a6]
  have ua:(n !=n')=true:=by simp[a6]
  rw[fY];clear bG fY;refine bz oA zT Bb fun aT=>?_;unfold xU;exact cD
 subst a6;have fC:=N5 b b0;by_cases bD:b=b0;rotate_left
 ·have fY:R=false:=by rw[<-bG];simp[bD]
  have o4:¬eu b b0=0:=fun h=>bD ((lX.zero _ _).1 h);have V6:(eu b b0 !=0)=true:=by simp[o4]
  rw[fY];clear bG fY;refine bz oA zT Bb fun aT=>?_;unfold xU;exact cD
 subst bD;rw[(lX.zero b b).2 rfl]at fC;by_cases bY:d.length=cl.length;rotate_left
 ·have fY:R=false:=by rw[<-bG];simp only[gC];rintro⟨_,_,rfl,_⟩;exact bY rfl
  have sD:((d.length:Int) !=cl.length)=true:=by simp;omega
  rw[fY];clear bG fY;refine bz oA zT Bb fun aT=>?_;unfold xU;exact cD
 by_cases c5:k.length=bI.length;rotate_left
 ·have fY:R=false:=by rw[<-bG];simp only[gC];rintro⟨_,_,_,rfl,_⟩;exact c5 rfl
  have aj8:((k.length:Int) !=bI.length)=true:=by simp;omega
  rw[fY];clear bG fY;refine bz oA zT Bb fun aT=>?_;unfold xU;exact cD
 by_cases dc:m.length=h5.length;rotate_left
 ·have fY:R=false:=by rw[<-bG];simp only[gC];rintro⟨_,_,_,_,rfl⟩;exact dc rfl
  have aj9:((m.length:Int) !=h5.length)=true:=by simp;omega
  rw[fY];clear bG fY;refine bz oA zT Bb fun aT=>?_;unfold xU;exact cD
 have yp:d≠cl->R=false:=fun h=>by rw[<-bG];simp[h]
 have yq:k≠bI->R=false:=fun h=>by rw[<-bG];simp[h]
 have KT:m≠h5->R=false:=fun h=>by rw[<-bG];simp[h]
 refine bz oA zT Bb fun aT=>?_;unfold xU;have afb:cl.length<=68719476736:=by simp[gS,gg,gE,lim]at aT;omega
 have afc:bI.length<=68719476736:=by simp[gS,gg,gE,lim]at aT;omega
 have afd:h5.length<=68719476736:=by simp[gS,gg,gE,lim]at aT;omega
 clear aT;simp;(with_reducible repeat' first|refine aj ?_|refine aD fC ?_|refine aE fC ?_|simp[bY,c5,dc]);have cF:=yp;refine dW [2,3,52,53] (fun i (_:Unit)=>[(54,.int .i64 i)]) cl.length (rO d cl) () bV (fun k ad=>Ω) (fun _ af _=>?_) (fun i _ hi af _=>?_);rotate_left
 ·obtain⟨x,ae⟩:∃x,d[i]? =some x:=⟨_,cf Ω⟩;obtain⟨y,aH⟩:∃y,cl[i]? =some y:=⟨_,cf hi⟩;have gn:i<d.length:=Ω
  have cY:∀h,(d[i]'h)=x:=fun h=>by rw[cf gn]at ae;exact eJ ae
  have eB:∀h,(cl[i]'h)=y:=fun h=>by rw[cf hi]at aH;exact eJ aH
  have fC:=amS x y;by_cases q:x=y
  ·subst q;have ay:=af.step ae aH;rw[(lX.zero _ _).2 rfl]at fC;clear af ae aH;simp[hi,gn,cY,eB,-iB];(with_reducible repeat' first|refine aj ?_|refine aD fC ?_|refine aE fC ?_|simp[cY,eB,hi,gn,-iB]);all_goals exact bQ.rng () hi ay bV
  ·rw[cF (fun h=>q (by rw[h]at ae;rw[ae]at aH;exact eJ aH))];have o4:=am4 q;clear af ae aH;simp[hi,gn,cY,eB,-iB];(with_reducible repeat' first|refine aj ?_|refine aD fC ?_|refine aE fC ?_|simp[cY,eB,hi,gn,q,o4,-iB]);all_goals simp[bu,HE,aW,aY,aV]
 have dp:=af.fin bY;subst dp;clear af cF yp bY;simp;(with_reducible repeat' first|refine aj ?_|simp[c5]);have cF:=yq;refine dW [2,3,69,70] (fun i (_:Unit)=>[(71,.int .i64 i)]) bI.length (rO k bI) () bV (fun k ad=>Ω) (fun _ af _=>?_) (fun i _ hi af _=>?_);rotate_left
 ·obtain⟨x,ae⟩:∃x,k[i]? =some x:=⟨_,cf Ω⟩;obtain⟨y,aH⟩:∃y,bI[i]? =some y:=⟨_,cf hi⟩;have gn:i<k.length:=Ω
  have cY:∀h,(k[i]'h)=x:=fun h=>by rw[cf gn]at ae;exact eJ ae
  have eB:∀h,(bI[i]'h)=y:=fun h=>by rw[cf hi]at aH;exact eJ aH
  have fC:=True.intro;by_cases q:x=y
  ·subst q;have ay:=af.step ae aH;skip;clear af ae aH;simp[hi,gn,cY,eB,-iB];(with_reducible repeat' first|refine aj ?_|refine aD fC ?_|refine aE fC ?_|simp[cY,eB,hi,gn,-iB]);all_goals exact bQ.rng () hi ay bV
  ·rw[cF (fun h=>q (by rw[h]at ae;rw[ae]at aH;exact eJ aH))];skip;clear af ae aH;simp[hi,gn,cY,eB,-iB];(with_reducible repeat' first|refine aj ?_|refine aD fC ?_|refine aE fC ?_|simp[cY,eB,hi,gn,q,q,-iB]);all_goals simp[bu,HE,aW,aY,aV]
 have dp:=af.fin c5;subst dp;clear af cF yq c5;simp;(with_reducible repeat' first|refine aj ?_|simp[dc]);have cF:=KT;refine dW [3,85,86] (fun i (_:Unit)=>[(87,.int .i64 i)]) h5.length (rO m h5) () bV (fun k ad=>Ω) (fun _ af _=>?_) (fun i _ hi af _=>?_);rotate_left
 ·obtain⟨x,ae⟩:∃x,m[i]? =some x:=⟨_,cf Ω⟩;obtain⟨y,aH⟩:∃y,h5[i]? =some y:=⟨_,cf hi⟩;have gn:i<m.length:=Ω
  have cY:∀h,(m[i]'h)=x:=fun h=>by rw[cf gn]at ae;exact eJ ae
  have eB:∀h,(h5[i]'h)=y:=fun h=>by rw[cf hi]at aH;exact eJ aH
  have fC:=True.intro;by_cases q:x=y
  ·subst q;have ay:=af.step ae aH;skip;clear af ae aH;simp[hi,gn,cY,eB,-iB];(with_reducible repeat' first|refine aj ?_|refine aD fC ?_|refine aE fC ?_|simp[cY,eB,hi,gn,-iB]);all_goals exact bQ.rng () hi ay bV
  ·rw[cF (fun h=>q (by rw[h]at ae;rw[ae]at aH;exact eJ aH))];skip;clear af ae aH;simp[hi,gn,cY,eB,-iB];(with_reducible repeat' first|refine aj ?_|refine aD fC ?_|refine aE fC ?_|simp[cY,eB,hi,gn,q,q,-iB]);all_goals simp[bu,HE,aW,aY,aV]
 have dp:=af.fin dc;subst dp;have fY:R=true:=by rw[<-bG];simp
 rw[fY];exact cD
@[simp]theorem alX:∀l:List (List dF),dv (l.map lJ)=l.map lJ
 |[]=>rfl
 |x::xs=>by simp[dv,alX xs]
theorem XD:∀{d:List (List dF)},d.all gz=true->∃D:List (List ak),d=(D.map fun x=>x.map ak.b)/\∀x∈D,eN x
 |[],_=>⟨[],rfl,Ψ⟩
 |x::d,h=>by
  rw[List.all_cons,cE]at h;obtain⟨D,J,U⟩:=XD h.2;obtain⟨s,ao,aF⟩:=xk.1 (rn.1 h.1);refine⟨s::D,by rw[J,ao];rfl,fun y aH=>?_⟩;rcases fD.1 aH with rfl|aH
  ·exact aF
  ·exact U y aH
open Classical in
theorem ang(r:np)(gJ:jb r.m->o7 r.m):bZ az 31 [r.e] (.bool (decide (sP r))):=by
 generalize bG:decide (sP r)=R;have cF:¬M2 r->R=false:=fun h=>by rw[<-bG,gC];exact fun b4=>h b4.raw
 obtain⟨n,b,d,k,m⟩:=r;simp only[np.e]at gJ⊢;have mX:=dx n 0 100000;by_cases g1:0<=n/\n<=100000;rotate_left
 ·rw[cF fun h=>g1 h.n];rw[ij g1]at mX;refine bz oA xY yU fun aT=>?_;unfold vW;exact cD
 rw[gD g1]at mX;have lU:bZ az 68 [.slice 5 .no (b.map dF.e)] (.bool (gz b)):=Oa b;cases g3:gz b
 ·rw[cF fun h=>by obtain⟨s,ao,aF,_⟩:=h.b;have:=rn.2 (xk.2 ⟨s,ao,aF⟩);simp only at this;rw[g3]at this;cases this]
  rw[g3]at lU;refine bz oA xY yU fun aT=>?_;unfold vW;exact cD
 rw[g3]at lU;obtain⟨s,rfl,ag⟩:=xk.1 (rn.1 g3);clear g3;rw[qu]at lU⊢;have fB:=amR d;cases wg:d.all gz
 ·rw[cF fun h=>by
   have:d.all gz=true:=by rw[fM];intro x ae;obtain⟨s,ao,aF,_⟩:=h.d x ae;exact rn.2 (xk.2 ⟨s,ao,aF⟩)
   rw[wg]at this;cases this]
  rw[wg]at fB;refine bz oA xY yU fun aT=>?_;unfold vW;exact cD
 rw[wg]at fB;obtain⟨D,rfl,r2⟩:=XD wg;clear wg;rw[JF]at fB⊢;have dg:=ane k;by_cases g4:gT k;rotate_left
 ·rw[cF fun h=>g4 h.k];rw[ij g4]at dg;refine bz oA xY yU fun aT=>?_;unfold vW;exact cD
 rw[gD g4]at dg;have ea:=anf m;by_cases g5:jb m;rotate_left
 ·rw[cF fun h=>g5 h.m];rw[ij g5]at ea;refine bz oA xY yU fun aT=>?_;unfold vW;exact cD
 rw[gD g5]at ea;have eC:=Yo s n;cases g6:s.all (k0 n)
 ·rw[cF fun h=>by obtain⟨ah,ao,_,bA⟩:=h.b;have dr:=pz ao;subst dr;rw[vS.2 bA]at g6;cases g6]
  rw[g6]at eC;refine bz oA xY yU fun aT=>?_;unfold vW;have LF:=eC;exact cD
 rw[g6]at eC;have cI:=vS.1 g6;clear g6;have tD:=gJ g5;have lq:=tD.len g5;refine bz oA xY yU fun aT=>?_;unfold vW;have tw:D.length<=68719476736:=by simp[gS,gg,gE,lim]at aT;omega
 have hM:=q6 g4;clear aT gJ;simp;(with_reducible repeat' first|refine aj ?_|refine aD mX ?_|refine aE mX ?_|refine aD lU ?_|refine aE lU ?_|refine aD fB ?_|refine aE fB ?_|refine aD dg ?_|refine aE dg ?_|refine aD ea ?_|refine aE ea ?_|refine aD eC ?_|refine aE eC ?_|simp);refine dW [1,48,49] (fun i (_:Unit)=>[(50,.int .i64 i)]) D.length (sp (fun x=>oM x n) D) () bV (fun k b ad=>Ω) (fun _ af _=>?_) (fun i _ hi af _=>?_);rotate_left
 ·obtain⟨y,aH,eB⟩:=ec hi;have Le:=ed aH;have jF:bZ az 72 [cM y,.int .i64 n] (.bool (y.all (k0 n))):=Yo y n;cases rY:y.all (k0 n)
  ·rw[cF fun h=>by obtain⟨ah,ao,_,bA⟩:=h.d _ (List.mem_map_of_mem Le);have dr:=pz ao;subst dr;rw[vS.2 bA]at rY;cases rY]
   rw[rY]at jF;clear af aH Le;exact cD
  ·rw[rY]at jF;have ay:=af.step aH (vS.1 rY);clear af aH Le;exact gN
 have Kn:=af.fin;clear af;simp;(with_reducible repeat' first|refine aj ?_|simp);refine dW [1,61,62] (fun i (_:Unit)=>[(63,.int .i64 i)]) k.length (sp (fun x=>x.v<n) k) () bV (fun k b ad=>Ω) (fun _ af _=>?_) (fun i _ hi af _=>?_);rotate_left
 ·obtain⟨x,ae,cY⟩:=ec hi;by_cases mL:x.v<n
  ·have x6:¬n<=x.v:=Ω
   have ay:=af.step ae mL;clear af ae;exact gN
  ·have x6:n<=x.v:=Ω
   rw[cF fun h=>mL (h.kb x (ed ae))];clear af ae;exact cD
 have yf:=af.fin;clear af;simp;(with_reducible repeat' first|refine aj ?_|simp);have qh:=yf;refine dW [1,74,75] (fun i (_:Unit)=>[(76,.int .i64 i)]) m.length (sp (fun x=>x.v<n) m) () bV (fun k b ad=>Ω) (fun _ af _=>?_) (fun i _ hi af _=>?_);rotate_left
 ·obtain⟨x,ae,cY⟩:=ec hi;by_cases mL:x.v<n
  ·have x6:¬n<=x.v:=Ω
   have ay:=af.step ae mL;clear af ae;exact gN
  ·have x6:n<=x.v:=Ω
   rw[cF fun h=>mL (h.mb x (ed ae))];clear af ae;exact cD
 have yf:=af.fin;clear af;simp;(with_reducible repeat' first|refine aj ?_|simp);have og:=yf;have da:hW ⟨n,s,D,k,m⟩:=⟨g1,ag,r2,g4,g5,cI,Kn,qh,og⟩;have u0:=Xz da;obtain⟨G,jS,aX⟩:=tD;have dJ:=BN da jS aX;have lr:sP ⟨n,s.map ak.b,D.map fun x=>x.map ak.b,k,m⟩↔gq ⟨n,s,D,k,m⟩=some ⟨n,s,D,k,m⟩:=u0;clear u0 cF;simp only[pX]at dJ;generalize Kq:sK ⟨n,s,D,k,m⟩=t at dJ;have wP:=am2 t ⟨n,s,D,k,m⟩;cases lP:gq ⟨n,s,D,k,m⟩with
 |none=>
  rw[lP]at dJ lr;have fY:R=false:=by rw[<-bG,gC,lr];simp
  rw[fY];obtain⟨xt,xp,xq,xr,tm⟩:=t;simp only[lD,bP.e]at dJ;clear bG fY lr Kq wP;exact cD
 |some dE=>
  have ao:=Nu lP;rw[Kq]at ao;subst ao;rw[lP]at dJ lr;have fY:R=decide (t=⟨n,s,D,k,m⟩):=by rw[<-bG,decide_eq_decide,lr];simp
  rw[fY];simp only[oG]at dJ;simp only[bP.e]at dJ wP;clear bG fY lr lP;generalize decide (t=(⟨n,s,D,k,m⟩:bP))=Q at wP⊢;clear Kq;obtain⟨xt,xp,xq,xr,tm⟩:=t;simp only at dJ wP;exact cD
theorem kM.fin{α:Type}{p:α->Bool}{s:List α}(h:kM p s s.length ()):∀b∈s,p b=true:=fun b ab=>by obtain⟨i,hi⟩:=List.mem_iff_getElem?.1 ab;exact h i b (by have:=(fb.1 hi).1;omega) hi
noncomputable def rQ(s:bP)(x y:T):Option bP:=(mgu s.b [(x,y)]).bind fun b=>gq {s with b:=b}
theorem Lz(S:aL->Prop)(l:List (List ak))(d:List ak):aP S (l.map cM++[cM d])=True:=tN S l d
theorem T.fit_ok{x:T}(h:x.fit=true):x.ok=true:=by simp only[T.fit,cE]at h;exact h.1
theorem hW.bind{s:bP}(h:hW s){x y:T}(ae:x.fit=true)(aH:y.fit=true)(bx:fm s.n x=true)(lg:fm s.n y=true){b:List ak}(hm:mgu s.b [(x,y)]=some b):hW {s with b:=b}:=⟨h.n,h.b.mgu (by simp[T.fit_ok ae,T.fit_ok aH]) hm,h.d,h.k,h.m,Vc (fun v=>v<s.n) h.b.sol h.b.fits h.bb (fun e he=>by simp only[oF]at he;subst he;exact⟨xP.1 bx,xP.1 lg⟩) hm,h.db,h.kb,h.mb⟩
noncomputable def HU(s:bP)(x y:T):ai:=match mgu s.b [(x,y)]with
 |none=>.tuple [iI.e,.bool false]
 |some b=>pX {s with b:=b}
theorem akX(s:bP)(x y:T):∃t:bP,∃q:Bool,HU s x y= .tuple [t.e,.bool q]/\(q=true->rQ s x y=some t)/\(q=false->rQ s x y=none):=by
 unfold HU rQ;cases mgu s.b [(x,y)]with
 |none=>exact⟨iI,false,rfl,(fun h=>by cases h),fun _=>rfl⟩
 |some b=>
  refine⟨_,_,rfl,(fun h=>?_),fun h=>?_⟩
  ·obtain⟨t,aM⟩:=fE.1 h;rw[Nu aM];exact aM
  ·rw[jK];cases e:gq {s with b:=b}with
   |none=>rfl
   |some t=>rw[e]at h;cases h
theorem amW{s:bP}(h:hW s)(hm:o7 s.m){x y:T}(ae:x.fit=true)(aH:y.fit=true)(bx:fm s.n x=true)(lg:fm s.n y=true)(kv:Int)(tag:List UInt8):bZ az 49 [s.e,.int .i64 0,x.e,y.e,.int .i64 kv,.str tag] (HU s x y):=by
 have aU:=N4 s.b x y h.b.sol h.b.fits;unfold HU;cases hu:mgu s.b [(x,y)]with
 |none=>rw[hu]at aU;clear h hu;obtain⟨n,b,d,k,m⟩:=s;simp only[bP.e,fH,iI]at aU⊢;refine bz ic rU sB fun aT=>?_;unfold qQ;exact cD
 |some b0=>rw[hu]at aU;obtain⟨G,jS,aX⟩:=hm;have bp:=BN (h.bind ae aH bx lg hu) jS aX;simp only[pX]at bp⊢;generalize sK {s with b:=b0}=t at bp;generalize (gq {s with b:=b0}).isSome=q at bp;clear h hu;obtain⟨n,b,d,k,m⟩:=s;obtain⟨xt,xp,xq,xr,tm⟩:=t;simp only[bP.e,fH]at aU bp⊢;refine bz ic rU sB fun aT=>?_;unfold qQ;exact cD
theorem amJ{x:List ak}(h:x.length<=1000000):bZ az 105 [cM x] (cM x):=Yi x h
theorem amT(t:List (List ak))(aM:∀x∈t,x.length<=1000000):bZ az 106 [.slice 1 .no (t.map cM)] (.slice 1 .no (t.map cM)):=by
 refine bz ic acX ajB fun aT=>?_;unfold Q4;have ir:t.length<=68719476736:=by simp[gS,gg,gE,lim]at aT;omega
 clear aT;have dg:=fun x ae=>amJ (aM x ae);simp;(with_reducible repeat' first|refine aj ?_|simp);refine hQ (fun i (L:List (List ak))=>⟨[(7,.slice 1 .no (t.map cM)),(8,.int .i64 t.length),(3,.slice 1 (.own (.loc 0)) (L.map cM)),(9,.int .i64 i)],[],[(.loc 0,⟨L.length,23,1,none⟩)],1,[]⟩) t.length (fun i L=>L=t.take i) [] bV Ψ (fun L af _=>?_) (fun i L hi af _=>?_)
 ·rw[l6]at af;subst af;exact cD
 ·obtain⟨x,ae,cY⟩:=ec hi;have GI:=dg x (ed ae);have av:L.length<=i:=by rw[af];simp;omega
  clear dg;simp[hi,cY];(with_reducible repeat' first|refine aj ?_|refine aD GI ?_|refine aE GI ?_|simp[cY,hi]);all_goals first|(refine⟨by unfold lim;omega,?_⟩)|skip
  all_goals(with_reducible repeat' first|refine aj ?_|simp)
  all_goals refine bQ.rng (L++[x]) hi (by rw[ng ae,af]) ?_
  all_goals simp
  all_goals exact⟨by simp[fresh,aP,aG,cn,inObs,Pv.look,Lz],en (by simp[fresh,aP,aG,cn,inObs,Pv.look,Lz]),eo (by simp[fresh,aP,aG,dV,inObs,Pv.look,Lz]),Ψ⟩
theorem am1(s:bP)(ab:s.b.length<=1000000)(aN:∀x∈s.d,x.length<=1000000)(ad:s.k.length<=1000000)(hm:s.m.length<=68719470000):bZ az 51 [s.e] s.e:=by
 have aU:=Yi s.b ab;have bp:=amT s.d aN;obtain⟨n,b,d,k,m⟩:=s;simp only[bP.e]at aU bp ad hm⊢;refine bz ic ac1 ajF fun aT=>?_;unfold Q8;simp;(with_reducible repeat' first|refine aj ?_|refine aD aU ?_|refine aE aU ?_|refine aD bp ?_|refine aE bp ?_|simp);all_goals first|(refine⟨by unfold lim;omega,?_⟩)|skip
 exact cD
theorem aad{s t:bP}(h:hW s){x y:T}(ae:x.fit=true)(aH:y.fit=true)(bx:fm s.n x=true)(lg:fm s.n y=true)(he:rQ s x y=some t):nf t:=by unfold rQ at he;obtain⟨b,J,U⟩:=iJ.1 he;exact(zb (h.bind ae aH bx lg J) U).1
def aqS(s:List ak):Option (List ak)->List ak
 |none=>[]
 |some b=>eG s b
noncomputable def ti(s:bP)(x y:T):Option bP:=match mgu s.b [(x,y)]with
 |none=>gq s
 |some b=>if eG s.b b=[]then none else gq {s with d:=s.d++[eG s.b b]}
theorem hW.dif{s:bP}(h:hW s){x y:T}(ae:x.fit=true)(aH:y.fit=true)(bx:fm s.n x=true)(lg:fm s.n y=true){b:List ak}(hm:mgu s.b [(x,y)]=some b):hW {s with d:=s.d++[eG s.b b]}:=by
 have ab:=h.bind ae aH bx lg hm;refine⟨h.n,h.b,fun z bf=>?_,h.k,h.m,h.bb,fun z bf=>?_,h.kb,h.mb⟩
 ·rcases ih.1 bf with bf|bf
  ·exact h.d z bf
  ·rw[oF.1 bf];exact DG ab.b
 ·rcases ih.1 bf with bf|bf
  ·exact h.db z bf
  ·rw[oF.1 bf];exact fun c aq=>ab.bb c (lC.1 aq).1
theorem ZW{s t:bP}(h:hW s){x y:T}(ae:x.fit=true)(aH:y.fit=true)(bx:fm s.n x=true)(lg:fm s.n y=true)(he:ti s x y=some t):nf t:=by
 unfold ti at he;cases hm:mgu s.b [(x,y)]with
 |none=>rw[hm]at he;exact(zb h he).1
 |some b=>
  rw[hm]at he;simp only at he;split at he
  ·cases he
  ·exact(zb (h.dif ae aH bx lg hm) he).1
theorem alo{s t:bP}(he:gq s=some t):t.d.length<=30:=by
 unfold gq at he;split at he
 ·cases he
 split at he
 ·cases he
 split at he
 ·cases he
 split at he
 ·rename_i h;have:=eJ he;rw[<-this];exact h
 ·cases he
open Classical in
noncomputable def tP(s:bP)(t:T)(k:Int):Option bP:=if(k=2\/k=3)/\(t.ap (bh s.b)).size<=5000 then(jk s.k (t.ap (bh s.b)) k).bind fun l=>gq {s with k:=l}else none
open Classical in
noncomputable def tW(s:bP)(t:T)(g:List UInt8):Option bP:=if(t.ap (bh s.b)).size<=5000 then(j3 s.m (t.ap (bh s.b)) g).bind fun l=>gq {s with m:=l}else none
def BC(m:List bo):Prop:= ∃G:List (List UInt8),G.length<=686999/\kU G m
theorem BC.w{m:List bo}(h:BC m):o7 m:=by obtain⟨G,J,U⟩:=h;exact⟨G,Ω,U⟩
theorem hW.apb{s:bP}(h:hW s){t:T}(uF:fm s.n t=true){w:Int}(hw:(t.ap (bh s.b)).occ w=true):w<s.n:=by obtain⟨v,J,U⟩:=A5.1 hw;exact Lu h.b h.bb (xP.1 uF v J) U
theorem hW.apo{s:bP}(h:hW s){t:T}(aM:t.fit=true):(t.ap (bh s.b)).ok=true:=Ej h.b.ok (T.fit_ok aM)
theorem hW.knd{s:bP}(h:hW s){t:T}(aM:t.fit=true)(uF:fm s.n t=true){k:Int}(ad:k=2\/k=3){l:List b6}(he:jk s.k (t.ap (bh s.b)) k=some l):hW {s with k:=l}:=⟨h.n,h.b,h.d,E2 h.k (h.apo aM) ad he,h.m,h.bb,h.db,fun x ae=>(IN he x ae).elim (h.kb x) fun e=>h.apb uF (by rw[e];simp[T.occ]),h.mb⟩
theorem hW.mrk{s:bP}(h:hW s){t:T}(aM:t.fit=true)(uF:fm s.n t=true){g:List UInt8}(aX:iv g=true){l:List bo}(he:j3 s.m (t.ap (bh s.b)) g=some l):hW {s with m:=l}:=⟨h.n,h.b,h.d,h.k,E3 h.m (h.apo aM) aX he,h.bb,h.db,h.kb,fun x ae=>((AV he x).1 ae).elim (h.mb x) fun e=>h.apb uF e.2⟩
theorem BC.mrk{m l:List bo}(h:BC m){t:T}{g:List UInt8}(he:j3 m t g=some l):o7 l:=by obtain⟨G,J,U⟩:=h;exact⟨g::G,by simp only[l5];omega,B3 (fun x ae=>oE _ (U x ae)) Ψ he⟩
theorem agZ{s u:bP}(h:hW s){t:T}(aM:t.fit=true)(uF:fm s.n t=true){k:Int}(he:tP s t k=some u):nf u:=by
 unfold tP at he;split at he
 ·rename_i g;obtain⟨l,J,U⟩:=iJ.1 he;exact(zb (h.knd aM uF g.1 J) U).1
 ·cases he
theorem ahC{s u:bP}(h:hW s){t:T}(aM:t.fit=true)(uF:fm s.n t=true){g:List UInt8}(aX:iv g=true)(he:tW s t g=some u):nf u:=by
 unfold tW at he;split at he
 ·obtain⟨l,J,U⟩:=iJ.1 he;exact(zb (h.mrk aM uF aX J) U).1
 ·cases he
structure alm (s:bP):Prop where
 k:fU s.b s.k []=some s.k
 m:fQ s.b s.m []=some s.m
 f:s.m.filter (jG s.k)=s.m
 l:fG s.b s.k s.m s.d=some s.d
 st:∀d∈s.d,xj s.b s.k s.m d
 n:jY s.d=s.d
 c:s.d.length<=30
theorem nf.self{s:bP}(h:nf s):alm s:=by
 have aq:=alo h.2;have J:=h.2;unfold gq at J;split at J
 ·cases J
 rename_i k ad;split at J
 ·cases J
 rename_i m hm;split at J
 ·cases J
 rename_i L h0;split at J;rotate_left
 ·cases J
 have J:=eJ J;have mO:k=s.k:=eK bP.k J;have KN:m.filter (jG k)=s.m:=eK bP.m J;have lp:jY L=s.d:=eK bP.d J;subst mO;have m1:=D5 h.1.b h.1.m.at' ⟨Ψ,by simp[hF]⟩ hm;have aF:fQ s.b (m.filter (jG s.k)) []=some (m.filter (jG s.k)):=M4 (acc:=[]) (Ox _ m1.asc) fun x ae=>HI h.1.b.sol Ψ hm x (lC.1 ae).1;rw[KN]at aF h0;have tC:m=s.m:=by rw[hm]at aF;exact eJ aF
 rw[tC]at KN;have da:=Dw h.1.b h0;have ag:∀d∈s.d,xj s.b s.k s.m d:=fun d aN=>da d (vp.1 (by rw[lp];exact aN)).1;exact⟨ad,aF,KN,LL ag,ag,by rw[<-lp,Vg],aq⟩
theorem GP{b:List ak}{k:List b6}{m:List bo}:∀{l L:List (List ak)},fG b k m l=some L->L.length<=l.length
 |[],L,h=>by simp only[fG,dC]at h;rw[<-h];simp
 |d::l,L,h=>by
  simp only[fG]at h;split at h
  ·have:=GP h;simp only[l5];omega
  ·split at h
   ·have:=GP h;simp only[l5];omega
   ·split at h
    ·cases h
    ·rw[gk]at h;obtain⟨EN,J,rfl⟩:=h;have:=GP J;simp only[l5];omega
def _root_.Go.Pv.T.gnd:T->Bool
 | .var _=>false
 | .pair a b=>a.gnd&&b.gnd
 |_=>true
def mE(b:Bool):cS:=⟨[(.obj 501,[.bool b])],[]⟩
theorem ET(b:Bool):dR (mE b):=by unfold mE;exact(dR.of ⟨by intro m;simp[Pv.look],by intro m;simp[Pv.look]⟩ d9 d9)
theorem ID(a b:Bool):Same (mE a) (mE b):=⟨fun k=>by simp only[mE,Pv.look];split<;>rfl,fun _=>rfl⟩
theorem adF(v:Int)(b:Bool):bH az 116 [.int .i64 v,.ptr (.obj 501) 0] (mE b) fun r ah=>r= .tuple []/\ah=mE false:=by have ag:=ET b;unfold mE at ag⊢;refine bH.mk mixed xw abH aio Ψ ag.obj fun aT cI=>?_;unfold PR;simp;refine cO.at (mE false) (.inr rfl) (ET _) (ID b false) (by unfold mE;exact aK) (by unfold mE;exact aK) ?_;simp[cT,Ws,aW,aY,aV];simp[mE]
theorem adl(t:T)(b:Bool):t.fold (fun _ _=>false) b=(b&&t.gnd):=by
 induction t generalizing b with
 |pair x y oj ql=>simp[T.fold,T.gnd,oj,ql,Bool.and_assoc]
 |_=>simp[T.fold,T.gnd]
theorem amF(t:T):bZ az 63 [t.e] (.bool t.gnd):=by refine bz xw abG ain fun aT=>?_;unfold PQ;simp;refine cW.ob (Kb mE ET ID 116 [.ptr (.obj 501) 0] (by intro a;simp[inObs,mE,Pv.look,aP,aG]) Ψ (fun _ _=>false) adF t true) (ET true) (by unfold mE;exact aK) (by unfold mE;exact aK) (by simp[inObs,mE,Pv.look]) ?_;rintro r ah ⟨rfl,rfl⟩;refine⟨ID _ _,?_⟩;unfold mE;simp[cb,adl];simp[bu,Wr,aW,aY,aV]
structure nU (n:Int) (v:List ak):Prop where
 ok:j1 v
 asc:gQ v
 fits:fS v
 len:(v.length:Int)=n
 at':∀(i:Nat) b,v[i]? =some b->b.v=(i:Int)
 gnd:∀b∈v,b.t.gnd=true
theorem nU.get{n:Int}{v:List ak}(h:nU n v){w:Int}(bE:0<=w)(J:w<n):∃b:ak,v[w.toNat]? =some b/\cU v w=some b.t/\bh v w=b.t:=by
 have av:=h.len;have hi:w.toNat<v.length:=Ω
 have e:=cf hi;have aF:=h.at' _ _ e;have bA:=p5 h.asc (List.getElem_mem hi);rw[aF,Int.toNat_of_nonneg bE]at bA;exact⟨_,e,bA,by rw[bh,bA];rfl⟩
theorem Nw{v:List ak}(h:fS v)(w:Int):(bh v w).size<=5000:=by
 unfold bh;cases e:cU v w with
 |none=>simp[T.size]
 |some x=>exact h.2 _ (iP e)
theorem j1.fit{v:List ak}(h:j1 v)(aR:fS v):v8 v:=fun b ab=>by simp[T.fit,(h b ab).2,aR.2 b ab]
def q2(v:List ak)(b:ak):Bool:=decide ((b.t.ap (bh v)).size<=5000)&& !decide (bh v b.v=b.t.ap (bh v))
def k2(v:List ak)(d:List ak):Bool:=d.any (q2 v)
open Classical in
theorem aml{v:List ak}(aC:j1 v)(hS:fS v)(bk:gQ v){d:List ak}(aN:eN d):bZ az 65 [.slice 5 .no (d.map ak.e),.slice 5 .no (v.map ak.e)] (.bool (k2 v d)):=by
 have c7:=p0 aN;have e3:=N1 (v.map ak.b);rw[gD (uk.2 ⟨v,rfl,aC,bk,hS⟩),qu]at e3;have jl:v.length<=1000000:=by have:=hS.1;omega
 have tw:=aN.len;have ks:=j1.fit aC hS;generalize bG:k2 v d=R;refine bz ic abb ahS fun aT=>?_;unfold Pk;clear aT;simp;((with_reducible repeat' first|refine aj ?_|refine aD c7 ?_|refine aE c7 ?_|refine aD e3 ?_|refine aE e3 ?_|simp|((first|apply bJ|apply bM|apply bL)<;>intro h<;>try simp at h))<;>(try exact cc));refine dW [1,19,20] (fun i (_:Unit)=>[(21,.int .i64 i)]) d.length (kM (fun b=> !q2 v b) d) () bV (fun k b ad=>Ω) (fun _ af _=>?_) (fun i _ hi af _=>?_)
 ·have:R=false:=by rw[<-bG,k2,List.any_eq_false];intro b ab;have:=af.fin b ab;simpa using this
  subst this;clear af bG c7 e3;exact cD
 ·obtain⟨b,ab,cw⟩:=ec hi;have aU:=xz v (.var b.v) jl bk ks;have bp:=xz v b.t jl bk ks;have ao:((T.var b.v).ap (bh v)).size<=5000:=Nw hS b.v;rw[if_pos ao,gD ao]at aU;have b1:=ry (bh v b.v) (b.t.ap (bh v));have cu:q2 v b=(decide ((b.t.ap (bh v)).size<=5000)&& !decide (bh v b.v=b.t.ap (bh v))):=rfl;have h3:q2 v b=true->R=true:=fun h=>by rw[<-bG,k2,List.any_eq_true];exact⟨b,ed ab,h⟩
  have cF:=fun h:q2 v b=false=>af.step ab (by rw[h];rfl);rw[show(T.var b.v).ap (bh v)=bh v b.v from rfl]at aU;clear af bG c7 e3 ab ao;generalize q2 v b=H at cu h3 cF;by_cases bf:(b.t.ap (bh v)).size<=5000
  ·rw[if_pos bf,gD bf]at bp;rw[gD bf,Bool.true_and]at cu;generalize b.t.ap (bh v)=y at bp b1 cu;generalize bh v b.v=x at aU b1 cu;generalize decide (x=y)=q at b1 cu;cases q
   ·have:=h3 cu;subst this;simp[hi,cw];(with_reducible repeat' first|refine aj ?_|refine aD (jg _) ?_|refine aE (jg _) ?_|refine aD aU ?_|refine aE aU ?_|refine aD bp ?_|refine aE bp ?_|refine aD b1 ?_|refine aE b1 ?_|simp[cw,hi]);all_goals simp[bu,Wa,aW,aY,aV]
   ·have ay:=cF cu;simp[hi,cw];(with_reducible repeat' first|refine aj ?_|refine aD (jg _) ?_|refine aE (jg _) ?_|refine aD aU ?_|refine aE aU ?_|refine aD bp ?_|refine aE bp ?_|refine aD b1 ?_|refine aE b1 ?_|simp[cw,hi]);all_goals exact bQ.rng () hi ay bV
  ·rw[if_neg bf,ij bf]at bp;rw[ij bf,Bool.false_and]at cu;have ay:=cF cu;clear b1 cu;generalize bh v b.v=x at aU;simp[hi,cw];(with_reducible repeat' first|refine aj ?_|refine aD (jg _) ?_|refine aE (jg _) ?_|refine aD aU ?_|refine aE aU ?_|refine aD bp ?_|refine aE bp ?_|simp[cw,hi]);all_goals exact bQ.rng () hi ay bV
def o3(v:List ak)(b:ak):Bool:=decide ((b.t.ap (bh v)).size<=5000)&&decide (b.t.ap (bh v)=bh v b.v)
structure ou (s:bP) (v:List ak):Prop where
 b:s.b.all (o3 v)=true
 d:s.d.all (k2 v)=true
 k:s.k.all (fun k=>decide ((bh v k.v).kind=k.k))=true
 m:s.m.all (fun m=> !(bh v m.v).has m.s)=true
def vc(s:bP)(l:List dF):Prop:= ∃v:List ak,l=v.map ak.b/\nU s.n v/\ou s v
def Dn(v:List ak)(i:Nat)(_:Unit):Prop:= ∀k b,k<i->v[k]? =some b->b.v=(k:Int)/\b.t.gnd=true
theorem Dn.step{v:List ak}{i:Nat}(h:Dn v i ()){b:ak}(ab:v[i]? =some b)(bK:b.v=(i:Int)/\b.t.gnd=true):Dn v (i+1) ():=fun k c ad aq=>by
 rcases Nat.lt_or_ge k i with J|J
 ·exact h k c J aq
 ·have:k=i:=Ω
  subst this;rw[ab]at aq;cases aq;exact bK
open Classical in
theorem amG{s:bP}(ag:hW s)(l:List dF):bZ az 30 [s.e,.slice 5 .no (l.map dF.e)] (.bool (decide (vc s l))):=by
 have e3:=N1 l;generalize bG:decide (vc s l)=R;by_cases g1:uz l;rotate_left
 ·rw[ij g1]at e3;have:R=false:=by rw[<-bG,gC];rintro⟨v,rfl,h,_⟩;exact g1 (uk.2 ⟨v,rfl,h.ok,h.asc,h.fits⟩)
  subst this;clear bG g1 ag;obtain⟨n,b,d,k,m⟩:=s;simp only[bP.e]at e3⊢;refine bz ic JV Ml fun aT=>?_;unfold Fg;exact cD
 rw[gD g1]at e3;obtain⟨v,rfl,oX,pN,hS⟩:=uk.1 g1;clear g1;rw[qu]at e3⊢;by_cases g2:(v.length:Int)=s.n;rotate_left
 ·have:R=false:=by rw[<-bG,gC];rintro⟨w,e,h,_⟩;rw[pz e]at g2;exact g2 h.len
  subst this;have x2:s.n≠(v.length:Int):=fun h=>g2 h.symm;clear bG ag oX pN hS;obtain⟨n,b,d,k,m⟩:=s;simp only[bP.e]at e3 g2 x2⊢;refine bz ic JV Ml fun aT=>?_;unfold Fg;simp;((with_reducible repeat' first|refine aj ?_|refine aD e3 ?_|refine aE e3 ?_|simp[g2,x2]|((first|apply bJ|apply bM|apply bL)<;>intro h<;>try simp at h))<;>(try exact cc));all_goals simp[bu,Hu,aW,aY,aV]
 have cF:¬(nU s.n v/\ou s v)->R=false:=fun h=>by rw[<-bG,gC];rintro⟨w,e,J,U⟩;rw[pz e]at h;exact h ⟨J,U⟩
 have h3:nU s.n v->ou s v->R=true:=fun J U=>by rw[<-bG,e6];exact⟨v,rfl,J,U⟩
 clear bG;have jl:v.length<=1000000:=by have:=hS.1;omega
 have ks:=j1.fit oX hS;obtain⟨n,sJ,qA,sL,sm⟩:=s;simp only at g2 cF h3;subst g2;have jE:=ag.b;have e8:=jE.len;have cI:=ag.bb;have iX:=ag.d;have q0:=ag.k;have qh:=ag.kb;have og:=ag.mb;have tC:=ag.m;have hM:=q6 q0;simp only at jE e8 cI iX q0 qh og tC hM;clear ag;simp only[bP.e];refine bz ic JV Ml fun aT=>?_;unfold Fg;have tw:qA.length<=68719476736:=by simp[gS,gg,gE,lim]at aT;omega
 have lq:sm.length<=68719476736:=by simp[gS,gg,gE,lim]at aT;omega
 clear aT;simp;(with_reducible repeat' first|refine aj ?_|refine aD e3 ?_|refine aE e3 ?_|simp);refine dW [1,2,27,28] (fun i (_:Unit)=>[(29,.int .i64 i)]) v.length (Dn v) () bV (fun k b ad=>Ω) (fun _ af _=>?_) (fun i _ hi af _=>?_);rotate_left
 ·obtain⟨b,ab,cw⟩:=ec hi;have aU:=amF b.t;by_cases g:b.v=(i:Int)/\b.t.gnd=true
  ·have ay:=af.step ab g;obtain⟨g1,g2⟩:=g;rw[g2]at aU;clear af ab cF h3;exact gN
  ·rw[cF fun h=>g ⟨h.1.at' _ _ ab,h.1.gnd _ (ed ab)⟩];clear af ab cF h3;by_cases g1:b.v=(i:Int)
   ·have g2:b.t.gnd=false:=by
     cases e:b.t.gnd with
     |false=>rfl
     |true=>exact absurd ⟨g1,e⟩ g
    rw[g2]at aU;exact cD
   ·simp[hi,cw];((with_reducible repeat' first|refine aj ?_|simp[cw,hi,g1]|((first|apply bJ|apply bM|apply bL)<;>intro h<;>try simp at h))<;>(try exact cc));all_goals simp[bu,Hu,aW,aY,aV]
 have aC:nU v.length v:=⟨oX,pN,hS,rfl,fun i b ab=>(af i b (fb.1 ab).1 ab).1,fun b ab=>by obtain⟨i,hi⟩:=List.mem_iff_getElem?.1 ab;exact(af i b (fb.1 hi).1 hi).2⟩
 have h3:=h3 aC;have cF:¬ou ⟨v.length,sJ,qA,sL,sm⟩ v->R=false:=fun h=>cF fun b4=>h b4.2;clear af e3;simp;(with_reducible repeat' first|refine aj ?_|simp);refine dW [1,2,46,47] (fun i (_:Unit)=>[(48,.int .i64 i)]) sJ.length (kM (o3 v) sJ) () bV (fun k b ad=>Ω) (fun _ af _=>?_) (fun i _ hi af _=>?_);rotate_left
 ·obtain⟨b,ab,cw⟩:=ec hi;have gx:=ed ab;have aU:=xz v b.t jl pN ks;obtain⟨c,aq,_,kt⟩:=aC.get (jE.ok b gx).1.1 (cI b gx).1;have bp:=ry (b.t.ap (bh v)) (bh v b.v);have w0:=(jE.ok b gx).1.1;have eV:=(cI b gx).1;have Oj:∀h,(v[b.v.toNat]'h)=c:=fun h=>by rw[cf h]at aq;exact eJ aq
  have cu:o3 v b=(decide ((b.t.ap (bh v)).size<=5000)&&decide (b.t.ap (bh v)=bh v b.v)):=rfl;have e1:o3 v b=false->R=false:=fun h=>cF fun b4=>by have:=fM.1 b4.b b gx;rw[h]at this;cases this
  have dY:=fun h:o3 v b=true=>af.step ab h;clear af ab gx cF h3 aC oX pN hS ks;generalize o3 v b=H at cu e1 dY;by_cases bf:(b.t.ap (bh v)).size<=5000
  ·rw[if_pos bf,gD bf]at aU;rw[gD bf,Bool.true_and]at cu;rw[kt]at bp cu;generalize b.t.ap (bh v)=y at aU bp cu;generalize decide (y=c.t)=q at bp cu;cases q
   ·rw[e1 cu];exact cD
   ·have ay:=dY cu;exact gN
  ·rw[if_neg bf,ij bf]at aU;rw[ij bf,Bool.false_and]at cu;rw[e1 cu];exact cD
 have jR:sJ.all (o3 v)=true:=fM.2 af.fin;clear af;simp;(with_reducible repeat' first|refine aj ?_|simp);refine dW [1,2,74,75] (fun i (_:Unit)=>[(76,.int .i64 i)]) qA.length (kM (k2 v) qA) () bV (fun k b ad=>Ω) (fun _ af _=>?_) (fun i _ hi af _=>?_);rotate_left
 ·obtain⟨b,ab,cw⟩:=ec hi;have gx:=ed ab;have aU:bZ az 65 [cM b,.slice 5 .no (v.map ak.e)] (.bool (k2 v b)):=aml oX hS pN (iX b gx);have e1:k2 v b=false->R=false:=fun h=>cF fun b4=>by have:=fM.1 b4.d b gx;rw[h]at this;cases this
  have dY:=fun h:k2 v b=true=>af.step ab h;clear af ab gx cF h3 aC oX pN hS ks;generalize k2 v b=q at aU e1 dY;cases q
  ·rw[e1 rfl];exact cD
  ·have ay:=dY rfl;exact gN
 have r2:qA.all (k2 v)=true:=fM.2 af.fin;clear af;simp;(with_reducible repeat' first|refine aj ?_|simp);refine dW [1,2,86,87] (fun i (_:Unit)=>[(88,.int .i64 i)]) sL.length (kM (fun k=>decide ((bh v k.v).kind=k.k)) sL) () bV (fun k b ad=>Ω) (fun _ af _=>?_) (fun i _ hi af _=>?_);rotate_left
 ·obtain⟨b,ab,cw⟩:=ec hi;have gx:=ed ab;have w0:=(q0.at' b gx).1.1;have eV:=qh b gx;obtain⟨c,aq,_,kt⟩:=aC.get w0 eV;have Oj:∀h,(v[b.v.toNat]'h)=c:=fun h=>by rw[cf h]at aq;exact eJ aq
  by_cases g:c.t.kind=b.k
  ·have ay:=af.step ab (by rw[kt];exact gD g);clear af ab gx cF h3 aC oX pN hS ks;exact gN
  ·rw[cF fun b4=>by have:=fM.1 b4.k b gx;rw[kt]at this;exact g (of_decide_eq_true this)]
   clear af ab gx cF h3 aC oX pN hS ks;simp[hi,cw];((with_reducible repeat' first|refine aj ?_|simp[cw,hi,w0,eV,Oj,g]|((first|apply bJ|apply bM|apply bL)<;>intro h<;>try simp at h))<;>(try exact cc));all_goals simp[bu,Hu,aW,aY,aV]
 have c4:sL.all (fun k=>decide ((bh v k.v).kind=k.k))=true:=fM.2 af.fin;clear af;simp;(with_reducible repeat' first|refine aj ?_|simp);refine dW [1,104,105] (fun i (_:Unit)=>[(106,.int .i64 i)]) sm.length (kM (fun m=> !(bh v m.v).has m.s) sm) () bV (fun k b ad=>Ω) (fun _ af _=>?_) (fun i _ hi af _=>?_);rotate_left
 ·obtain⟨b,ab,cw⟩:=ec hi;have gx:=ed ab;have w0:=(tC.at' b gx).1.1;have eV:=og b gx;obtain⟨c,aq,_,kt⟩:=aC.get w0 eV;have Oj:∀h,(v[b.v.toNat]'h)=c:=fun h=>by rw[cf h]at aq;exact eJ aq
  have aU:=Yc b.s c.t;cases g:c.t.has b.s
  ·rw[g]at aU;have ay:=af.step ab (by rw[kt,g];rfl);clear af ab gx cF h3 aC oX pN hS ks;exact gN
  ·rw[g]at aU;rw[cF fun b4=>by have:=fM.1 b4.m b gx;rw[kt,g]at this;cases this]
   clear af ab gx cF h3 aC oX pN hS ks;exact cD
 rw[h3 ⟨jR,r2,c4,fM.2 af.fin⟩];clear af;exact cD
def Dj(t:T):Prop:=(∃k,t= .num k)\/ ∃s,t= .sym s
theorem Dj.size{t:T}(h:Dj t):t.size=1:=by rcases h with⟨k,rfl⟩|⟨s,rfl⟩<;>rfl
theorem Dj.gnd{t:T}(h:Dj t):t.gnd=true:=by rcases h with⟨k,rfl⟩|⟨s,rfl⟩<;>rfl
structure YA (s:bP) (f:Int->T):Prop where
 a:∀v,Dj (f v)
 ok:∀v,(f v).ok=true
 inj:∀u v,0<=u->u<s.n->0<=v->v<s.n->cU s.b u=none->cU s.b v=none->f u=f v->u=v
 d:∀d∈s.d,∀c∈d,∀v,c.t≠f v
 k:∀k∈s.k,(f k.v).kind=k.k
 m:∀m∈s.m,(f m.v).has m.s=false
theorem E5{f:Int->T}(aR:∀v,(f v).size=1):∀t:T,(t.ap f).size=t.size
 | .var n=>by simp[T.ap,T.size,aR]
 | .pair a b=>by simp[T.ap,T.size,E5 aR a,E5 aR b]
 | .nil=>rfl
 | .sym _=>rfl
 | .num _=>rfl
theorem IY{f:Int->T}(aR:∀v,(f v).gnd=true):∀t:T,(t.ap f).gnd=true
 | .var n=>aR n
 | .pair a b=>by simp[T.ap,T.gnd,IY aR a,IY aR b]
 | .nil=>rfl
 | .sym _=>rfl
 | .num _=>rfl
theorem VJ{t:T}(aM:t.ok=true){v:Int}(aC:t.occ v=true):0<=v:=by
 induction t with
 |var n=>simp only[T.ok,T.occ,e6,dL]at aM aC;omega
 |pair a b dM dN=>simp only[T.ok,T.occ,cE,l4]at aM aC;exact aC.elim (dM aM.1) (dN aM.2)
 |_=>simp[T.occ]at aC
theorem anv{s:bP}(h:nf s){f:Int->T}(aR:YA s f)(aps:s.n<=400){w:List ak}(av:(w.length:Int)=s.n)(hw:∀(i:Nat) b,w[i]? =some b->b.v=(i:Int)/\b.t=(bh s.b i).ap f):nU s.n w/\ou s w:=by
 have dm:=h.self;have J:=fun v=>(aR.a v).size;have dS:=E5 J;have F4:=IY fun v=>(aR.a v).gnd;have j7:∀v,(bh s.b v).size<=5000:=fun v=>Nw h.1.b.fits v;have hB:∀b∈w,∃i:Nat,w[i]? =some b/\(i:Int)<s.n:=fun b ab=>by obtain⟨i,hi⟩:=List.mem_iff_getElem?.1 ab;have:=(fb.1 hi).1;exact⟨i,hi,Ω⟩
 have aC:nU s.n w:=by
  refine⟨fun b ab=>?_,?_,⟨Ω,fun b ab=>?_⟩,av,fun i b hi=>(hw i b hi).1,fun b ab=>?_⟩
  ·obtain⟨i,hi,gH⟩:=hB b ab;obtain⟨ao,aF⟩:=hw i b hi;have:=h.1.n;refine⟨Ω,?_⟩;rw[aF];exact IZ (zc h.1.b ⟨Ω,Ω⟩) fun v _=>aR.ok v
  ·refine pg.2 fun i j hi af lM=>?_;rw[(hw i _ (cf hi)).1,(hw j _ (cf af)).1];omega
  ·obtain⟨i,hi,_⟩:=hB b ab;rw[(hw i b hi).2,dS];exact j7 _
  ·obtain⟨i,hi,_⟩:=hB b ab;rw[(hw i b hi).2];exact F4 _
 have Gr:∀v,0<=v->v<s.n->bh w v=(bh s.b v).ap f:=fun v bE U=>by obtain⟨c,aq,_,e⟩:=aC.get bE U;have:=(hw _ c aq).2;rw[Int.toNat_of_nonneg bE]at this;rw[e,this]
 have qf:∀v,0<=v->v<s.n->cU s.b v=none->bh w v=f v:=fun v bE U ar=>by
  rw[Gr v bE U];have:bh s.b v= .var v:=by unfold bh;rw[ar];rfl
  rw[this];rfl
 have Ty:∀{t:T},t.ok=true->∀v,t.occ v=true->0<=v:=fun{t} aM v aC=>(VJ aM aC);refine⟨aC,⟨?_,?_,?_,?_⟩⟩
 ·rw[fM];intro c aq;have Kw:=h.1.bb c aq;have CL:=h.1.b.ok c aq;have ao:c.t.ap (bh w)=c.t.ap f:=p4 fun u hu=>qf u (Ty CL.2 u hu) (Kw.2 u hu) (h.1.b.sol.free c aq u hu);have aF:bh s.b c.v=c.t:=by unfold bh;rw[p5 h.1.b.sol.asc aq];rfl
  rw[o3,ao,Gr c.v CL.1.1 Kw.1,aF,gD rfl,Bool.and_true,e6,dS];exact h.1.b.fits.2 c aq
 ·rw[fM];intro d aN;obtain⟨x,a6,_,bY,c5⟩:=dm.st d aN;obtain⟨c,aq⟩:=List.exists_mem_of_ne_nil d c5;have kI:=aq;rw[<-bY]at kI;obtain⟨bT,cx⟩:=lC.1 kI;have cx:cU s.b c.v=none:=by simpa using cx
  have hN:=(sv h.1.b.sol h.1.b.fits a6).1;have ZX:∀{v},cU x v=none->cU s.b v=none:=fun b4=>G4 h.1.b.sol hN (fun aQ gL=>((yL h.1.b.sol h.1.b.fits a6 aQ).1 gL).1) b4;have Ky:=h.1.db d aN c aq;have Kz:=(h.1.d d aN).ok c aq;have si:∀u,c.t.occ u=true->0<=u/\u<s.n/\cU s.b u=none:=fun u hu=>⟨Ty Kz.2 u hu,Ky.2 u hu,ZX (hN.free c bT u hu)⟩;have ao:c.t.ap (bh w)=c.t.ap f:=p4 fun u hu=>qf u (si u hu).1 (si u hu).2.1 (si u hu).2.2;have aF:=qf c.v Kz.1.1 Ky.1 cx;rw[k2,List.any_eq_true];refine⟨c,aq,?_⟩;rw[q2,ao,aF,dS,gD ((h.1.d d aN).fits.2 c aq),Bool.true_and,rC,gC];intro e;have cK:=aR.d d aN c aq c.v;cases aM:c.t with
  |var u=>rw[aM]at e si;have hu:=si u (by simp[T.occ]);have:u=c.v:=aR.inj u c.v hu.1 hu.2.1 Kz.1.1 Ky.1 hu.2.2 cx (by rw[e];rfl);have:=hN.ori c bT u aM;omega
  |pair a b=>rw[aM]at e;rcases aR.a c.v with⟨k,bA⟩|⟨k,bA⟩<;>(rw[bA]at e;simp[T.ap]at e)
  |nil=>rw[aM]at e;rcases aR.a c.v with⟨k,bA⟩|⟨k,bA⟩<;>(rw[bA]at e;simp[T.ap]at e)
  |sym _=>rw[aM]at e cK;exact cK (by rw[e];rfl)
  |num _=>rw[aM]at e cK;exact cK (by rw[e];rfl)
 ·rw[fM];intro k ad;have:=HG h.1.b.sol Ψ dm.k k ad;rw[qf k.v (h.1.k.at' k ad).1.1 (h.1.kb k ad) this,aR.k k ad];simp
 ·rw[fM];intro m hm;have:=HI h.1.b.sol Ψ dm.m m hm;rw[qf m.v (h.1.m.at' m hm).1.1 (h.1.mb m hm) this,aR.m m hm];rfl
theorem G1{s:List ak}(ag:ft s)(aR:fS s)(E mD:List (T×T)):mgu s (E++mD)=(mgu s E).bind fun s1=>mgu s1 mD:=by
 have J:=yM ag aR E;cases h:mgu s E with
 |none=>rw[h]at J;exact pR (E1 mD J)
 |some s1=>rw[h]at J;exact pR (IL J (yM J.1.1 J.1.2 mD))
def tS:T->Nat
 | .pair a b=>tS a+tS b
 |_=>1
def TX(n:Int)(t:T):Prop:= ∀u,t.occ u=true->0<=u/\u<n
theorem age{n:Int}{t:T}(h:t.ok=true)(ab:vQ t n):TX n t:=fun u hu=>⟨VJ h hu,ab u hu⟩
theorem agd{n:Int}{l:List ak}(h:j1 l)(ab:oM l n):∀c∈l,(0<=c.v/\c.v<n)/\TX n c.t:=fun c aq=>⟨⟨(h c aq).1.1,(ab c aq).1⟩,age (h c aq).2 (ab c aq).2⟩
theorem sO:ft []:=⟨Ψ,Ψ,Ψ⟩
theorem rV:fS []:=by simp[fS]
def jH:T->Bool
 | .sym s=>s.head? !=some 119
 | .pair a b=>jH a&&jH b
 |_=>true
structure eqP (V:List Int) (L:Nat) (e:T×T):Prop where
 l:tS e.1<=L/\tS e.2<=L
 v:∀v,(e.1.occ v=true\/e.2.occ v=true)->v∈V
 w:jH e.1=true/\jH e.2=true
structure mu (V:List Int) (L:Nat) (E:List (T×T)) (s:bP):Prop where
 e:∀e∈E,eqP V L e
 b:mgu [] E=some s.b
 d:∀d∈s.d,∃e x,eqP V L e/\mgu [] (E++[e])=some x/\d=eG s.b x
theorem UI{b:List ak}{k:List b6}{m:List bo}:∀{l L:List (List ak)},fG b k m l=some L->∀w∈L,∃d∈l,∃z,mgu b (gY d)=some z/\w=eG b z
 |[],L,h=>by simp only[fG,dC]at h;rw[<-h];simp
 |d::l,L,h=>by
  have go:∀{L},fG b k m l=some L->∀w∈L,∃e∈d::l,∃z,mgu b (gY e)=some z/\w=eG b z:=fun h w hw=>by obtain⟨e,J,U⟩:=UI h w hw;exact⟨e,oE _ J,U⟩
  simp only[fG]at h;split at h
  ·exact go h
  ·rename_i x ae;split at h
   ·exact go h
   ·split at h
    ·cases h
    ·rw[gk]at h;obtain⟨EN,J,rfl⟩:=h;intro w hw;rcases fD.1 hw with rfl|hw
     ·exact⟨d,Ψ,x,ae,rfl⟩
     ·exact go J w hw
theorem aln{s t:bP}(he:gq s=some t):t.b=s.b/\∀w∈t.d,∃d∈s.d,∃z,mgu s.b (gY d)=some z/\w=eG s.b z:=by
 unfold gq at he;split at he
 ·cases he
 split at he
 ·cases he
 split at he
 ·cases he
 rename_i L h0;split at he
 ·cases he;exact⟨rfl,fun w hw=>UI h0 w (vp.1 hw).1⟩
 ·cases he
theorem DY{V:List Int}{L:Nat}{E mD:List (T×T)}{s t:bP}{B6:List ak}(aem:∀e∈mD,eqP V L e)(r5:mgu [] E=some B6)(ab:mgu [] mD=some s.b)(mm:∀aQ,gv s.b aQ->gv B6 aQ)(aN:∀d∈s.d,∃e x,eqP V L e/\mgu [] (E++[e])=some x/\d=eG B6 x)(he:gq s=some t):mu V L mD t:=by obtain⟨ao,aF⟩:=aln he;obtain⟨s0,f0⟩:=sv sO rV r5;obtain⟨s1,f1⟩:=sv sO rV ab;refine⟨aem,by rw[ao];exact ab,fun w hw=>?_⟩;obtain⟨d,fk,z,bf,rfl⟩:=aF w hw;obtain⟨e,x,wm,ae,rfl⟩:=aN d fk;refine⟨e,z,wm,?_,by rw[ao]⟩;rw[G1 sO rV,r5,jK]at ae;rw[G1 sO rV,ab,jK,<-bf];refine pR (zw (fun aQ=>and_congr_right fun J=>?_) (yM s1 f1 (gY (eG B6 x))));have a6:=yL s0 f0 ae aQ;have bD:=yL s0 f0 (Vb s0 f0 ae) aQ;have bE:=mm aQ J;exact⟨fun h=>(a6.1 (bD.2 ⟨bE,h⟩)).2,fun h=>(bD.1 (a6.2 ⟨bE,h⟩)).2⟩
theorem ajY(V:List Int)(L:Nat)(n:Int):mu V L [] ⟨n,[],[],[],[]⟩:=⟨Ψ,G2 sO rV,Ψ⟩
theorem ajZ{V:List Int}{L:Nat}{E:List (T×T)}{s t:bP}(h:mu V L E s){x y:T}(ae:eqP V L (x,y))(he:rQ s x y=some t):mu V L (E++[(x,y)]) t:=by
 unfold rQ at he;obtain⟨b,J,U⟩:=iJ.1 he;obtain⟨s0,f0⟩:=sv sO rV h.b;refine DY (s:={s with b:=b}) (fun e he=>?_) h.b ?_ (fun aQ gL=>((yL s0 f0 J aQ).1 gL).1) h.d U
 ·rcases ih.1 he with he|he
  ·exact h.e e he
  ·rw[oF.1 he];exact ae
 ·rw[G1 sO rV,h.b,jK];exact J
theorem ajX{V:List Int}{L:Nat}{E:List (T×T)}{s t:bP}(h:mu V L E s){x y:T}(ae:eqP V L (x,y))(he:ti s x y=some t):mu V L E t:=by
 unfold ti at he;cases hu:mgu s.b [(x,y)]with
 |none=>rw[hu]at he;exact DY h.e h.b h.b (fun _ h=>h) h.d he
 |some b=>
  rw[hu]at he;simp only at he;split at he
  ·cases he
  ·refine DY (s:={s with d:=s.d++[eG s.b b]}) h.e h.b h.b (fun _ h=>h) (fun d aN=>?_) he;rcases ih.1 aN with aN|aN
   ·exact h.d d aN
   ·exact⟨(x,y),b,ae,by rw[G1 sO rV,h.b,jK];exact hu,oF.1 aN⟩
theorem aj0{V:List Int}{L:Nat}{E:List (T×T)}{s t:bP}(h:mu V L E s){x:T}{k:Int}(he:tP s x k=some t):mu V L E t:=by
 unfold tP at he;split at he
 ·obtain⟨l,J,U⟩:=iJ.1 he;exact DY (s:={s with k:=l}) h.e h.b h.b (fun _ h=>h) h.d U
 ·cases he
theorem aj1{V:List Int}{L:Nat}{E:List (T×T)}{s t:bP}(h:mu V L E s){x:T}{g:List UInt8}(he:tW s x g=some t):mu V L E t:=by
 unfold tW at he;split at he
 ·obtain⟨l,J,U⟩:=iJ.1 he;exact DY (s:={s with m:=l}) h.e h.b h.b (fun _ h=>h) h.d U
 ·cases he
theorem alK(aQ:Int->T):gv [] aQ:=fun _ h=>by simp at h
structure zM (n:Int) (s:bP):Prop where
 ok:nf s
 n:s.n=n
 t:kU [[97],[98]] s.m
theorem zM.tg{n:Int}{s:bP}(h:zM n s):BC s.m:=⟨_,Ψ,h.t⟩
theorem Ei{G:List (List UInt8)}{s t:bP}(hm:kU G s.m)(he:gq s=some t):kU G t.m:=by
 unfold gq at he;split at he
 ·cases he
 ·split at he
  ·cases he
  ·rename_i m e;split at he
   ·cases he
   ·split at he
    ·have U:=HJ hm (fun x ae=>by simp at ae) e;have ar:=eJ he;rw[<-ar];exact NL U
    ·cases he
theorem Eh{s t:bP}(h:hW s)(he:gq s=some t):t.n=s.n:=(zb h he).2.1
noncomputable def rJ(s:bP)(kd:Int)(x y:T)(k:Int)(g:List UInt8):Option bP:=if kd=0 then rQ s x y else if kd=1 then ti s x y else if kd=2 then tP s x k else tW s x g
theorem Zi{n:Int}{s t:bP}(h:zM n s){kd:Int}{x y:T}{k:Int}{g:List UInt8}(ae:x.fit=true)(aH:y.fit=true)(bx:fm n x=true)(lg:fm n y=true)(aX:g∈([[97],[98]]:List (List UInt8)))(he:rJ s kd x y k g=some t):zM n t:=by
 obtain⟨J,U,ar⟩:=h;subst U;have F4:iv g=true:=by simp only[fD,List.mem_nil_iff,or_false]at aX;rcases aX with rfl|rfl<;>decide
 unfold rJ at he;split at he
 ·refine⟨aad J.1 ae aH bx lg he,?_,?_⟩
  ·unfold rQ at he;obtain⟨b,ao,aF⟩:=iJ.1 he;exact Eh (s:={s with b:=b}) (J.1.bind ae aH bx lg ao) aF
  ·unfold rQ at he;obtain⟨b,ao,aF⟩:=iJ.1 he;exact Ei (s:={s with b:=b}) ar aF
 split at he
 ·refine⟨ZW J.1 ae aH bx lg he,?_,?_⟩;all_goals unfold ti at he
  all_goals
   cases hm:mgu s.b [(x,y)]with
   |none=>
    rw[hm]at he
    first|exact Eh J.1 he|exact Ei ar he
   |some b=>
    rw[hm]at he
    simp only at he
    split at he
    ·cases he
    ·first|exact Eh (s:={s with d:=s.d++[eG s.b b]}) (J.1.dif ae aH bx lg hm) he|exact Ei (s:={s with d:=s.d++[eG s.b b]}) ar he
 split at he
 ·refine⟨agZ J.1 ae bx he,?_,?_⟩;all_goals unfold tP at he
  all_goals split at he
  any_goals (cases he;done)
  all_goals rename_i g0
  all_goals obtain⟨l,ao,aF⟩:=iJ.1 he
  ·exact Eh (s:={s with k:=l}) (J.1.knd ae bx g0.1 ao) aF
  ·exact Ei (s:={s with k:=l}) ar aF
 ·refine⟨ahC J.1 ae bx F4 he,?_,?_⟩;all_goals unfold tW at he
  all_goals split at he
  any_goals (cases he;done)
  all_goals obtain⟨l,ao,aF⟩:=iJ.1 he
  ·exact Eh (s:={s with m:=l}) (J.1.mrk ae bx F4 ao) aF
  ·exact Ei (s:={s with m:=l}) (B3 ar aX ao) aF
theorem aaa{n:Int}(bE:0<=n)(J:n<=100000):nf ⟨n,[],[],[],[]⟩:=by
 refine⟨⟨⟨bE,J⟩,⟨by simp[j1],⟨Ψ,Ψ,Ψ⟩,by simp[fS]⟩,Ψ,⟨Ψ,Ψ⟩,⟨Ψ,by simp[hF]⟩,by simp[oM],Ψ,Ψ,Ψ⟩,?_⟩;have:jY []=[]:=List.eq_nil_iff_forall_not_mem.2 fun x ae=>by simp[vp]at ae
 simp[gq,fU,fQ,fG,this]
def vb(n:Nat):List Int:=(List.range n).map Int.ofNat
theorem ago(n:Nat):(vb n).length=n:=by simp[vb]
def xo(i:Int):List UInt8:=if i=0 then [97]else [98]
theorem al3(i:Int):xo i∈([[97],[98]]:List (List UInt8)):=by unfold xo;split<;>simp
noncomputable def zf(n:Int)(s:bP)(c:dQ):bP×dQ:=
 ((rJ s ((eL 3 n c).2.below 4) (eL 3 n c).1 (eL 5 n ((eL 3 n c).2.belowC 4)).1 (2+(eL 5 n ((eL 3 n c).2.belowC 4)).2.below 2) (xo (((eL 5 n ((eL 3 n c).2.belowC 4)).2.belowC 2).below 2))).getD s,
  ((eL 5 n ((eL 3 n c).2.belowC 4)).2.belowC 2).belowC 2)
noncomputable def pC(n:Int):Nat->bP->dQ->bP×dQ
 |0,s,c=>(s,c)
 |k+1,s,c=>pC n k (zf n s c).1 (zf n s c).2
theorem O0(k:Int):tS (rK k)=1:=by
 unfold rK;split
 ·rfl
 ·split<;>rfl
theorem ZZ(vars:Int){n:Nat}(ay:n<=2)(c:dQ):tS (eL n vars c).1=1:=by
 rw[eL,if_neg Ω];split
 ·rfl
 ·exact O0 _
theorem Z0(vars:Int){n:Nat}(ay:n<=5)(c:dQ):tS (eL n vars c).1<=2:=by
 rw[eL];split
 ·simp only[tS,ZZ vars (show n/2<=2 by omega)];omega
 ·split
  ·simp[tS]
  ·rw[O0];omega
structure vZ (n:Int) (t:T):Prop where
 f:t.fit=true
 b:fm n t=true
 l:tS t<=2
 o:∀v,t.occ v=true->0<=v/\v<n
 w:jH t=true
theorem ZB(k:Int):jH (rK k)=true:=by
 unfold rK;split
 ·rfl
 ·split
  ·generalize (k-2).toNat=j;rcases j with _|_|_|j<;>rfl
  ·rfl
theorem Z1(vars:Int)(n:Nat):∀c:dQ,jH (eL n vars c).1=true:=by
 induction n using rF with
 |ind n bU=>
  intro c;rw[eL];split
  ·simp only[jH,cE];exact⟨bU _ Ω _,bU _ Ω _⟩
  ·split
   ·rfl
   ·exact ZB _
theorem Fy{n:Int}(ay:n<=100001){z:Nat}(bf:z<=5)(c:dQ):vZ n (eL z n c).1:=by obtain⟨J,U,ar⟩:=ZY n ay z c;refine⟨by simp only[T.fit,cE,e6];exact⟨J,by split at ar<;>omega⟩,xP.2 fun v aC=>(U v aC).2,Z0 n bf c,U,Z1 n z c⟩
theorem U4{n:Nat}{v:Int}:v∈vb n↔0<=v/\v<n:=by
 simp only[vb,iy,List.mem_range];constructor
 ·rintro⟨a,h,rfl⟩;exact⟨rE a,by simpa using h⟩
 ·intro h;exact⟨v.toNat,Ω,by simp;omega⟩
theorem agp(n:Nat):(vb n).Nodup:=by unfold vb;rw[List.nodup_iff_pairwise_ne,List.pairwise_map];exact List.pairwise_lt_range.imp fun h e=>by have:=ar4 e;omega
structure nt (n:Nat) (K:Nat) (S:bP):Prop where
 s:zM n S
 k:S.d.length<=K
 p:∃E,mu (vb n) 2 E S
theorem Eg{s t:bP}(he:gq s=some t):t.d.length<=s.d.length:=by
 unfold gq at he;split at he
 ·cases he
 split at he
 ·cases he
 split at he
 ·cases he
 rename_i L h0;split at he
 ·have:=GP h0;have:=ahw L;rw[<-eJ he];simp only at*;omega
 ·cases he
theorem Zh{s t:bP}{kd:Int}{x y:T}{k:Int}{g:List UInt8}(he:rJ s kd x y k g=some t):t.d.length<=s.d.length+1:=by
 unfold rJ at he;split at he
 ·unfold rQ at he;obtain⟨b,ao,aF⟩:=iJ.1 he;have:=Eg aF;simp only at this;omega
 split at he
 ·unfold ti at he;split at he
  ·have:=Eg he;omega
  ·split at he
   ·cases he
   ·have:=Eg he;simp only[pf,List.length_singleton]at this;omega
 split at he
 ·unfold tP at he;split at he
  ·obtain⟨b,ao,aF⟩:=iJ.1 he;have:=Eg aF;simp only at this;omega
  ·cases he
 ·unfold tW at he;split at he
  ·obtain⟨b,ao,aF⟩:=iJ.1 he;have:=Eg aF;simp only at this;omega
  ·cases he
theorem Zj{V:List Int}{L:Nat}{E:List (T×T)}{s t:bP}(h:mu V L E s){kd:Int}{x y:T}{k:Int}{g:List UInt8}(ae:eqP V L (x,y))(he:rJ s kd x y k g=some t):∃mD,mu V L mD t:=by
 unfold rJ at he;split at he
 ·exact⟨_,ajZ h ae he⟩
 split at he
 ·exact⟨_,ajX h ae he⟩
 split at he
 ·exact⟨_,aj0 h he⟩
 ·exact⟨_,aj1 h he⟩
theorem vZ.eqP{n:Nat}{x y:T}(ae:vZ n x)(aH:vZ n y):eqP (vb n) 2 (x,y):=⟨⟨ae.l,aH.l⟩,fun v aC=>U4.2 (aC.elim (ae.o v) (aH.o v)),ae.w,aH.w⟩
theorem nt.add{n k:Nat}{s t:bP}(h:nt n k s){kd:Int}{x y:T}{kv:Int}{g:List UInt8}(ae:vZ n x)(aH:vZ n y)(aX:g∈([[97],[98]]:List (List UInt8)))(he:rJ s kd x y kv g=some t):nt n (k+1) t:=by obtain⟨E,dp⟩:=h.p;exact⟨Zi h.s ae.f aH.f ae.b aH.b aX he,by have:=Zh he;have:=h.k;omega,Zj dp (ae.eqP aH) he⟩
theorem nt.more{n k:Nat}{s:bP}(h:nt n k s):nt n (k+1) s:=⟨h.s,by have:=h.k;omega,h.p⟩
theorem alR{n:Nat}(ay:n<=100000){k:Nat}{s:bP}(h:nt n k s)(c:dQ):nt n (k+1) (zf n s c).1:=by
 unfold zf;simp only;generalize he:rJ _ _ _ _ _ _=o;cases o with
 |none=>exact h.more
 |some t=>exact h.add (Fy Ω Ω _) (Fy Ω Ω _) (al3 _) he
theorem alS(n:Int){s:bP}{c:dQ}(h:c.ok):(zf n s c).2.ok:=(((Cg 5 n _ ((Cg 3 n c h).below 4)).below 2).below 2)
theorem JD{n:Nat}(ay:n<=100000):∀(j:Nat) {k:Nat} {s:bP} (_:nt n k s) (c:dQ),nt n (k+j) (pC n j s c).1
 |0,k,s,h,c=>h
 |j+1,k,s,h,c=>by rw[show k+(j+1)=(k+1)+j by omega];exact JD ay j (alR ay h c) _
theorem Ry(n:Nat)(ay:n<=100000):nt n 0 ⟨n,[],[],[],[]⟩:=⟨⟨aaa Ω Ω,rfl,by simp[kU]⟩,Ψ,[],ajY _ _ _⟩
theorem nt.le{n k bI:Nat}{s:bP}(h:nt n k s)(ad:k<=bI):nt n bI s:=⟨h.s,by have:=h.k;omega,h.p⟩
noncomputable def DB(d:List Int)(p:Nat)(n:Nat):bP:=(pC n ((p6 d p).below 6).toNat ⟨n,[],[],[],[]⟩ ((p6 d p).belowC 6)).1
theorem ahd(d:List Int)(p:Nat){n:Nat}(ay:n<=100000):nt n 5 (DB d p n):=by have:=(p6 d p).below_le 6 Ω;have h:=JD ay ((p6 d p).below 6).toNat (Ry n ay) ((p6 d p).belowC 6);exact h.le Ω
theorem HV(s:bP):∃t:bP,∃q:Bool,pX s= .tuple [t.e,.bool q]/\(q=true->gq s=some t)/\(q=false->gq s=none):=by
 refine⟨_,_,rfl,(fun h=>?_),fun h=>?_⟩
 ·obtain⟨t,aM⟩:=fE.1 h;rw[Nu aM];exact aM
 ·cases e:gq s with
  |none=>rfl
  |some t=>rw[e]at h;cases h
open Classical in
noncomputable def HT(s:bP)(x y:T):ai:=match mgu s.b [(x,y)]with
 |none=>pX s
 |some b=>if eG s.b b=[]then .tuple [iI.e,.bool false]else pX {s with d:=s.d++[eG s.b b]}
theorem akW(s:bP)(x y:T):∃t:bP,∃q:Bool,HT s x y= .tuple [t.e,.bool q]/\(q=true->ti s x y=some t)/\(q=false->ti s x y=none):=by
 unfold HT ti;cases mgu s.b [(x,y)]with
 |none=>exact HV s
 |some b=>
  by_cases h:eG s.b b=[]
  ·simp only[if_pos h];exact⟨iI,false,rfl,(fun h=>by cases h),fun _=>trivial⟩
  ·simp only[if_neg h];exact HV _
theorem amX{s:bP}(h:hW s)(aN:s.d.length<=30)(hm:o7 s.m){x y:T}(ae:x.fit=true)(aH:y.fit=true)(bx:fm s.n x=true)(lg:fm s.n y=true)(kv:Int)(tag:List UInt8):bZ az 49 [s.e,.int .i64 1,x.e,y.e,.int .i64 kv,.str tag] (HT s x y):=by
 have aU:=N4 s.b x y h.b.sol h.b.fits;obtain⟨G,jS,aX⟩:=hm;unfold HT;cases hu:mgu s.b [(x,y)]with
 |none=>rw[hu]at aU;have bp:=BN h jS aX;simp only[pX]at bp⊢;generalize sK s=t at bp;generalize (gq s).isSome=q at bp;clear h hu;obtain⟨n,b,d,k,m⟩:=s;obtain⟨xt,xp,xq,xr,tm⟩:=t;simp only[bP.e,fH]at aU bp⊢;refine bz ic rU sB fun aT=>?_;unfold qQ;simp;((with_reducible repeat' first|refine aj ?_|refine aD aU ?_|refine aE aU ?_|refine aD bp ?_|refine aE bp ?_|simp|((first|apply bJ|apply bM|apply bL)<;>intro h<;>try simp at h))<;>(try exact cc));all_goals simp[bu,HD,aW,aY,aV]
 |some b0=>
  rw[hu]at aU;have b1:=N3 h.b (h.bind ae aH bx lg hu).b;simp only at b1;by_cases ay:eG s.b b0=[]
  ·simp only[if_pos ay];rw[ay]at b1;clear h hu;obtain⟨n,b,d,k,m⟩:=s;simp only[bP.e,fH,iI,cM,qG]at aU b1⊢;refine bz ic rU sB fun aT=>?_;unfold qQ;simp only at aN;simp;((with_reducible repeat' first|refine aj ?_|refine aD aU ?_|refine aE aU ?_|refine aD b1 ?_|refine aE b1 ?_|simp|((first|apply bJ|apply bM|apply bL)<;>intro h<;>try simp at h))<;>(try exact cc));all_goals simp[bu,HD,aW,aY,aV]
   all_goals(unfold lim;omega)
  ·simp only[if_neg ay];have bp:=BN (h.dif ae aH bx lg hu) jS aX;have av:0<(eG s.b b0).length:=List.length_pos_iff.2 ay;generalize eG s.b b0=w at bp b1 av ay⊢;simp only[pX]at bp⊢;generalize sK {s with d:=s.d++[w]}=t at bp;generalize (gq {s with d:=s.d++[w]}).isSome=q at bp;clear h hu;obtain⟨n,b,d,k,m⟩:=s;obtain⟨xt,xp,xq,xr,tm⟩:=t;simp only[bP.e,fH]at aU bp b1⊢;generalize r2:d++[w]=D at bp;simp only[cM]at b1;have hw:cM w= .slice 5 .no (w.map ak.e):=rfl;refine bz ic rU sB fun aT=>?_;unfold qQ;simp only at aN;simp;((with_reducible repeat' first|refine aj ?_|refine aD aU ?_|refine aE aU ?_|refine aD b1 ?_|refine aE b1 ?_|simp[av]|((first|apply bJ|apply bM|apply bL)<;>intro h<;>try simp at h))<;>(try exact cc));all_goals first|(refine⟨by unfold lim;omega,?_⟩)|skip
   rw[<-hw];rw[p7,Jy,r2];((with_reducible repeat' first|refine aj ?_|refine aD bp ?_|refine aE bp ?_|simp|((first|apply bJ|apply bM|apply bL)<;>intro h<;>try simp at h))<;>(try exact cc));all_goals simp[bu,HD,aW,aY,aV]
noncomputable def HW(s:bP)(x:T)(k:Int):ai:=if(x.ap (bh s.b)).size<=5000 then(match jk s.k (x.ap (bh s.b)) k with
 |none=>.tuple [iI.e,.bool false]
 |some l=>pX {s with k:=l})else .tuple [iI.e,.bool false]
theorem akY(s:bP)(x:T){k:Int}(ad:k=2\/k=3):∃t:bP,∃q:Bool,HW s x k= .tuple [t.e,.bool q]/\(q=true->tP s x k=some t)/\(q=false->tP s x k=none):=by
 unfold HW tP;by_cases g:(x.ap (bh s.b)).size<=5000
 ·rw[if_pos g,if_pos ⟨ad,g⟩];cases jk s.k (x.ap (bh s.b)) k with
  |none=>exact⟨iI,false,rfl,(fun h=>by cases h),fun _=>rfl⟩
  |some l=>exact HV _
 ·rw[if_neg g,if_neg fun h=>g h.2];exact⟨iI,false,rfl,(fun h=>by cases h),fun _=>rfl⟩
noncomputable def HX(s:bP)(x:T)(g:List UInt8):ai:=if(x.ap (bh s.b)).size<=5000 then(match j3 s.m (x.ap (bh s.b)) g with
 |none=>.tuple [iI.e,.bool false]
 |some l=>pX {s with m:=l})else .tuple [iI.e,.bool false]
theorem akZ(s:bP)(x:T)(g:List UInt8):∃t:bP,∃q:Bool,HX s x g= .tuple [t.e,.bool q]/\(q=true->tW s x g=some t)/\(q=false->tW s x g=none):=by
 unfold HX tW;by_cases g1:(x.ap (bh s.b)).size<=5000
 ·rw[if_pos g1,if_pos g1];cases j3 s.m (x.ap (bh s.b)) g with
  |none=>exact⟨iI,false,rfl,(fun h=>by cases h),fun _=>rfl⟩
  |some l=>exact HV _
 ·rw[if_neg g1,if_neg g1];exact⟨iI,false,rfl,(fun h=>by cases h),fun _=>rfl⟩
theorem amY{s:bP}(h:hW s)(hm:o7 s.m){x:T}(ae:x.fit=true)(bx:fm s.n x=true){k:Int}(ad:k=2\/k=3)(y:T)(tag:List UInt8):bZ az 49 [s.e,.int .i64 2,x.e,y.e,.int .i64 k,.str tag] (HW s x k):=by
 have aU:=zl s.b h.b.len x;have bp:=N6 s.k (by have:=q6 h.k;omega) h.k.asc (x.ap (bh s.b)) k;unfold HW;by_cases g:(x.ap (bh s.b)).size<=5000
 ·rw[gD g]at aU;rw[if_pos g];cases hu:jk s.k (x.ap (bh s.b)) k with
  |none=>rw[hu]at bp;generalize x.ap (bh s.b)=y at aU bp;clear h hu g;obtain⟨n,b,d,bI,m⟩:=s;simp only[bP.e,nQ,iI,l7,lD]at aU bp⊢;refine bz ic rU sB fun aT=>?_;unfold qQ;exact cD
  |some l=>rw[hu]at bp;obtain⟨G,jS,aX⟩:=hm;have b1:=BN (h.knd ae bx ad hu) jS aX;generalize x.ap (bh s.b)=y at aU bp;simp only[pX]at b1⊢;generalize sK {s with k:=l}=t at b1;generalize (gq {s with k:=l}).isSome=q at b1;clear h hu g;obtain⟨n,b,d,bI,m⟩:=s;obtain⟨xt,xp,xq,xr,tm⟩:=t;simp only[bP.e,nQ,jL,oG]at aU bp b1⊢;refine bz ic rU sB fun aT=>?_;unfold qQ;exact cD
 ·rw[ij g]at aU;rw[if_neg g];generalize x.ap (bh s.b)=y at aU bp;clear bp;clear h g;obtain⟨n,b,d,bI,m⟩:=s;simp only[bP.e,iI]at aU⊢;refine bz ic rU sB fun aT=>?_;unfold qQ;exact cD
theorem amZ{s:bP}(h:hW s)(hm:BC s.m){x:T}(ae:x.fit=true)(bx:fm s.n x=true){g:List UInt8}(aX:iv g=true)(y:T)(kv:Int):bZ az 49 [s.e,.int .i64 3,x.e,y.e,.int .i64 kv,.str g] (HX s x g):=by
 have aU:=zl s.b h.b.len x;have bp:=fun bf=>Yn s.m (hm.w.len h.m) (x.ap (bh s.b)) bf g h.m.asc;unfold HX;by_cases g1:(x.ap (bh s.b)).size<=5000
 ·have bp:=bp g1;rw[gD g1]at aU;rw[if_pos g1];cases hu:j3 s.m (x.ap (bh s.b)) g with
  |none=>rw[hu]at bp;generalize x.ap (bh s.b)=y at aU bp;clear h hu g1;obtain⟨n,b,d,bI,m⟩:=s;simp only[bP.e,iF,iI,l7,lD]at aU bp⊢;refine bz ic rU sB fun aT=>?_;unfold qQ;exact cD
  |some l=>rw[hu]at bp;obtain⟨G,jS,qg⟩:=hm.mrk hu;have b1:=BN (h.mrk ae bx aX hu) jS qg;generalize x.ap (bh s.b)=y at aU bp;simp only[pX]at b1⊢;generalize sK {s with m:=l}=t at b1;generalize (gq {s with m:=l}).isSome=q at b1;clear h hu g1;obtain⟨n,b,d,bI,m⟩:=s;obtain⟨xt,xp,xq,xr,tm⟩:=t;simp only[bP.e,iF,jL,oG]at aU bp b1⊢;refine bz ic rU sB fun aT=>?_;unfold qQ;exact cD
 ·rw[ij g1]at aU;rw[if_neg g1];generalize x.ap (bh s.b)=y at aU bp;clear bp;clear h g1;obtain⟨n,b,d,bI,m⟩:=s;simp only[bP.e,iI]at aU⊢;refine bz ic rU sB fun aT=>?_;unfold qQ;exact cD
theorem adH(c:dQ)(aq:c.ok):bH az 50 [.ptr (.obj 401) 0,.slice 1 .no [.str [97],.str [98]]] (cB c) fun r ah=>r= .str (xo (c.below 2))/\ah=cB (c.belowC 2):=by
 have ag:=gR c;have ab:=c.below_le 2 Ω;refine bH.mk mixed rr acB ajf Ψ ag.obj fun aT cI=>?_;unfold QI;unfold cB;simp;(refine cW.ob (x4 c aq 2) (gR _) co co (by simp[inObs,cB,Pv.look]) ?_;rintro r ah ⟨rfl,rfl⟩;refine⟨jw _ _,?_⟩;unfold cB;simp[cb]);generalize ad:c.below 2=k at ab⊢;rcases(by omega:k=0\/k=1)with rfl|rfl;all_goals(with_reducible repeat' first|refine aj ?_|simp)
 all_goals(refine cO.at (cB (c.belowC 2)) (.inl rfl) (gR _) (jw _ _) co co ?_;simp[cT,WM,aW,aY,aV,cB])
 all_goals simp[xo]
theorem am0{n:Int}{s:bP}(h:zM n s)(aN:s.d.length<=30){kd:Int}(ad:kd=0\/kd=1\/kd=2\/kd=3){x y:T}(ae:vZ n x)(aH:vZ n y){k:Int}(jC:k=2\/k=3){g:List UInt8}(aX:iv g=true):
  ∃t:bP,∃q:Bool,bZ az 49 [s.e,.int .i64 kd,x.e,y.e,.int .i64 k,.str g] (.tuple [t.e,.bool q])/\(q=true->rJ s kd x y k g=some t)/\(q=false->rJ s kd x y k g=none):=by
 have bx:=ae.b;have lg:=aH.b;rw[<-h.n]at bx lg;rcases ad with rfl|rfl|rfl|rfl
 ·obtain⟨t,q,ao,aF,bA⟩:=akX s x y;refine⟨t,q,?_,aF,bA⟩;rw[<-ao];exact amW h.ok.1 h.tg.w ae.f aH.f bx lg k g
 ·obtain⟨t,q,ao,aF,bA⟩:=akW s x y;refine⟨t,q,?_,aF,bA⟩;rw[<-ao];exact amX h.ok.1 aN h.tg.w ae.f aH.f bx lg k g
 ·obtain⟨t,q,ao,aF,bA⟩:=akY s x jC;refine⟨t,q,?_,aF,bA⟩;rw[<-ao];exact amY h.ok.1 h.tg.w ae.f bx jC y g
 ·obtain⟨t,q,ao,aF,bA⟩:=akZ s x g;refine⟨t,q,?_,aF,bA⟩;rw[<-ao];exact amZ h.ok.1 h.tg ae.f bx aX y k
theorem al4(i:Int):iv (xo i)=true:=by unfold xo;split<;>decide
theorem RA(n:Int):∀(i:Nat) (s:bP) (c:dQ),pC n (i+1) s c=zf n (pC n i s c).1 (pC n i s c).2
 |0,_,_=>rfl
 |i+1,s,c=>by rw[pC,RA n i];rfl
theorem Rz(n:Int):∀(i:Nat) {s:bP} {c:dQ},c.ok->(pC n i s c).2.ok
 |0,_,_,h=>h
 |i+1,_,_,h=>Rz n i (alS n h)
def zC(s:bP):List ai:=[.int .i64 s.n,.slice 5 .no (s.b.map ak.e),.slice 1 .no (s.d.map cM),.slice 2 .no (s.k.map b6.e),.slice 2 .no (s.m.map bo.e)]
def td(n:Int)(q:Bool)(s:bP):List ai:=if q then [.int .i64 n,.slice 5 .nil [],.slice 1 .nil [],.slice 2 .nil [],.slice 2 .nil []]else zC s
theorem adJ(n:Nat)(ay:n<=100000)(c:dQ)(aq:c.ok):bH az 20 [.ptr (.obj 401) 0,.int .i64 n,.int .i64 5] (cB c) fun r ah=>r=(pC n (c.below 6).toNat ⟨n,[],[],[],[]⟩ (c.belowC 6)).1.e/\ah=cB (pC n (c.below 6).toNat ⟨n,[],[],[],[]⟩ (c.belowC 6)).2:=by
 have ag:=gR c;have ab:=c.below_le 6 Ω;obtain⟨K,c4⟩:∃K:Nat,K=(c.below 6).toNat:=⟨_,rfl⟩;have aes:c.below 6=(K:Int):=Ω
 have CK:=aq.below 6;rw[<-c4];clear c4;refine bH.mk mixed rr ac2 ajG Ψ ag.obj fun aT cI=>?_;unfold Q9;unfold cB;simp;(with_reducible repeat' first|refine aj ?_|simp);(refine cW.ob (x4 c aq 6) (gR _) co co (by simp[inObs,cB,Pv.look]) ?_;rintro r ah ⟨rfl,rfl⟩;refine⟨jw _ _,?_⟩;unfold cB;simp[cb]);rw[aes];generalize c.belowC 6=bT at CK⊢;have pK:=fun i=>JD ay i (Ry n ay) bT;have eA:=fun i=>Rz n i (s:=⟨n,[],[],[],[]⟩) CK;have lQ:=fun i=>RA n i ⟨n,[],[],[],[]⟩ bT;generalize gm:(fun i=>pC n i ⟨n,[],[],[],[]⟩ bT)=F;have SK:∀i,pC n i ⟨n,[],[],[],[]⟩ bT=F i:=fun i=>by rw[<-gm]
 have qY:F 0=(⟨n,[],[],[],[]⟩,bT):=by rw[<-gm];rfl
 simp only[SK]at pK eA lQ⊢;clear gm SK;refine hQ (fun i (q:Bool)=>⟨[(0,.ptr (.obj 401) 0),(1,.int .i64 n),(6,.ptr (.loc 0) 0),(7,.ptr (.loc 1) 0),(8,.int .i64 (K-i))],[(.obj 401,(F i).2.e),(.loc 0,[.int .i64 0,.slice 5 .nil [],.slice 1 .nil [],.slice 2 .nil [],.slice 2 .nil []]),(.loc 1,td n q (F i).1)],[],2,[.obj 401]⟩) K (fun i q=>q=true->(F i).1=⟨n,[],[],[],[]⟩) true ⟨by simp[fresh,aP,aG,cn,inObs,Pv.look,q8,qY,td],en (by simp[fresh,aP,aG,cn,inObs,Pv.look,q8,qY,td]),eo (by simp[fresh,aP,aG,dV,inObs,Pv.look,q8,qY,td]),Ψ⟩ (fun _=>by rw[qY]) (fun q af _=>?_) (fun i q hi af _=>?_)
 ·have F1:=pK K;have S2:=eA K;generalize F K=fK at af F1 S2⊢;obtain⟨s,kC⟩:=fK;simp only at af F1 S2⊢;have aM:=F1.s;have iE:=am1 s aM.ok.1.b.len (fun z bf=>(aM.ok.1.d z bf).len) (by have:=q6 aM.ok.1.k;omega) (aM.tg.w.len aM.ok.1.m);clear pK eA lQ F1;obtain⟨ue,b,d,k,m⟩:=s;have afP:ue=n:=aM.n;subst afP;simp only[bP.e]at iE⊢;clear aM;cases q
  ·simp only[td,gO,if_false,zC];clear af;simp;(with_reducible repeat' first|refine aj ?_|refine aD iE ?_|refine aE iE ?_|simp);(refine cO.at (cB (kC)) (.inl rfl) (gR _) (jw _ _) co co ?_;simp[cT,M1,aW,aY,aV,cB])
  ·have af:=af rfl;simp only[bP.mk.injEq,true_and]at af;obtain⟨rfl,rfl,rfl,rfl⟩:=af;simp only[td,if_true,qG]at iE⊢;simp;(with_reducible repeat' first|refine aj ?_|refine aD iE ?_|refine aE iE ?_|simp);(refine cO.at (cB (kC)) (.inl rfl) (gR _) (jw _ _) co co ?_;simp[cT,M1,aW,aY,aV,cB])
 ·have hdi:=pK i;have iS:=eA i;have ha:=lQ i;have hle:i<=4:=Ω
  generalize F i=zV at af hdi iS ha⊢;obtain⟨s,kC⟩:=zV;simp only at af hdi iS ha⊢;have uU:=Cg 3 n _ iS;have ae:=Fy (n:=n) Ω (z:=3) Ω kC;have tt:=uU.below 4;have apc:=(eL 3 n kC).2.below_le 4 Ω;have aH:=Fy (n:=n) Ω (z:=5) Ω ((eL 3 n kC).2.belowC 4);have SZ:=Cg 5 n _ tt;have S0:=SZ.below 2;have nC:=(eL 5 n ((eL 3 n kC).2.belowC 4)).2.below_le 2 Ω;have ape:=S0.below 2;have fB:=am0 hdi.s (by have:=hdi.k;omega) (kd:=(eL 3 n kC).2.below 4) Ω ae aH (k:=2+(eL 5 n ((eL 3 n kC).2.belowC 4)).2.below 2) Ω (al4 (((eL 5 n ((eL 3 n kC).2.belowC 4)).2.belowC 2).below 2));obtain⟨t,ga,fB,aF,bA⟩:=fB;have GI:=Su n Ω 3 Ω kC iS;have lU:=x4 (eL 3 n kC).2 uU 4;have jF:=Su n Ω 5 Ω _ tt;have dg:=x4 _ SZ 2;have jo:=adH _ S0;unfold zf at ha;clear pK eA lQ hdi ae aH;generalize eL 3 n kC=eU at*;obtain⟨x,cx⟩:=eU;simp only at*;generalize cx.below 4=kd at*;generalize cx.belowC 4=dy at*;generalize eL 5 n dy=fP at*;obtain⟨y,kp⟩:=fP;simp only at*;generalize kp.below 2=bp at*;generalize kp.belowC 2=k1 at*;generalize xo (k1.below 2)=g at*;generalize k1.belowC 2=n4 at*;have ll:(K:Int)-i-1=K-(i+1):=Ω
  have gH:oZ (2+bp):=by unfold oZ;omega
  have u3:(0:Int)<(K:Int)-i:=Ω
  have wA:F (i+1)=(if ga then t else s,n4):=by
   cases ga
   ·rw[ha,bA rfl];rfl
   ·rw[ha,aF rfl];rfl
  have ay:(q&& !ga)=true->(F (i+1)).1=⟨n,[],[],[],[]⟩:=fun h=>by rw[cE,rC]at h;rw[wA,h.2];exact af h.1
  clear ha aF bA;cases q;rotate_left;obtain rfl:=af rfl;rotate_left;all_goals cases ga
  all_goals(try obtain⟨ue,b,d,k,m⟩:=s)
  all_goals obtain⟨xt,xp,xq,xr,tm⟩:=t
  all_goals simp only[bP.e,qG]at fB⊢
  all_goals simp only[td,gO,if_false,if_true,zC]
  all_goals simp[hi]
  all_goals(with_reducible repeat' first|refine aj ?_|simp[hi])
  all_goals(refine cW.ob (GI) (gR _) co co (by simp[inObs,cB,Pv.look]) ?_;rintro r ah ⟨rfl,rfl⟩;refine⟨jw _ _,?_⟩;unfold cB;simp[cb])
  all_goals(with_reducible repeat' first|refine aj ?_|simp)
  all_goals(refine gW.ob (lU) (gR _) (gR _) (jw _ _) co co (by simp[inObs,cB,Pv.look]) ?_;unfold cB;simp[cb])
  all_goals(with_reducible repeat' first|refine aj ?_|simp)
  all_goals(refine gW.ob (jF) (gR _) (gR _) (jw _ _) co co (by simp[inObs,cB,Pv.look]) ?_;unfold cB;simp[cb])
  all_goals(with_reducible repeat' first|refine aj ?_|simp)
  all_goals(refine gW.ob (dg) (gR _) (gR _) (jw _ _) co co (by simp[inObs,cB,Pv.look]) ?_;unfold cB;simp[cb])
  all_goals(with_reducible repeat' first|refine aj ?_|simp)
  all_goals(refine gW.ob (jo) (gR _) (gR _) (jw _ _) co co (by simp[inObs,cB,Pv.look]) ?_;unfold cB;simp[cb])
  all_goals(with_reducible repeat' first|refine aj ?_|refine aD fB ?_|refine aE fB ?_|simp[ll])
  all_goals refine bQ.rng (n:=K) _ hi ay ⟨by simp[fresh,aP,aG,cn,inObs,Pv.look,q8,wA,ll,td,zC],en (by simp[fresh,aP,aG,cn,inObs,Pv.look,q8,wA,ll,td,zC]),eo (by simp[fresh,aP,aG,dV,inObs,Pv.look,q8,wA,ll,td,zC]),Ψ⟩
theorem amu(d:List Int)(aN:uH d)(av:d.length<=10000000)(p:Nat)(bK:p<=1000000)(n:Nat)(ay:n<=100000):bZ az 6 [.slice 1 .no (iQ d),.int .i64 p,.int .i64 n] (DB d p n).e:=by have kN:=adJ n ay (p6 d p) (ZV aN av p);have gJ:(pC n ((p6 d p).below 6).toNat ⟨n,[],[],[],[]⟩ ((p6 d p).belowC 6)).1=DB d p n:=rfl;rw[gJ]at kN;generalize DB d p n=s at kN⊢;generalize (pC n ((p6 d p).below 6).toNat ⟨n,[],[],[],[]⟩ ((p6 d p).belowC 6)).2=cp at kN;clear gJ;obtain⟨ue,b,e,k,m⟩:=s;simp only[bP.e]at kN⊢;refine bz rr acs ai7 fun aT=>?_;unfold QA;simp;refine cW.new (adK d aN av p bK) ((dR.of ⟨by intro m;simp[Pv.look],by intro m;simp[Pv.look]⟩ d9 d9)) aK aK Ψ ?_;rintro r ah ⟨rfl,rfl⟩;refine⟨fun m _=>.inr Ψ,?_⟩;unfold cB;simp[cb];(refine cW.ob (kN) (gR _) co co (by simp[inObs,cB,Pv.look]) ?_;rintro r ah ⟨rfl,rfl⟩;refine⟨jw _ _,?_⟩;unfold cB;simp[cb]);exact cD
def oC:T->T
 | .sym s=>if s.head? =some 119 then .nil else .sym s
 | .pair a b=>.pair (oC a) (oC b)
 |t=>t
theorem EH:∀{t:T},oC t=t↔jH t=true
 | .sym s=>by simp only[oC,jH];split<;>simp_all
 | .pair a b=>by simp only[oC,jH,T.pair.injEq,cE,EH (t:=a),EH (t:=b)]
 | .var _=>by simp[oC,jH]
 | .nil=>by simp[oC,jH]
 | .num _=>by simp[oC,jH]
theorem It{aQ:Int->T}:∀t:T,oC (t.ap aQ)=(oC t).ap fun v=>oC (aQ v)
 | .sym s=>by simp only[T.ap,oC];split<;>rfl
 | .pair a b=>by simp only[T.ap,oC,It a,It b]
 | .var _=>rfl
 | .nil=>rfl
 | .num _=>rfl
theorem Vd{E:List (T×T)}{x:List ak}(dp:∀e∈E,jH e.1=true/\jH e.2=true)(h:mgu [] E=some x){c:ak}(aq:c∈x):jH c.t=true:=by
 have ae:=(sv sO rV h).1;have J:=(yL sO rV h (bh x)).1 (xg ae);have U:gv x fun v=>oC (bh x v):=(yL sO rV h _).2 ⟨alK _,fun e he=>by have ao:=J.2 e he;have aF:=eK oC ao;rw[It,It,EH.2 (dp e he).1,EH.2 (dp e he).2]at aF;exact aF⟩
 have ar:=U c aq;have ao:bh x c.v=c.t:=by unfold bh;rw[p5 ae.asc aq];rfl
 simp only[ao]at ar;rw[<-EH,ar];have aF:(c.t.ap fun v=>oC (bh x v))=c.t.ap T.var:=p4 fun u hu=>by have:=ae.free c aq u hu;unfold bh;rw[this];rfl
 rw[aF,OT]
theorem mu.b_w{V:List Int}{L:Nat}{E:List (T×T)}{s:bP}(h:mu V L E s){c:ak}(aq:c∈s.b):jH c.t=true:=Vd (fun e he=>(h.e e he).w) h.b aq
theorem mu.d_w{V:List Int}{L:Nat}{E:List (T×T)}{s:bP}(h:mu V L E s){d:List ak}(aN:d∈s.d){c:ak}(aq:c∈d):jH c.t=true:=by
 obtain⟨e,x,he,ae,rfl⟩:=h.d d aN;refine Vd (fun a bk=>?_) ae (lC.1 aq).1;rcases ih.1 bk with bk|bk
 ·exact(h.e a bk).w
 ·rw[oF.1 bk];exact he.w
def Ng(r:List ak):ai:= .slice 5 .no (r.map ak.e)
@[simp]theorem ara(r:List ak):eO (Ng r)=true:=rfl
@[simp]theorem aq9(r:List ak):cells (Ng r)=[Ng r]:=rfl
open Classical in
theorem Yt(l:List dF):bZ az 32 [.slice 5 .no (l.map dF.e)] (.bool (decide (uz l))):=by have k:=Yk l;refine bz ic acx ajb fun aT=>?_;unfold QE;exact cD
open Classical in
theorem anh{v:List ak}(aC:j1 v)(hS:fS v)(bk:gQ v):bZ az 32 [.slice 5 .no (v.map ak.e)] (.bool true):=by have e3:=Yt (v.map ak.b);rw[gD (uk.2 ⟨v,rfl,aC,bk,hS⟩),qu]at e3;exact e3
open Classical in
theorem Ys{v:List ak}(aC:j1 v)(hS:fS v)(bk:gQ v){t:T}(aM:t.fit=true):bZ az 131 [t.e,.slice 5 .no (v.map ak.e)] (.tuple [(if(t.ap (bh v)).size<=5000 then t.ap (bh v)else .nil).e,.bool (decide ((t.ap (bh v)).size<=5000))]):=by
 have dJ:=EA t.tm;rw[rN,b3.fits_T,aM]at dJ;have e3:=anh aC hS bk;have aU:=zl v (by have:=hS.1;omega) t;have bp:=N2 (t.ap (bh v));generalize t.ap (bh v)=y at aU bp⊢;by_cases g:y.size<=5000
 ·rw[if_pos g];rw[gD g]at aU⊢;clear g hS aC bk;refine bz ic RZ VL fun aT=>?_;unfold Jn;exact cD
 ·rw[if_neg g];rw[ij g]at aU⊢;clear g hS aC bk;refine bz ic RZ VL fun aT=>?_;unfold Jn;exact cD
theorem adb{n:Int}(h:0<=n/\n<=100000):(T.var n).fit=true:=by simp[T.fit,T.ok,T.size,h]
open Classical in
theorem am9{v:List ak}(aC:j1 v)(hS:fS v)(bk:gQ v){d:List ak}(aN:eN d):bZ az 81 [.slice 5 .no (d.map ak.e),.slice 5 .no (v.map ak.e)] (.bool (k2 v d)):=by
 have c7:=Ob aN;have tw:=aN.len;generalize bG:k2 v d=R;refine bz ic acp ai4 fun aT=>?_;unfold Qx;clear aT;simp;(with_reducible repeat' first|refine aj ?_|refine aD c7 ?_|refine aE c7 ?_|simp);refine dW [1,14,15] (fun i (_:Unit)=>[(16,.int .i64 i)]) d.length (kM (fun b=> !q2 v b) d) () bV (fun k b ad=>Ω) (fun _ af _=>?_) (fun i _ hi af _=>?_)
 ·have:R=false:=by rw[<-bG,k2,List.any_eq_false];intro b ab;have:=af.fin b ab;simpa using this
  subst this;clear af bG c7;exact cD
 ·obtain⟨b,ab,cw⟩:=ec hi;have gx:=ed ab;have aU:=Ys aC hS bk (adb (aN.ok b gx).1);have bp:=Ys aC hS bk (aN.fit b gx);have ao:((T.var b.v).ap (bh v)).size<=5000:=Nw hS b.v;rw[if_pos ao,gD ao,show(T.var b.v).ap (bh v)=bh v b.v from rfl]at aU;have b1:=Im (bh v b.v) (b.t.ap (bh v));have cu:q2 v b=(decide ((b.t.ap (bh v)).size<=5000)&& !decide (bh v b.v=b.t.ap (bh v))):=rfl;have h3:q2 v b=true->R=true:=fun h=>by rw[<-bG,k2,List.any_eq_true];exact⟨b,gx,h⟩
  have cF:=fun h:q2 v b=false=>af.step ab (by rw[h];rfl);have hc:=km b.v;clear af bG c7 ab ao gx aN aC hS bk;generalize q2 v b=H at cu h3 cF;by_cases bf:(b.t.ap (bh v)).size<=5000
  ·rw[if_pos bf,gD bf]at bp;rw[gD bf,Bool.true_and]at cu;generalize b.t.ap (bh v)=y at bp b1 cu;generalize bh v b.v=x at aU b1 cu;generalize decide (x=y)=q at b1 cu;cases q
   ·have:=h3 cu;subst this;exact cD
   ·have ay:=cF cu;exact gN
  ·rw[if_neg bf,ij bf]at bp;rw[ij bf,Bool.false_and]at cu;have ay:=cF cu;clear b1 cu;generalize bh v b.v=x at aU;exact gN
theorem aec(t:T):t.gnd=true↔ig t []=[]:=by
 have J:∀t:T,t.gnd=true↔∀w,t.occ w=false:=by
  intro t;induction t with
  |var n=>simp[T.gnd,T.occ]
  |pair a b dM dN=>simp only[T.gnd,T.occ,cE,Bool.or_eq_false_iff,dM,dN];exact⟨fun h w=>⟨h.1 w,h.2 w⟩,fun h=>⟨fun w=>(h w).1,fun w=>(h w).2⟩⟩
  |_=>simp[T.gnd,T.occ]
 rw[J,List.eq_nil_iff_forall_not_mem];simp[DE]
theorem ana{t:T}(aM:t.fit=true):bZ az 33 [t.e] (.bool t.gnd):=by
 have dJ:=EA t.tm;rw[rN,b3.fits_T,aM]at dJ;have dS:t.size<=5000:=by simp only[T.fit,cE,e6]at aM;exact aM.2
 have jl:=BQ t [];have e3:=Ez t [] d7 (by simp[s6]);have Aa:ek []=[]:=rfl;rw[Aa]at e3;have aX:=aec t;generalize ig t []=ba at e3 jl aX;cases ba with
 |nil=>rw[aX.2 rfl];rw[Aa]at e3;refine bz ic R0 VM fun aT=>?_;unfold Jo;exact cD
 |cons w ba=>
  rw[show t.gnd=false from by rw[<-Bool.not_eq_true,aX];simp];have av:¬((ba.length:Int)+1=0):=Ω
  have od:ba.length<=5000:=by simp at jl;omega
  clear aX jl dS aM;refine bz ic R0 VM fun aT=>?_;unfold Jo;simp;(with_reducible repeat' first|refine aj ?_|refine aD dJ ?_|refine aE dJ ?_|refine aD e3 ?_|refine aE e3 ?_|simp[e0,av]);all_goals simp[bu,WJ,aW,aY,aV]
  all_goals omega
theorem am8{t:T}(aM:t.fit=true)(s:List UInt8):bZ az 82 [t.e,.str s] (.bool (t.has s)):=by have dJ:=EA t.tm;rw[rN,b3.fits_T,aM]at dJ;have k:=Ip s t;refine bz ic aco ai3 fun aT=>?_;unfold Qw;exact cD
open Classical in
theorem am3{s:bP}(ag:hW s){v:List ak}(aC:nU s.n v):bZ az 34 [s.e,.slice 5 .no (v.map ak.e)] (.bool (decide (ou s v))):=by
 generalize bG:decide (ou s v)=R;have jl:v.length<=1000000:=by have:=aC.fits.1;omega
 have ks:=j1.fit aC.ok aC.fits;obtain⟨n,sJ,qA,sL,sm⟩:=s;have cF:¬ou ⟨n,sJ,qA,sL,sm⟩ v->R=false:=fun h=>by rw[<-bG,gC];exact h
 have h3:ou ⟨n,sJ,qA,sL,sm⟩ v->R=true:=fun h=>by rw[<-bG,e6];exact h
 clear bG;have jE:=ag.b;have e8:=jE.len;have cI:=ag.bb;have iX:=ag.d;have q0:=ag.k;have qh:=ag.kb;have og:=ag.mb;have tC:=ag.m;have hM:=q6 q0;simp only at jE e8 cI iX q0 qh og tC hM aC;clear ag;simp only[bP.e];refine bz ic ac4 ajI fun aT=>?_;unfold Rb;have tw:qA.length<=68719476736:=by simp[gS,gg,gE,lim]at aT;omega
 have lq:sm.length<=68719476736:=by simp[gS,gg,gE,lim]at aT;omega
 clear aT;simp;(with_reducible repeat' first|refine aj ?_|simp);refine dW [1,2,22,23] (fun i (_:Unit)=>[(24,.int .i64 i)]) sJ.length (kM (o3 v) sJ) () bV (fun k b ad=>Ω) (fun _ af _=>?_) (fun i _ hi af _=>?_);rotate_left
 ·obtain⟨b,ab,cw⟩:=ec hi;have gx:=ed ab;obtain⟨c,aq,aX,kt⟩:=aC.get (jE.ok b (ed ab)).1.1 (cI b (ed ab)).1;have aU:=rA v b.v jl;rw[aX]at aU;simp only[jL,oG]at aU;have bp:=zl v jl b.t;have b1:=Im c.t (b.t.ap (bh v));have cu:o3 v b=(decide ((b.t.ap (bh v)).size<=5000)&&decide (c.t=b.t.ap (bh v))):=by rw[o3,kt];congr 1;exact decide_eq_decide.2 eq_comm
  have e1:o3 v b=false->R=false:=fun h=>cF fun b4=>by have:=fM.1 b4.b b gx;rw[h]at this;cases this
  have dY:=fun h:o3 v b=true=>af.step ab h;clear af ab gx cF h3 aC ks aX aq kt;generalize o3 v b=H at cu e1 dY;by_cases bf:(b.t.ap (bh v)).size<=5000
  ·rw[gD bf]at bp;rw[gD bf,Bool.true_and]at cu;generalize b.t.ap (bh v)=y at bp b1 cu;generalize decide (c.t=y)=q at b1 cu;cases q
   ·rw[e1 cu];exact cD
   ·have ay:=dY cu;exact gN
  ·rw[ij bf]at bp;rw[ij bf,Bool.false_and]at cu;rw[e1 cu];generalize b.t.ap (bh v)=y at bp;clear b1;exact cD
 have jR:sJ.all (o3 v)=true:=fM.2 af.fin;clear af;simp;(with_reducible repeat' first|refine aj ?_|simp);refine dW [1,2,52,53] (fun i (_:Unit)=>[(54,.int .i64 i)]) qA.length (kM (k2 v) qA) () bV (fun k b ad=>Ω) (fun _ af _=>?_) (fun i _ hi af _=>?_);rotate_left
 ·obtain⟨b,ab,cw⟩:=ec hi;have gx:=ed ab;have aU:bZ az 81 [cM b,.slice 5 .no (v.map ak.e)] (.bool (k2 v b)):=am9 aC.ok aC.fits aC.asc (iX b gx);have e1:k2 v b=false->R=false:=fun h=>cF fun b4=>by have:=fM.1 b4.d b gx;rw[h]at this;cases this
  have dY:=fun h:k2 v b=true=>af.step ab h;clear af ab gx cF h3 aC ks;generalize k2 v b=q at aU e1 dY;cases q
  ·rw[e1 rfl];exact cD
  ·have ay:=dY rfl;exact gN
 have r2:qA.all (k2 v)=true:=fM.2 af.fin;clear af;simp;(with_reducible repeat' first|refine aj ?_|simp);refine dW [1,2,64,65] (fun i (_:Unit)=>[(66,.int .i64 i)]) sL.length (kM (fun k=>decide ((bh v k.v).kind=k.k)) sL) () bV (fun k b ad=>Ω) (fun _ af _=>?_) (fun i _ hi af _=>?_);rotate_left
 ·obtain⟨b,ab,cw⟩:=ec hi;have gx:=ed ab;obtain⟨c,aq,aX,kt⟩:=aC.get (q0.at' b (ed ab)).1.1 (qh b (ed ab));have aU:=rA v b.v jl;rw[aX]at aU;simp only[jL,oG]at aU;by_cases g:c.t.kind=b.k
  ·have ay:=af.step ab (by rw[kt];exact gD g);clear af ab gx cF h3 aC ks aX aq kt;exact gN
  ·rw[cF fun b4=>by have:=fM.1 b4.k b gx;rw[kt]at this;exact g (of_decide_eq_true this)]
   clear af ab gx cF h3 aC ks aX aq kt;simp[hi,cw];((with_reducible repeat' first|refine aj ?_|refine aD aU ?_|refine aE aU ?_|simp[cw,hi,g]|((first|apply bJ|apply bM|apply bL)<;>intro h<;>try simp at h))<;>(try exact cc));all_goals simp[bu,WY,aW,aY,aV]
 have c4:sL.all (fun k=>decide ((bh v k.v).kind=k.k))=true:=fM.2 af.fin;clear af;simp;(with_reducible repeat' first|refine aj ?_|simp);refine dW [1,84,85] (fun i (_:Unit)=>[(86,.int .i64 i)]) sm.length (kM (fun m=> !(bh v m.v).has m.s) sm) () bV (fun k b ad=>Ω) (fun _ af _=>?_) (fun i _ hi af _=>?_);rotate_left
 ·obtain⟨b,ab,cw⟩:=ec hi;have gx:=ed ab;obtain⟨c,aq,aX,kt⟩:=aC.get (tC.at' b (ed ab)).1.1 (og b (ed ab));have aU:=rA v b.v jl;rw[aX]at aU;simp only[jL,oG]at aU;have bp:=am8 (ks c (ed aq)) b.s;cases g:c.t.has b.s
  ·rw[g]at bp;have ay:=af.step ab (by rw[kt,g];rfl);clear af ab gx cF h3 aC ks aX aq kt;exact gN
  ·rw[g]at bp;rw[cF fun b4=>by have:=fM.1 b4.m b gx;rw[kt,g]at this;cases this]
   clear af ab gx cF h3 aC ks aX aq kt;exact cD
 rw[h3 ⟨jR,r2,c4,fM.2 af.fin⟩];clear af;exact cD
def Er(r:np)(l:List dF):Prop:= ∃s:bP,r=s.r/\nf s/\vc s l
theorem H8{s:bP}(h:nf s)(l:List dF):Er s.r l↔vc s l:=by
 constructor
 ·rintro⟨ah,e,_,U⟩;rw[bP.r_inj e];exact U
 ·intro U;exact⟨s,rfl,h,U⟩
open Classical in
theorem amo(r:np)(gJ:jb r.m->o7 r.m)(l:List dF):bZ az 8 [r.e,.slice 5 .no (l.map dF.e)] (.bool (decide (Er r l))):=by
 have c7:=X8 r gJ;by_cases g:sP r
 ·rw[gD g]at c7;obtain⟨s,rfl,ag⟩:=g;have aU:=amG ag.1 l;have e:decide (Er s.r l)=decide (vc s l):=decide_eq_decide.2 (H8 ag l);rw[e];rw[Eu]at c7⊢;generalize decide (vc s l)=q at aU⊢;obtain⟨n,b,d,k,m⟩:=s;simp only[bP.e]at c7 aU⊢;refine bz ic RQ VA fun aT=>?_;unfold I9;exact cD
 ·rw[ij g]at c7;rw[ij fun⟨s,J,U,_⟩=>g ⟨s,J,U⟩];obtain⟨n,b,d,k,m⟩:=r;simp only[np.e]at c7⊢;refine bz ic RQ VA fun aT=>?_;unfold I9;exact cD
open Classical in
theorem anb(r:np)(gJ:jb r.m->o7 r.m)(l:List dF):bZ az 9 [r.e,.slice 5 .no (l.map dF.e)] (.bool (decide (Er r l))):=by
 have c7:=ang r gJ;by_cases g:sP r;rotate_left
 ·rw[ij g]at c7;rw[ij fun⟨s,J,U,_⟩=>g ⟨s,J,U⟩];obtain⟨n,b,d,k,m⟩:=r;simp only[np.e]at c7⊢;refine bz ic FE Hb fun aT=>?_;unfold Cc;exact cD
 rw[gD g]at c7;obtain⟨s,rfl,ag⟩:=g;have e:decide (Er s.r l)=decide (vc s l):=decide_eq_decide.2 (H8 ag l);rw[e];rw[Eu]at c7⊢;have e3:=Yt l;generalize bG:decide (vc s l)=R;by_cases g1:uz l;rotate_left
 ·rw[ij g1]at e3;have:R=false:=by rw[<-bG,gC];rintro⟨v,rfl,h,_⟩;exact g1 (uk.2 ⟨v,rfl,h.ok,h.asc,h.fits⟩)
  subst this;clear bG g1 ag;obtain⟨n,b,d,k,m⟩:=s;simp only[bP.e]at c7 e3⊢;refine bz ic FE Hb fun aT=>?_;unfold Cc;exact cD
 rw[gD g1]at e3;obtain⟨v,rfl,oX,pN,hS⟩:=uk.1 g1;clear g1;rw[qu]at e3⊢;by_cases g2:(v.length:Int)=s.n;rotate_left
 ·have:R=false:=by rw[<-bG,gC];rintro⟨w,e,h,_⟩;rw[pz e]at g2;exact g2 h.len
  subst this;have x2:s.n≠(v.length:Int):=fun h=>g2 h.symm;clear bG ag oX pN hS;obtain⟨n,b,d,k,m⟩:=s;simp only[bP.e]at c7 e3 g2 x2⊢;refine bz ic FE Hb fun aT=>?_;unfold Cc;simp;((with_reducible repeat' first|refine aj ?_|refine aD c7 ?_|refine aE c7 ?_|refine aD e3 ?_|refine aE e3 ?_|simp[g2,x2]|((first|apply bJ|apply bM|apply bL)<;>intro h<;>try simp at h))<;>(try exact cc));all_goals simp[bu,MN,aW,aY,aV]
 have cF:¬(nU s.n v/\ou s v)->R=false:=fun h=>by rw[<-bG,gC];rintro⟨w,e,J,U⟩;rw[pz e]at h;exact h ⟨J,U⟩
 have h3:nU s.n v->decide (ou s v)=R:=fun J=>by rw[<-bG];exact decide_eq_decide.2 ⟨fun U=>⟨v,rfl,J,U⟩,fun⟨w,e,_,U⟩=>by rw[pz e];exact U⟩
 clear bG;have jl:v.length<=1000000:=by have:=hS.1;omega
 have ks:=j1.fit oX hS;have Ds:=fun aC:nU s.n v=>am3 ag.1 aC;obtain⟨n,sJ,qA,sL,sm⟩:=s;simp only[bP.e]at g2 cF h3 Ds c7⊢;subst g2;clear ag;refine bz ic FE Hb fun aT=>?_;unfold Cc;clear aT;simp;(with_reducible repeat' first|refine aj ?_|refine aD c7 ?_|refine aE c7 ?_|refine aD e3 ?_|refine aE e3 ?_|simp);refine dW [1,2,22,23] (fun i (_:Unit)=>[(24,.int .i64 i)]) v.length (Dn v) () bV (fun k b ad=>Ω) (fun _ af _=>?_) (fun i _ hi af _=>?_);rotate_left
 ·obtain⟨b,ab,cw⟩:=ec hi;have aU:=ana (ks b (ed ab));clear Ds h3 c7 e3 oX pN hS ks;by_cases g:b.v=(i:Int)/\b.t.gnd=true
  ·have ay:=af.step ab g;obtain⟨g1,g2⟩:=g;rw[g2]at aU;clear af ab cF;exact gN
  ·rw[cF fun h=>g ⟨h.1.at' _ _ ab,h.1.gnd _ (ed ab)⟩];clear af ab cF;by_cases g1:b.v=(i:Int)
   ·have g2:b.t.gnd=false:=by
     cases e:b.t.gnd with
     |false=>rfl
     |true=>exact absurd ⟨g1,e⟩ g
    rw[g2]at aU;exact cD
   ·simp[hi,cw];((with_reducible repeat' first|refine aj ?_|simp[cw,hi,g1]|((first|apply bJ|apply bM|apply bL)<;>intro h<;>try simp at h))<;>(try exact cc));all_goals simp[bu,MN,aW,aY,aV]
 have aC:nU v.length v:=⟨oX,pN,hS,rfl,fun i b ab=>(af i b (fb.1 ab).1 ab).1,fun b ab=>by obtain⟨i,hi⟩:=List.mem_iff_getElem?.1 ab;exact(af i b (fb.1 hi).1 hi).2⟩
 have Ds:=Ds aC;rw[h3 aC]at Ds;clear af e3 c7 h3 cF aC;exact cD
theorem T8{s:bP}{v:List ak}(h:nU s.n v):vc s (v.map ak.b)↔ou s v:=by
 constructor
 ·rintro⟨w,e,_,U⟩;rw[pz e];exact U
 ·intro U;exact⟨v,rfl,h,U⟩
open Classical in
theorem anc{s:bP}(h:nf s)(hm:o7 s.m){n:Nat}(ay:s.n=n){v:List ak}(aC:nU n v):bZ az 9 [s.e,.slice 5 .no (v.map ak.e)] (.bool (decide (ou s v))):=by rw[<-ay]at aC;have:=anb s.r (fun _=>hm) (v.map ak.b);rw[decide_eq_decide.2 ((H8 h _).trans (T8 aC)),Eu]at this;rwa[qu]at this
open Classical in
theorem amp{s:bP}(h:nf s)(hm:o7 s.m){n:Nat}(ay:s.n=n){v:List ak}(aC:nU n v):bZ az 8 [s.e,.slice 5 .no (v.map ak.e)] (.bool (decide (ou s v))):=by rw[<-ay]at aC;have:=amo s.r (fun _=>hm) (v.map ak.b);rw[decide_eq_decide.2 ((H8 h _).trans (T8 aC)),Eu]at this;rwa[qu]at this
end
end Go.Proofs.YtohaalphocaebaaGreatDoor
