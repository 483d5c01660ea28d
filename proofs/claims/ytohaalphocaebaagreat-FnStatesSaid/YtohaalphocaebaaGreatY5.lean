/- From a contract of a law of bytes to its row. -/
import Derived.Test.YtohaalphocaebaaGreatProg
import Derived.ProofKit
import Derived.Carry
import Derived.WalkKit
import Derived.Test.YtohaalphocaebaaGreatY4
set_option linter.all false
set_option maxHeartbeats 4000000
open Bool renaming and_eq_true→cx,eq_iff_iff→pV,false_eq_true→gr,not_eq_true'→rT,or_eq_true→lQ
open Go renaming Program→cy
open Go.IntKind renaming bits→mW,i64→mi,signed→qG
open Go.IntWalk renaming i64_in→lR
open Go.Op renaming bytesLess→gZ
open Go.Proofs.Tryz renaming prog→az
open Go.Result renaming andThen_ok→fB
open Go.Sem renaming run_bind→ft,run_pure→fZ
open Go.Value renaming cells→ou
open Int renaming natCast_nonneg→qH
open List renaming all_eq_true→jD,cons_append→bO,drop_eq_getElem_cons→kN,getElem?_eq_getElem→cv,getElem?_eq_none→pW,getElem?_eq_some_iff→fG,getElem_of_mem→ov,length_append→pa,length_cons→nB,length_drop→rV,map_cons→gI,map_nil→mj,mem_append→ja,mem_cons→ga,mem_cons_of_mem→mX,mem_filter→k3,mem_map→hH,mem_of_getElem?→gb,mem_singleton→rW,nil_append→bS,pairwise_cons→ml,pairwise_iff_getElem→pb,take→ox,take_length→mY,take_of_length_le→ha
open List.Nodup renaming length_le_of_subset→GX
open List.Pairwise renaming filter→GY
open List.cons renaming injEq→xX
open Nat renaming le_refl→e1,le_trans→ji,strongRecOn→qI
open Option renaming bind_eq_some_iff→hI,bind_some→h4,getD_none→jj,getD_some→jk,isSome_iff_exists→fm,isSome_none→jl,isSome_some→oy,map_eq_some_iff→gd
open Option.some renaming inj→fP,injEq→dt
open _root_ renaming False→ej,UInt8→cV,beq_iff_eq→dH,congrArg→eO,decide_eq_false→lS,decide_eq_false_iff_not→j4,decide_eq_true→lA,decide_eq_true_eq→fI
namespace Go.Proofs.YtohaalphocaebaaGreat
open Go Go.Pv
def bM.e(s:bM):ai:= .agg [.int .i64 s.n,.slice 5 .no (s.b.map al.e),.slice 1 .no (s.d.map cz),.slice 2 .no (s.k.map b6.e),.slice 2 .no (s.m.map bk.e)]
@[simp] theorem ann(S:aH→Prop)(s:bM):aF S s.e=True:=by simp[bM.e,aF,aO]
def jN(o:Option bM):ai:= .tuple [(o.getD fO).e,.bool o.isSome]
@[simp] theorem anl(S:aH→Prop)(o:Option bM):aF S (jN o)=True:=by simp[jN,aF,aO]
def tP(k:List b6)(i:Nat)(l:List (Int×Bool)):Prop:= ∀v,(tg v l).getD false=(k.take i).any fun x=>x.v==v&&x.k==3
theorem tP.put{k:List b6}{i:Nat}{l:List (Int×Bool)}(h:tP k i l){x:b6}(ad:k[i]? =some x)(ao:x.k=3):tP k (i+1) (eN x.v true l):=fun v=>by
 rw[mS,oi ad,List.any_append,←h v];by_cases e:v=x.v
 ·rw[if_pos e];simp[e,ao]
 ·rw[if_neg e];have:(x.v==v)=false:=by simp;exact fun h=>e h.symm
  simp[this]
theorem tP.skip{k:List b6}{i:Nat}{l:List (Int×Bool)}(h:tP k i l){x:b6}(ad:k[i]? =some x)(ao:¬x.k=3):tP k (i+1) l:=fun v=>by
 rw[oi ad,List.any_append,←h v];have:(x.k==3)=false:=by simp[ao]
 simp[this]
theorem tP.fin{k:List b6}{l:List (Int×Bool)}(h:tP k k.length l)(ab:jH k)(x:bk):(tg x.v l).getD false= !jf k x:=by rw[h x.v,mY,Xy ab.asc,jf,bne,Bool.not_not]
def sw(k:List b6)(m:List bk)(i:Nat)(a:List bk):Prop:=a=(m.take i).filter (jf k)
theorem sw.step{k:List b6}{m:List bk}{i:Nat}{a:List bk}(h:sw k m i a){x:bk}(ad:m[i]? =some x):sw k m (i+1) (if jf k x=true then a++[x]else a):=by
 rw[sw,oi ad,List.filter_append,←h];by_cases e:jf k x=true
 ·rw[if_pos e];simp[e]
 ·rw[if_neg e];simp[e]
theorem zg(S:aH→Prop)(l:List bk)(d:bk):aO S (l.map bk.e++[d.e])=True:=by have:=J4 S (l++[d]);rw[List.map_append]at this;exact eq_true this
theorem Tk{k:List b6}{m:List bk}(h:j0 m):j0 (m.filter (jf k)):=⟨fun x ad=>h.at' x (k3.1 ad).1,GY _ h.asc⟩
theorem GA{G:List (List cV)}{k:List b6}{m:List bk}(h:kH G m):kH G (m.filter (jf k)):=fun x ad=>h x (k3.1 ad).1
theorem pE.skip{b:List al}{k:List b6}{m:List bk}{D:List (List al)}{i:Nat}{a:List (List al)}(h:pE b k m D i a){d:List al}(aK:D[i]? =some d)(he:∀r,ey b k m (d::r)=ey b k m r):pE b k m D (i+1) a:=⟨by have:=h.1;omega,h.2.1,by rw[←h.2.2,zl aK,he]⟩
theorem pE.snoc{b:List al}{k:List b6}{m:List bk}{D:List (List al)}{i:Nat}{a:List (List al)}(h:pE b k m D i a){d x:List al}(aK:D[i]? =some d)(ad:en x)(he:∀r,ey b k m (d::r)=(ey b k m r).map (x:: ·)):pE b k m D (i+1) (a++[x]):=
 ⟨by have:=h.1;simp;omega,fun y aG=>by
  rcases ja.1 aG with aG|aG
  ·exact h.2.1 y aG
  ·simp at aG;subst aG;exact ad,by
  rw[←h.2.2,zl aK,he,Option.map_map];congr 1;funext r;simp⟩
theorem pE.stop{b:List al}{k:List b6}{m:List bk}{D:List (List al)}{i:Nat}{a:List (List al)}(h:pE b k m D i a){d:List al}(aK:D[i]? =some d)(he:∀r,ey b k m (d::r)=none):ey b k m D=none:=by rw[←h.2.2,zl aK,he];rfl
theorem pE.fin{b:List al}{k:List b6}{m:List bk}{D:List (List al)}{a:List (List al)}(h:pE b k m D D.length a):ey b k m D=some a:=by rw[←h.2.2,List.drop_length];simp[ey]
theorem sB(S:aH→Prop)(l:List (List al))(d:List al):aO S (l.map cz++[.slice 5 .no (d.map al.e)])=True:=xc S l d
theorem AS{d:List al}(aK:en d):∀e∈fN d,e.1.ok=true∧e.2.ok=true:=fun e he=>by obtain⟨c,av,rfl⟩:=hH.1 he;have:=aK.ok c av;exact⟨by simpa[T.ok]using this.1,this.2⟩
set_option maxRecDepth 4000 in
theorem Al{s:bM}(h:h2 s){G:List (List cV)}(hd:G.length≤687000)(aS:kH G s.m):b7 az 50 [s.e] (jN (eU s)):=by
 generalize de:eU s=O;have kk:=Wh h.b h.k;have kl:=Wi h.b h.m hd aS;have jZ:=fun k=>F5 (acc:=[]) (a:=k) h.b h.k.at' ⟨by simp,by simp⟩;have pP:=fun m=>Cy (acc:=[]) (a:=m) h.b h.m.at' ⟨by simp,by simp[hb]⟩;have mw:=fun m=>Cz (acc:=[]) (a:=m) (s:=s.b) aS (fun x ad=>by simp at ad);have ae:=h.b;have aK:=h.d;clear h aS;unfold eU at de;obtain⟨n,b,d,gF,m0⟩:=s;simp only at kk kl jZ pP mw ae aK de;have fp:=ae.len;simp only[bM.e];generalize fF b gF []=ok at kk de jZ;generalize fx b m0 []=om at kl de pP mw;cases ok with
 |none=>
  simp only at de;subst de;simp only[fy]at kk;simp only[hF]at kl;clear jZ pP mw;refine bE ny Im KO fun aU=>?_;unfold DJ;simp;(with_reducible repeat' first|refine aj ?_|refine aC kk ?_|refine aD kk ?_|refine aC kl ?_|refine aD kl ?_|simp);all_goals simp[bz,zN,aV,aY,aT]
  all_goals simp[jN,fO,bM.e]
 |some k=>
  simp only at de;cases om with
  |none=>
   simp only at de;subst de;simp only[fy]at kk;simp only[hF]at kl;clear jZ pP mw;refine bE ny Im KO fun aU=>?_;unfold DJ;simp;(with_reducible repeat' first|refine aj ?_|refine aC kk ?_|refine aD kk ?_|refine aC kl ?_|refine aD kl ?_|simp);all_goals simp[bz,zN,aV,aY,aT]
   all_goals simp[jN,fO,bM.e]
  |some m=>
   simp only at de;have u5:=jZ k rfl;have wX:=pP m rfl;have wR:=mw m rfl;have iy:=oX u5;have mD:m.length≤68719470000:=by have:=B6 wX wR;omega
   have yQ:=Tk (k:=k) wX;have yJ:=GA (k:=k) wR;have ac9:(m.filter (jf k)).length≤68719470000:=ji (List.length_filter_le _ _) mD;simp only[fy,jk,oy]at kk;simp only[hF,jk,oy]at kl;clear jZ pP mw;refine bE ny Im KO fun aU=>?_;unfold DJ;have Ri:d.length≤68719476736:=by simp[h9,ho,hV,lim]at aU;omega
   simp;(with_reducible repeat' first|refine aj ?_|refine aC kk ?_|refine aD kk ?_|refine aC kl ?_|refine aD kl ?_|simp);refine ir (fun i (l:List (Int×Bool))=>⟨[(1,.ptr (.loc 0) 0),(2,.ptr (.loc 1) 0),(4,.slice 2 .no (k.map b6.e)),(6,.slice 2 .no (m.map bk.e)),(8,.gmap (.loc 2)),(49,.slice 2 .no (k.map b6.e)),(50,.int .i64 k.length),(51,.int .i64 i)],[(.loc 0,[.int .i64 n,.slice 5 .no (b.map al.e),.slice 1 .no (d.map cz),.slice 2 .no (gF.map b6.e),.slice 2 .no (m0.map bk.e)]),(.loc 1,[.int .i64 0,.slice 5 .nil [],.slice 1 .nil [],.slice 2 .nil [],.slice 2 .nil []]),(.loc 2,pL l)],[],3,[]⟩) k.length (tP k) [] ⟨by simp[fresh,aO,aF,cl,inObs,Pv.look,Ke],eF (by simp[fresh,aO,aF,cl,inObs,Pv.look,Ke]),eG (by simp[fresh,aO,aF,eb,inObs,Pv.look,Ke]),by simp⟩ (fun v=>by simp[tg]) (fun l ag _=>?_) (fun i l hi ag _=>?_);rotate_left
   ·obtain⟨x,ad,di⟩:=fE hi;by_cases ao:x.k=3
    ·have ar:=ag.put ad ao;clear ag ad;exact ko
    ·have ar:=ag.skip ad ao;have sd:(x.k==3)=false:=by simp[ao]
     clear ag ad;exact ko
   have hints:=ag.fin u5;clear ag;simp;(with_reducible repeat' first|refine aj ?_|simp);refine ir (fun i (a:List bk)=>⟨[(1,.ptr (.loc 0) 0),(2,.ptr (.loc 1) 0),(4,.slice 2 .no (k.map b6.e)),(8,.gmap (.loc 2)),(11,.slice 2 (.own (.loc 3)) (a.map bk.e)),(63,.slice 2 .no (m.map bk.e)),(64,.int .i64 m.length),(65,.int .i64 i)],[(.loc 0,[.int .i64 n,.slice 5 .no (b.map al.e),.slice 1 .no (d.map cz),.slice 2 .no (gF.map b6.e),.slice 2 .no (m0.map bk.e)]),(.loc 1,[.int .i64 0,.slice 5 .nil [],.slice 1 .nil [],.slice 2 .nil [],.slice 2 .nil []]),(.loc 2,pL l)],[(.loc 3,⟨a.length,106,2,none⟩)],4,[]⟩) m.length (sw k m) [] cu (by simp[sw]) (fun a ag _=>?_) (fun i a hi ag _=>?_);rotate_left
   ·obtain⟨x,ad,di⟩:=fE hi;have pt:a.length≤68719470000:=by
     have:a.length≤(m.take i).length:=by rw[ag];exact List.length_filter_le _ _
     simp at this;omega
    have ar:=ag.step ad;have bn:=hints x;cases aQ:jf k x
    ·rw[aQ]at ar bn;simp only[gr,if_false,Bool.not_false]at ar bn;clear ag ad aQ;simp[hi,di];((with_reducible repeat' first|refine aj ?_|simp[hi,di,bn]|((first|apply bI|apply bK|apply bJ)<;>intro h<;>try simp at h))<;>(try exact cm));all_goals exact bT.rng a hi ar cu
    ·rw[aQ]at ar bn;simp only[if_true,Bool.not_true]at ar bn;clear ag ad aQ;simp[hi,di];((with_reducible repeat' first|refine aj ?_|simp[hi,di,bn]|((first|apply bI|apply bK|apply bJ)<;>intro h<;>try simp at h))<;>(try exact cm));all_goals first|(refine⟨by unfold lim;omega,?_⟩)|skip
     all_goals(with_reducible repeat' first|refine aj ?_|simp)
     all_goals exact bT.rng (a++[x]) hi ar ⟨by simp[fresh,aO,aF,cl,inObs,Pv.look,zg],eF (by simp[fresh,aO,aF,cl,inObs,Pv.look,zg]),eG (by simp[fresh,aO,aF,eb,inObs,Pv.look,zg]),by simp⟩
   rw[sw,mY]at ag;rw[←ag]at yQ yJ ac9 de;clear ag hints iy wX wR;simp;(with_reducible repeat' first|refine aj ?_|simp);refine ir (fun i (L:List (List al))=>⟨[(1,.ptr (.loc 0) 0),(2,.ptr (.loc 1) 0),(4,.slice 2 .no (k.map b6.e)),(11,.slice 2 (.own (.loc 3)) (a.map bk.e)),(14,.slice 1 (.own (.loc 4)) (L.map cz)),(81,.slice 1 .no (d.map cz)),(82,.int .i64 d.length),(83,.int .i64 i)],[(.loc 0,[.int .i64 n,.slice 5 .no (b.map al.e),.slice 1 .no (d.map cz),.slice 2 .no (gF.map b6.e),.slice 2 .no (m0.map bk.e)]),(.loc 1,[.int .i64 0,.slice 5 .nil [],.slice 1 .nil [],.slice 2 .nil [],.slice 2 .nil []])],[(.loc 3,⟨a.length,106,2,none⟩),(.loc 4,⟨L.length,23,1,none⟩)],5,[]⟩) d.length (pE b k a d) [] cu ⟨by simp,by simp,by simp⟩ (fun L ag _=>?_) (fun i L hi ag _=>?_)
   ·have hz:=ag.fin;have uZ:=ag.2.1;rw[hz]at de;simp only at de;have h0:=ajQ L uZ;have hO:b7 az 119 [.slice 5 .no (b.map al.e)] (.slice 5 .no (b.map al.e)):=C1 b fp;clear ag hz uZ;generalize iE L=M at h0 de;by_cases k9:M.length≤30
    ·have nP:¬(30:Int)<M.length:=by omega
     rw[if_pos k9]at de;subst de;simp;(with_reducible repeat' first|refine aj ?_|refine aC h0 ?_|refine aD h0 ?_|refine aC hO ?_|refine aD hO ?_|simp[k9,nP]);all_goals simp[bz,zN,aV,aY,aT]
     all_goals simp[jN,bM.e]
    ·have nP:(30:Int)<M.length:=by omega
     rw[if_neg k9]at de;subst de;simp;(with_reducible repeat' first|refine aj ?_|refine aC h0 ?_|refine aD h0 ?_|refine aC hO ?_|refine aD hO ?_|simp[k9,nP]);all_goals simp[bz,zN,aV,aY,aT]
     all_goals simp[jN,fO,bM.e]
   ·obtain⟨x,ad,di⟩:=fE hi;have gL:=aK x (gb ad);have QW:=ag.1;have hC:b7 az 122 [.slice 5 .no (b.map al.e),cz x] (eZ (mgu b (fN x))):=ajK ae gL;simp only[eZ]at hC;cases hu:mgu b (fN x)with
    |none=>have ar:=ag.skip ad fun r=>J8 hu;rw[hu]at hC;simp only[jj,jl]at hC;clear ag ad de;exact ko
    |some y=>
     have hZ:=ae.mgu (AS gL) hu;rw[hu]at hC;simp only[jk,oy]at hC;have cY:=Wh hZ u5;have eh:=Wi hZ yQ hd yJ;have hD:=Wg ae hZ;simp only[fy]at cY;simp only[hF]at eh;by_cases jt:fF y k []=none∨fx y a []=none
     ·have ar:=ag.skip ad fun r=>Fi hu jt;clear ag ad de hu;rcases jt with e|e
      ·rw[e]at cY;simp only[jj,jl]at cY;exact ko
      ·rw[e]at eh;simp only[jj,jl]at eh;cases (fF y k []).isSome
       ·simp[hi,di];((with_reducible repeat' first|refine aj ?_|refine aC hC ?_|refine aD hC ?_|refine aC cY ?_|refine aD cY ?_|refine aC eh ?_|refine aD eh ?_|simp[hi,di]|((first|apply bI|apply bK|apply bJ)<;>intro h<;>try simp at h))<;>(try exact cm));all_goals exact bT.rng L hi ar cu
       ·simp[hi,di];((with_reducible repeat' first|refine aj ?_|refine aC hC ?_|refine aD hC ?_|refine aC cY ?_|refine aD cY ?_|refine aC eh ?_|refine aD eh ?_|simp[hi,di]|((first|apply bI|apply bK|apply bJ)<;>intro h<;>try simp at h))<;>(try exact cm));all_goals exact bT.rng L hi ar cu
     ·have ak:(fF y k []).isSome=true:=by cases e:fF y k []with|none=>exact absurd (.inl e) jt|some _=>rfl
      have aA:(fx y a []).isSome=true:=by cases e:fx y a []with|none=>exact absurd (.inr e) jt|some _=>rfl
      rw[ak]at cY;rw[aA]at eh;by_cases cC:ds b y=[]
      ·have af:=ag.stop ad fun r=>J7 hu jt cC;rw[af]at de;simp only at de;subst de;rw[cC]at hD;simp only[mj]at hD;clear ag ad hu jt;simp[hi,di];((with_reducible repeat' first|refine aj ?_|refine aC hC ?_|refine aD hC ?_|refine aC cY ?_|refine aD cY ?_|refine aC eh ?_|refine aD eh ?_|refine aC hD ?_|refine aD hD ?_|simp[hi,di]|((first|apply bI|apply bK|apply bJ)<;>intro h<;>try simp at h))<;>(try exact cm));all_goals simp[bz,zN,aV,aY,aT]
       all_goals simp[jN,fO,bM.e]
      ·have ar:=ag.snoc ad (Cd (b:=b) hZ) fun r=>Fj hu jt cC;have u6:¬((ds b y).length:Int)=0:=by have:(ds b y).length≠0:=fun h=>cC (List.length_eq_zero_iff.1 h);omega
       have u7:(((ds b y).length:Int)==0)=false:=by simp[cC]
       have E9:b7 az 123 [.slice 5 .no (b.map al.e),.slice 5 .no (y.map al.e)] (cz (ds b y)):=hD;clear ag ad hu jt de hD;generalize ds b y=z at E9 ar u6 u7 cC;simp only[cz]at E9;simp[hi,di];(with_reducible repeat' first|refine aj ?_|refine aC hC ?_|refine aD hC ?_|refine aC cY ?_|refine aD cY ?_|refine aC eh ?_|refine aD eh ?_|refine aC E9 ?_|refine aD E9 ?_|simp[hi,di,u6,u7,cC]);all_goals first|(refine⟨by unfold lim;omega,?_⟩)|skip
       all_goals(with_reducible repeat' first|refine aj ?_|simp)
       all_goals exact bT.rng (L++[z]) hi ar ⟨by simp[fresh,aO,aF,cl,inObs,Pv.look,sB,cz],eF (by simp[fresh,aO,aF,cl,inObs,Pv.look,sB,cz]),eG (by simp[fresh,aO,aF,eb,inObs,Pv.look,sB,cz]),by simp⟩
structure na where
 n:Int
 b:List dU
 d:List (List dU)
 k:List b6
 m:List bk
def bM.r(s:bM):na:=⟨s.n,s.b.map al.b,s.d.map fun x=>x.map al.b,s.k,s.m⟩
def rM(r:na):Prop:= ∃s:bM,r=s.r∧jO s
def jW(n:Int)(x:List dU):Prop:= ∃s:List al,x=s.map al.b∧en s∧pf s n
structure Vf (r:na):Prop where
 n:0≤r.n∧r.n≤100000
 b:jW r.n r.b
 d:∀x∈r.d,jW r.n x
 k:jH r.k
 m:j0 r.m
 kb:∀x∈r.k,x.v<r.n
 mb:∀x∈r.m,x.v<r.n
theorem rM.raw{r:na}(h:rM r):Vf r:=by obtain⟨s,rfl,J,_⟩:=h;exact⟨J.n,⟨s.b,rfl,J.b,J.bb⟩,fun x ad=>by obtain⟨y,aG,rfl⟩:=hH.1 ad;exact⟨y,rfl,J.d y aG,J.db y aG⟩,J.k,J.m,J.kb,J.mb⟩
theorem x8:∀{a b:List al},a.map al.b=b.map al.b→a=b
 |[],b,h=>by cases b<;>simp at h⊢
 |x::a,[],h=>by simp at h
 |x::a,y::b,h=>by simp only[gI,xX,al.b,dU.mk.injEq]at h;rw[x8 h.2];have:=Mf h.1.2;obtain⟨⟨J,_⟩,_⟩:=h;cases x;cases y;simp_all
theorem Nf:∀{a b:List (List al)},(a.map fun x=>x.map al.b)=(b.map fun x=>x.map al.b)→a=b
 |[],b,h=>by cases b<;>simp at h⊢
 |x::a,[],h=>by simp at h
 |x::a,y::b,h=>by rw[gI,gI,xX]at h;rw[Nf h.2,x8 h.1]
theorem bM.r_inj{s t:bM}(h:s.r=t.r):s=t:=by obtain⟨n,b,d,k,m⟩:=s;obtain⟨n',b0,cj,bD,km⟩:=t;simp only[bM.r,na.mk.injEq]at h;obtain⟨J,U,ao,aZ,b1⟩:=h;rw[J,x8 U,Nf ao,aZ,b1]
theorem Py{n:Int}:∀{d:List (List dU)},(∀x∈d,jW n x)→∃D:List (List al),d=(D.map fun x=>x.map al.b)∧(∀x∈D,en x)∧∀x∈D,pf x n
 |[],_=>⟨[],rfl,by simp,by simp⟩
 |x::d,h=>by
  obtain⟨D,J,U,ao⟩:=Py (d:=d) fun y aG=>h y (by simp[aG]);obtain⟨s,ak,aA,bs⟩:=h x (by simp);refine⟨s::D,by rw[J,ak];rfl,fun y aG=>?_,fun y aG=>?_⟩
  ·rcases ga.1 aG with rfl|aG
   ·exact aA
   ·exact U y aG
  ·rcases ga.1 aG with rfl|aG
   ·exact bs
   ·exact ao y aG
theorem aje{s:bM}(h:h2 s):rM s.r↔eU s=some s:=by
 constructor
 ·rintro⟨t,e,_,U⟩;rw[bM.r_inj e];exact U
 ·intro U;exact⟨s,rfl,h,U⟩
theorem Gz{l:List dU}:G9 l↔∃s:List al,l=s.map al.b∧en s:=⟨fun⟨s,J,U,ao,aZ⟩=>⟨s,J,U,ao,aZ⟩,fun⟨s,J,U⟩=>⟨s,J,U.ok,U.sol,U.fits⟩⟩
def uT{α:Type}(a b:List α)(i:Nat)(_:Unit):Prop:= ∀k,k<i→a[k]? =b[k]?
theorem uT.fin{α:Type}{a b:List α}(h:uT a b b.length ())(aq:a.length=b.length):a=b:=by
 apply List.ext_getElem?;intro k;by_cases ab:k<b.length
 ·exact h k ab
 ·rw[pW (by omega),pW (by omega)]
theorem uT.step{α:Type}{a b:List α}{i:Nat}(h:uT a b i ()){x:α}(br:a[i]? =some x)(ae:b[i]? =some x):uT a b (i+1) ():=fun k ab=>by
 rcases(by omega:k<i∨k=i)with J|rfl
 ·exact h k J
 ·rw[br,ae]
def vl{α:Type}(p:α→Prop)(s:List α)(i:Nat)(_:Unit):Prop:= ∀k b,k<i→s[k]? =some b→p b
theorem vl.step{α:Type}{p:α→Prop}{s:List α}{i:Nat}(h:vl p s i ()){b:α}(ae:s[i]? =some b)(bF:p b):vl p s (i+1) ():=fun k c ab av=>by
 rcases(by omega:k<i∨k=i)with J|rfl
 ·exact h k c J av
 ·rw[ae]at av;cases av;exact bF
theorem vl.fin{α:Type}{p:α→Prop}{s:List α}(h:vl p s s.length ()):∀b∈s,p b:=fun b ae=>by obtain⟨k,ab,e⟩:=ov ae;exact h k b ab (by rw[cv ab,e])
@[simp] theorem akX(neg:Bool)(x y:b6):lW neg (some [false,false]) x.e y.e=some (True,.bool (if neg then !decide (x=y)else decide (x=y))):=by
 have h:(x.v==y.v&&(x.k==y.k&&true))=decide (x=y):=by rw[pV];simp only[Bool.and_true,cx,dH,fI];cases x;cases y;simp
 rw[←h];rfl
@[simp] theorem akY(neg:Bool)(x y:bk):lW neg (some [false,true]) x.e y.e=some (True,.bool (if neg then !decide (x=y)else decide (x=y))):=by
 have h:(x.v==y.v&&(x.s==y.s&&true))=decide (x=y):=by rw[pV];simp only[Bool.and_true,cx,dH,fI];cases x;cases y;simp
 rw[←h];rfl
theorem ajV(x y:List al)(h:x.length≤1000000):b7 az 135 [cz x,cz y] (.bool (decide (x=y))):=Mq x y h
set_option maxRecDepth 4000 in
theorem ako(a c:bM)(mz:a.b.length≤1000000)(Be:∀x∈a.d,x.length≤1000000):b7 az 59 [a.e,c.e] (.bool (decide (a=c))):=by
 obtain⟨n,b,d,k,m⟩:=a;obtain⟨n',b0,cj,bD,km⟩:=c;simp only at mz Be;generalize b4:decide ((⟨n,b,d,k,m⟩:bM)=⟨n',b0,cj,bD,km⟩)=R;simp only[bM.mk.injEq,bM.e]at b4⊢;by_cases a1:n=n';rotate_left
 ·have ky:R=false:=by rw[←b4];simp[a1]
  have uk:(n !=n')=true:=by simp[a1]
  rw[ky];clear b4 ky;refine bE ny yq zD fun aU=>?_;unfold wz;exact cZ
 subst a1;have gN:=Mq b b0 mz;by_cases bt:b=b0;rotate_left
 ·have ky:R=false:=by rw[←b4];simp[bt]
  rw[lS bt]at gN;rw[ky];clear b4 ky;refine bE ny yq zD fun aU=>?_;unfold wz;exact cZ
 subst bt;rw[lA rfl]at gN;by_cases b2:d.length=cj.length;rotate_left
 ·have ky:R=false:=by rw[←b4];simp only[j4];rintro⟨_,_,rfl,_⟩;exact b2 rfl
  have sN:((d.length:Int) !=cj.length)=true:=by simp;omega
  rw[ky];clear b4 ky;refine bE ny yq zD fun aU=>?_;unfold wz;exact cZ
 by_cases c2:k.length=bD.length;rotate_left
 ·have ky:R=false:=by rw[←b4];simp only[j4];rintro⟨_,_,_,rfl,_⟩;exact c2 rfl
  have an9:((k.length:Int) !=bD.length)=true:=by simp;omega
  rw[ky];clear b4 ky;refine bE ny yq zD fun aU=>?_;unfold wz;exact cZ
 by_cases c8:m.length=km.length;rotate_left
 ·have ky:R=false:=by rw[←b4];simp only[j4];rintro⟨_,_,_,_,rfl⟩;exact c8 rfl
  have aoa:((m.length:Int) !=km.length)=true:=by simp;omega
  rw[ky];clear b4 ky;refine bE ny yq zD fun aU=>?_;unfold wz;exact cZ
 have EE:d≠cj→R=false:=fun h=>by rw[←b4];simp[h]
 have EF:k≠bD→R=false:=fun h=>by rw[←b4];simp[h]
 have adl:m≠km→R=false:=fun h=>by rw[←b4];simp[h]
 refine bE ny yq zD fun aU=>?_;unfold wz;have amp:cj.length≤68719476736:=by simp[h9,ho,hV,lim]at aU;omega
 have amq:bD.length≤68719476736:=by simp[h9,ho,hV,lim]at aU;omega
 have amr:km.length≤68719476736:=by simp[h9,ho,hV,lim]at aU;omega
 clear aU;simp;(with_reducible repeat' first|refine aj ?_|refine aC gN ?_|refine aD gN ?_|simp[b2,c2,c8]);have dT:=EE;refine gh [2,3,50] (fun i (_:Unit)=>[(51,.int .i64 i)]) cj.length (uT d cj) () cu (fun k ab=>by omega) (fun _ ag _=>?_) (fun i _ hi ag _=>?_);rotate_left
 ·obtain⟨x,ad⟩:∃x,d[i]? =some x:=⟨_,cv (by omega)⟩;obtain⟨y,aG⟩:∃y,cj[i]? =some y:=⟨_,cv hi⟩;have jF:i<d.length:=by omega
  have di:∀h,(d[i]'h)=x:=fun h=>by rw[cv jF]at ad;exact fP ad
  have gl:∀h,(cj[i]'h)=y:=fun h=>by rw[cv hi]at aG;exact fP aG
  have gN:=ajV x y (Be x (gb ad));by_cases q:x=y
  ·subst q;have ar:=ag.step ad aG;rw[lA rfl]at gN;clear ag ad aG;simp[hi,jF,di,gl,-lW];(with_reducible repeat' first|refine aj ?_|refine aC gN ?_|refine aD gN ?_|simp[di,gl,hi,jF,-lW]);all_goals exact bT.rng () hi ar cu
  ·rw[dT (fun h=>q (by rw[h]at ad;rw[ad]at aG;exact fP aG))];rw[lS q]at gN;clear ag ad aG;simp[hi,jF,di,gl,-lW];(with_reducible repeat' first|refine aj ?_|refine aC gN ?_|refine aD gN ?_|simp[di,gl,hi,jF,q,-lW]);all_goals simp[bz,FX,aV,aY,aT]
 have dA:=ag.fin b2;subst dA;clear ag dT EE b2;simp;(with_reducible repeat' first|refine aj ?_|simp[c2]);have dT:=EF;refine gh [2,3,69] (fun i (_:Unit)=>[(70,.int .i64 i)]) bD.length (uT k bD) () cu (fun k ab=>by omega) (fun _ ag _=>?_) (fun i _ hi ag _=>?_);rotate_left
 ·obtain⟨x,ad⟩:∃x,k[i]? =some x:=⟨_,cv (by omega)⟩;obtain⟨y,aG⟩:∃y,bD[i]? =some y:=⟨_,cv hi⟩;have jF:i<k.length:=by omega
  have di:∀h,(k[i]'h)=x:=fun h=>by rw[cv jF]at ad;exact fP ad
  have gl:∀h,(bD[i]'h)=y:=fun h=>by rw[cv hi]at aG;exact fP aG
  have gN:=True.intro;by_cases q:x=y
  ·subst q;have ar:=ag.step ad aG;skip;clear ag ad aG;simp[hi,jF,di,gl,-lW];(with_reducible repeat' first|refine aj ?_|refine aC gN ?_|refine aD gN ?_|simp[di,gl,hi,jF,-lW]);all_goals exact bT.rng () hi ar cu
  ·rw[dT (fun h=>q (by rw[h]at ad;rw[ad]at aG;exact fP aG))];skip;clear ag ad aG;simp[hi,jF,di,gl,-lW];(with_reducible repeat' first|refine aj ?_|refine aC gN ?_|refine aD gN ?_|simp[di,gl,hi,jF,q,-lW]);all_goals simp[bz,FX,aV,aY,aT]
 have dA:=ag.fin c2;subst dA;clear ag dT EF c2;simp;(with_reducible repeat' first|refine aj ?_|simp[c8]);have dT:=adl;refine gh [2,3,87] (fun i (_:Unit)=>[(88,.int .i64 i)]) km.length (uT m km) () cu (fun k ab=>by omega) (fun _ ag _=>?_) (fun i _ hi ag _=>?_);rotate_left
 ·obtain⟨x,ad⟩:∃x,m[i]? =some x:=⟨_,cv (by omega)⟩;obtain⟨y,aG⟩:∃y,km[i]? =some y:=⟨_,cv hi⟩;have jF:i<m.length:=by omega
  have di:∀h,(m[i]'h)=x:=fun h=>by rw[cv jF]at ad;exact fP ad
  have gl:∀h,(km[i]'h)=y:=fun h=>by rw[cv hi]at aG;exact fP aG
  have gN:=True.intro;by_cases q:x=y
  ·subst q;have ar:=ag.step ad aG;skip;clear ag ad aG;simp[hi,jF,di,gl,-lW];(with_reducible repeat' first|refine aj ?_|refine aC gN ?_|refine aD gN ?_|simp[di,gl,hi,jF,-lW]);all_goals exact bT.rng () hi ar cu
  ·rw[dT (fun h=>q (by rw[h]at ad;rw[ad]at aG;exact fP aG))];skip;clear ag ad aG;simp[hi,jF,di,gl,-lW];(with_reducible repeat' first|refine aj ?_|refine aC gN ?_|refine aD gN ?_|simp[di,gl,hi,jF,q,-lW]);all_goals simp[bz,FX,aV,aY,aT]
 have dA:=ag.fin c8;subst dA;have ky:R=true:=by rw[←b4];simp
 rw[ky];exact cZ
def na.e(r:na):ai:= .agg [.int .i64 r.n,.slice 5 .no (r.b.map dU.e),.slice 1 .no (r.d.map l0),.slice 2 .no (r.k.map b6.e),.slice 2 .no (r.m.map bk.e)]
theorem L5(s:bM):s.r.e=s.e:=by simp only[bM.r,na.e,bM.e,zn,PH]
@[simp] theorem anm(S:aH→Prop)(r:na):aF S r.e=True:=by simp[na.e,aF,aO]
theorem ajS(x:List dU):b7 az 55 [l0 x] (.bool (hQ x)):=Mp x
open Classical in
set_option maxRecDepth 4000 in
theorem Wj(r:na)(gK:j0 r.m→iZ r.m):b7 az 18 [r.e] (.bool (decide (rM r))):=by
 generalize b4:decide (rM r)=R;have dT:¬Vf r→R=false:=fun h=>by rw[←b4,j4];exact fun cA=>h cA.raw
 obtain⟨n,b,d,k,m⟩:=r;simp only[na.e]at gK⊢;by_cases g1:n<0
 ·rw[dT fun h=>by have:=h.n.1;simp only at this;omega];refine bE ny wB xm fun aU=>?_;unfold uM;exact cZ
 by_cases g2:100000<n
 ·rw[dT fun h=>by have:=h.n.2;simp only at this;omega];refine bE ny wB xm fun aU=>?_;unfold uM;exact cZ
 have lp:b7 az 55 [.slice 5 .no (b.map dU.e)] (.bool (hQ b)):=Mp b;cases g3:hQ b
 ·rw[dT fun h=>by obtain⟨s,ak,aA,_⟩:=h.b;have:=vT.2 (Gz.2 ⟨s,ak,aA⟩);simp only at this;rw[g3]at this;cases this]
  rw[g3]at lp;refine bE ny wB xm fun aU=>?_;unfold uM;exact cZ
 rw[g3]at lp;obtain⟨s,rfl,af⟩:=Gz.1 (vT.1 g3);clear g3;rw[zn]at lp⊢;have cY:=Wb k;by_cases g4:jH k;rotate_left
 ·rw[dT fun h=>g4 h.k];rw[lS g4]at cY;refine bE ny wB xm fun aU=>?_;unfold uM;exact cZ
 rw[lA g4]at cY;have eh:=We m;by_cases g5:j0 m;rotate_left
 ·rw[dT fun h=>g5 h.m];rw[lS g5]at eh;refine bE ny wB xm fun aU=>?_;unfold uM;exact cZ
 rw[lA g5]at eh;have nn:=Wm af (n:=n) (by omega);cases g6:s.all (p4 n)
 ·rw[dT fun h=>by obtain⟨ah,ak,_,bs⟩:=h.b;have dq:=x8 ak;subst dq;rw[Dv.2 bs]at g6;cases g6]
  rw[g6]at nn;refine bE ny wB xm fun aU=>?_;unfold uM;exact cZ
 rw[g6]at nn;have cH:=Dv.1 g6;clear g6;have RI:=gK g5;have mD:=RI.len g5;refine bE ny wB xm fun aU=>?_;unfold uM;have Ri:d.length≤68719476736:=by simp[h9,ho,hV,lim]at aU;omega
 have iy:=oX g4;clear aU gK;simp;(with_reducible repeat' first|refine aj ?_|refine aC lp ?_|refine aD lp ?_|refine aC cY ?_|refine aD cY ?_|refine aC eh ?_|refine aD eh ?_|refine aC nn ?_|refine aD nn ?_|simp[g1,g2]);refine gh [1,46,47] (fun i (_:Unit)=>[(48,.int .i64 i)]) d.length (vl (jW n) d) () cu (fun k b ab=>by omega) (fun _ ag _=>?_) (fun i _ hi ag _=>?_);rotate_left
 ·obtain⟨x,ad,di⟩:=fE hi;have BK:=gb ad;have dC:=ajS x;cases qe:hQ x
  ·rw[dT fun h=>by obtain⟨ah,ak,aA,_⟩:=h.d x BK;rw[vT.2 (Gz.2 ⟨ah,ak,aA⟩)]at qe;cases qe]
   rw[qe]at dC;clear ag ad BK;exact cZ
  ·rw[qe]at dC;obtain⟨y,rfl,aG⟩:=Gz.1 (vT.1 qe);clear qe;rw[HY]at dC;have lq:b7 az 58 [cz y,.int .i64 n] (.bool (y.all (p4 n))):=Wm aG (n:=n) (by omega);have amB:∀h,l0 (d[i]'h)=cz y:=fun h=>by rw[di h,HY]
   cases A6:y.all (p4 n)
   ·rw[dT fun h=>by obtain⟨ah,ak,_,bs⟩:=h.d _ BK;have dq:=x8 ak;subst dq;rw[Dv.2 bs]at A6;cases A6]
    rw[A6]at lq;clear ag ad BK di;exact cZ
   ·rw[A6]at lq;have ar:=ag.step ad ⟨y,rfl,aG,Dv.1 A6⟩;clear ag ad BK di;exact ko
 obtain⟨D,rfl,wK,ab9⟩:=Py ag.fin;clear ag;simp only[PH];simp;(with_reducible repeat' first|refine aj ?_|simp);refine gh [1,64,65] (fun i (_:Unit)=>[(66,.int .i64 i)]) k.length (vl (fun x=>x.v<n) k) () cu (fun k b ab=>by omega) (fun _ ag _=>?_) (fun i _ hi ag _=>?_);rotate_left
 ·obtain⟨x,ad,di⟩:=fE hi;by_cases qe:x.v<n
  ·have IM:¬n≤x.v:=by omega
   have ar:=ag.step ad qe;clear ag ad;exact ko
  ·have IM:n≤x.v:=by omega
   rw[dT fun h=>qe (h.kb x (gb ad))];clear ag ad;exact cZ
 have Ja:=ag.fin;clear ag;simp;(with_reducible repeat' first|refine aj ?_|simp);have Bs:=Ja;refine gh [1,77,78] (fun i (_:Unit)=>[(79,.int .i64 i)]) m.length (vl (fun x=>x.v<n) m) () cu (fun k b ab=>by omega) (fun _ ag _=>?_) (fun i _ hi ag _=>?_);rotate_left
 ·obtain⟨x,ad,di⟩:=fE hi;by_cases qe:x.v<n
  ·have IM:¬n≤x.v:=by omega
   have ar:=ag.step ad qe;clear ag ad;exact ko
  ·have IM:n≤x.v:=by omega
   rw[dT fun h=>qe (h.mb x (gb ad))];clear ag ad;exact cZ
 have Ja:=ag.fin;clear ag;simp;(with_reducible repeat' first|refine aj ?_|simp);have va:=Ja;have dh:h2 ⟨n,s,D,k,m⟩:=⟨by simp only;omega,af,wK,g4,g5,cH,ab9,Bs,va⟩;have yL:=aje dh;obtain⟨G,hd,aS⟩:=RI;have dN:=Al dh hd aS;have oP:rM ⟨n,s.map al.b,D.map fun x=>x.map al.b,k,m⟩↔eU ⟨n,s,D,k,m⟩=some ⟨n,s,D,k,m⟩:=yL;clear yL dT;simp only[jN]at dN;cases n1:eU ⟨n,s,D,k,m⟩with
 |none=>
  rw[n1]at dN oP;have ky:R=false:=by rw[←b4,j4,oP];simp
  rw[ky];simp only[jj,jl,bM.e]at dN;clear b4 ky oP;exact cZ
 |some t=>
  have y1:=xG dh n1;rw[n1]at dN oP;have JW:=ako t ⟨n,s,D,k,m⟩ y1.1.1.b.len (fun x ad=>(y1.1.1.d x ad).len);have ky:R=decide (t=⟨n,s,D,k,m⟩):=by rw[←b4,decide_eq_decide,oP];simp
  rw[ky];simp only[jk,oy]at dN;simp only[bM.e]at dN JW;clear b4 ky oP y1;generalize decide (t=(⟨n,s,D,k,m⟩:bM))=Q at JW⊢;obtain⟨uF,uB,uC,uE,tm⟩:=t;simp only at dN JW;exact cZ
def DN:C:=(aa [cW 3 1,cU 4 dz] (.seq (aa [aP 7 0 1 3,aB 8 1 7,aW 9 .eql 8 1] (a8 9 (aa [I 11 0,aP 12 1 1 3,aB 13 1 12,cw 14 161 11 13,I 10 14,cq 15 0 10,cq 16 1 10,cU 5 dz,bG 4 5 15,I 6 16] (aa [I 17 6] (a8 17 (aa [ba 18 4 5,bG 4 4 18] .ret) .skip))) .skip)) (.seq (aa [aP 19 0 1 3,aB 20 1 19,aW 21 .eql 20 4] (a8 21 (.seq (.drawn true 36 [I 22 0,aP 23 3 1 3,aB 24 1 23,jC 25 4 24 0,ba 26 4 25,cw 27 75 22 26,I 28 0,aP 29 3 1 3,aB 30 1 29,jC 31 4 30 1,ba 32 4 31,cw 33 75 28 32,cw 34 114 27 33,bG 4 4 34]) .ret) .skip)) (aa [ba 35 4 3,bG 4 4 35] .ret))))
@[simp] def F1:List bu:=[.cell 4 true 4]
def OL:C:=(aa [cW 1 0,bH 2 false] (aa [ba 3 4 1,cX 4 162 [.t 3,(et 5000)],aW 5 .leq 4 5000,I 6 5,aw 6 true (ba 7 4 1),aw 6 true (cL 8 163 7),dr 9 6 8,I 2 9] .ret))
@[simp] def aie:List bu:=[.tmp 2]
def OT:C:=(aa [cW 1 0,bH 2 false] (aa [ba 3 4 1,cX 4 162 [.t 3,(et 5000)],aW 5 .leq 4 5000,I 2 5] .ret))
@[simp] def U4:List bu:=[.tmp 2]
def ON:C:=(aa [bH 6 false] (aa [I 7 0,I 8 1,bA 9 .geq 7 8,I 10 9,bU 10 true 11 0,bU 10 true 12 2,aw 10 true (bA 13 .leq 11 12),dr 14 10 13,I 6 14] .ret))
@[simp] def U0:List bu:=[.tmp 6]
def HK:C:=(aa [bH 2 false] (.seq (aa [I 9 0,cL 10 164 9,cI 11 10] (a8 11 (aa [bH 2 false] .ret) .skip)) (.seq (aa [I 12 0,cS 13 12,cr 14 0] (fY 15 14 13 (.seq (.block 1 (aa [cN 16 5 12 14,ba 17 5 16,cU 4 kE,bG 5 4 17] (.seq (aa [iW 18 1 4 4,aP 19 0 1 18,aB 20 1 19,aW 21 .eql 20 1,I 22 21,aw 22 true (iW 23 1 4 4),aw 22 true (aP 24 1 1 23),aw 22 true (aB 25 1 24),aw 22 true (aP 26 0 1 4),aw 22 true (aB 27 1 26),aw 22 true (bA 28 .geq 25 27),dr 29 22 28] (a8 29 (aa [bH 2 false] .ret) .skip)) (aa [iW 30 1 4 4,ba 31 4 30,cX 32 165 [.t 31,(.c (.slice 1 .nil []))],cS 33 32,cr 34 0] (.block 2 (.loop (aa [bA 35 .lss 34 33] (.seq (a8 35 .skip (.exit 2)) (.seq (.block 3 (aa [cN 36 1 32 34,aB 37 1 36,I 6 37] (aa [I 39 0,I 40 6,cw 41 161 39 40,I 38 41,cq 42 0 38,cq 43 1 38,cU 7 dz,bG 4 7 42,I 8 43] (aa [I 44 8] (a8 44 (aa [bH 2 false] .ret) .skip))))) (.region [aW 45 .add 34 1,I 34 45])))))))))) (.region [aW 46 .add 14 1,I 14 46])))) (aa [bH 2 true] .ret))))
@[simp] def Li:List bu:=[.tmp 2]
def O3:C:=(aa [cU 4 dz,bH 5 false] (.seq (aa [I 8 0,cS 9 8,cr 10 0] (fY 11 10 9 (.seq (.block 1 (aa [cN 12 5 8 10,ba 13 5 12,cU 7 kE,bG 5 7 13] (aa [aP 14 0 1 7,aB 15 1 14,I 16 1,bA 17 .eql 15 16] (a8 17 (aa [iW 18 1 4 7,ba 19 4 18,bG 4 4 19,bH 5 true] .ret) .skip)))) (.region [aW 20 .add 10 1,I 10 20])))) (aa [gB 21 dz [],bG 4 4 21,bH 5 false] .ret)))
@[simp] def Ln:List bu:=[.cell 4 true 4,.tmp 5]
def OR:C:=(aa [cW 2 0,cr 4 0] (aa [cr 5 1] (.seq (aa [aP 8 3 1 2,aB 9 1 8,cS 10 9,cr 11 0] (fY 12 11 10 (.seq (.block 1 (aa [cN 13 4 9 11,ba 14 4 13,cU 7 dz,bG 4 7 14] (.seq (aa [I 15 5,I 16 1,bA 17 .gtr 15 16] (a8 17 (aa [I 18 5,I 4 18] .ret) .skip)) (.region [I 19 5,ba 20 4 7,I 21 1,I 22 5,bA 23 .sub 21 22,cw 24 162 20 23,bA 25 .add 19 24,I 5 25])))) (.region [aW 26 .add 11 1,I 11 26])))) (aa [I 27 5,I 4 27] .ret))))
@[simp] def Ll:List bu:=[.tmp 4]
def lC:C:=(aa [cW 1 0,bH 2 false] (.seq (aa [aP 3 0 1 1,aB 4 1 3,aW 5 .neq 4 1,I 6 5,aw 6 true (aP 7 0 1 1),aw 6 true (aB 8 1 7),aw 6 true (aW 9 .neq 8 3),dr 10 6 9,I 11 10,aw 11 true (aP 12 1 1 1),aw 11 true (aB 13 1 12),aw 11 true (aW 14 .neq 13 0),dr 15 11 14,I 16 15,aw 16 false (aP 17 0 1 1),aw 16 false (aB 18 1 17),aw 16 false (aW 19 .neq 18 2),bU 16 false 20 19,aw 20 true (aP 21 2 1 1),aw 20 true (aB 22 1 21),wa 20 true 23 (.bin .neq false (.t 22) (.c (.str []))),aw 16 false (dr 24 20 23),dj 25 16 24,I 26 25,aw 26 false (aP 27 0 1 1),aw 26 false (aB 28 1 27),aw 26 false (aW 29 .neq 28 4),bU 26 false 30 29,aw 30 true (aP 31 3 1 1),aw 30 true (aB 32 1 31),aw 30 true (cS 33 32),aw 30 true (aW 34 .gtr 33 0),aw 26 false (dr 35 30 34),dj 36 26 35] (a8 36 (aa [bH 2 false] .ret) .skip)) (.seq (aa [aP 37 0 1 1,aB 38 1 37] (.block 0 (aa [aW 40 .eql 38 0,I 39 40] (a8 39 (aa [bH 2 true] .ret) (aa [aW 42 .eql 38 1,I 41 42] (a8 41 (aa [aP 43 1 1 1,aB 44 1 43,cX 45 141 [.t 44,(et 0),(et 100000)],I 2 45] .ret) (aa [aW 47 .eql 38 2,I 46 47] (a8 46 (aa [aP 48 2 1 1,aB 49 1 48,cL 50 216 49,I 2 50] .ret) (aa [aW 52 .eql 38 3,I 51 52] (a8 51 (aa [aP 53 1 1 1,aB 54 1 53,cX 55 141 [.t 54,(et (-1000000000)),(et 1000000000)],I 2 55] .ret) (aa [aW 57 .eql 38 4,I 56 57] (a8 56 (aa [aP 58 3 1 1,aB 59 1 58,cS 60 59,aW 61 .eql 60 2,I 62 61,aw 62 true (aP 63 3 1 1),aw 62 true (aB 64 1 63),aw 62 true (jC 65 4 64 0),aw 62 true (ba 66 4 65),aw 62 true (cL 67 163 66),dr 68 62 67,I 69 68,aw 69 true (aP 70 3 1 1),aw 69 true (aB 71 1 70),aw 69 true (jC 72 4 71 1),aw 69 true (ba 73 4 72),aw 69 true (cL 74 163 73),dr 75 69 74,I 2 75] .ret) .skip)))))))))))) (aa [bH 2 false] .ret))))
@[simp] def lx:List bu:=[.tmp 2]
def O5:C:=(aa [bH 2 false] (.seq (aa [I 5 0,cS 6 5,cr 7 0] (fY 8 7 6 (.seq (.block 1 (aa [I 9 7,cN 10 5 5 7,ba 11 5 10,cU 4 kE,I 3 9,bG 5 4 11] (.seq (.drawn true 41 [I 12 3,aW 13 .gtr 12 0,I 14 13,bU 14 true 15 0,bU 14 true 16 3,aw 14 true (aW 17 .sub 16 1),aw 14 true (cN 18 5 15 17),aw 14 true (aP 19 0 1 18),aw 14 true (aB 20 1 19),aw 14 true (aP 21 0 1 4),aw 14 true (aB 22 1 21),aw 14 true (bA 23 .geq 20 22),dr 24 14 23,I 25 24,aw 25 false (aP 26 0 1 4),aw 25 false (aB 27 1 26),aw 25 false (cX 28 141 [.t 27,(et 0),(et 100000)]),aw 25 false (cI 29 28),dj 30 25 29,I 31 30,aw 31 false (iW 32 1 4 4),aw 31 false (ba 33 4 32),aw 31 false (cL 34 76 33),aw 31 false (cI 35 34),dj 36 31 35]) (a8 36 (aa [bH 2 false] .ret) .skip)))) (.region [aW 37 .add 7 1,I 7 37])))) (aa [I 38 0,cS 39 38,aW 40 .leq 39 400,I 2 40] .ret)))
@[simp] def Lp:List bu:=[.tmp 2]
def ye:C:=(aa [cW 2 0,eC 4 1] (.seq (aa [aP 7 0 1 2,aB 8 1 7,aW 9 .eql 8 1] (a8 9 (aa [I 10 1,aP 11 1 1 2,aB 12 1 11,cw 13 230 10 12,I 4 13] .ret) .skip)) (.seq (aa [aP 14 3 1 2,aB 15 1 14,cS 16 15,cr 17 0] (fY 18 17 16 (.seq (.block 1 (aa [cN 19 4 15 17,ba 20 4 19,cU 6 dz,bG 4 6 20] (.region [ba 21 4 6,I 22 1,cw 23 165 21 22,I 1 23]))) (.region [aW 24 .add 17 1,I 17 24])))) (aa [I 25 1,I 4 25] .ret))))
@[simp] def zR:List bu:=[.tmp 4]
def O1:C:=(aa [cW 3 1,cU 4 dz,bH 5 false] (aa [I 7 0,ba 8 4 3,cw 9 75 7 8,cU 6 dz,bG 4 6 9] (.seq (.drawn true 13 [ba 10 4 6,ba 11 4 6,cL 12 92 11,bG 4 4 10,I 5 12]) .ret)))
@[simp] def Vb:List bu:=[.cell 4 true 4,.tmp 5]
def r5:C:=(aa [cW 4 1,cW 5 2,eC 6 5,bH 7 false] (aa [I 12 0,ba 13 4 4,cw 14 236 12 13,bG 4 4 14] (aa [I 15 0,ba 16 4 5,cw 17 236 15 16,bG 4 5 17] (.seq (aa [aP 18 0 1 4,aB 19 1 18,aW 20 .eql 19 1,I 21 20,aw 21 true (aP 22 0 1 5),aw 21 true (aB 23 1 22),aw 21 true (aW 24 .eql 23 1),dr 25 21 24,I 26 25,aw 26 true (aP 27 1 1 4),aw 26 true (aB 28 1 27),aw 26 true (aP 29 1 1 5),aw 26 true (aB 30 1 29),aw 26 true (bA 31 .lss 28 30),dr 32 26 31] (a8 32 (aa [I 33 0,aP 34 1 1 5,aB 35 1 34,ba 36 4 4,cX 37 237 [.t 33,.t 35,.t 36],cq 38 0 37,cq 39 1 37,I 6 38,I 7 39] .ret) .skip)) (.seq (aa [aP 40 0 1 4,aB 41 1 40,aW 42 .eql 41 1,I 43 42,aw 43 true (aP 44 0 1 5),aw 43 true (aB 45 1 44),aw 43 true (aW 46 .eql 45 1),dr 47 43 46,I 48 47,aw 48 true (aP 49 1 1 4),aw 48 true (aB 50 1 49),aw 48 true (aP 51 1 1 5),aw 48 true (aB 52 1 51),aw 48 true (bA 53 .eql 50 52),dr 54 48 53] (a8 54 (aa [I 55 0,I 6 55,bH 7 true] .ret) .skip)) (.seq (aa [aP 56 0 1 4,aB 57 1 56,aW 58 .eql 57 1] (a8 58 (aa [I 59 0,aP 60 1 1 4,aB 61 1 60,ba 62 4 5,cX 63 237 [.t 59,.t 61,.t 62],cq 64 0 63,cq 65 1 63,I 6 64,I 7 65] .ret) .skip)) (.seq (aa [aP 66 0 1 5,aB 67 1 66,aW 68 .eql 67 1] (a8 68 (aa [I 69 0,aP 70 1 1 5,aB 71 1 70,ba 72 4 4,cX 73 237 [.t 69,.t 71,.t 72],cq 74 0 73,cq 75 1 73,I 6 74,I 7 75] .ret) .skip)) (.seq (aa [aP 76 0 1 4,aB 77 1 76,aP 78 0 1 5,aB 79 1 78,bA 80 .neq 77 79,I 81 80,aw 81 false (aP 82 1 1 4),aw 81 false (aB 83 1 82),aw 81 false (aP 84 1 1 5),aw 81 false (aB 85 1 84),aw 81 false (bA 86 .neq 83 85),dj 87 81 86,I 88 87,aw 88 false (aP 89 2 1 4),aw 88 false (aB 90 1 89),aw 88 false (aP 91 2 1 5),aw 88 false (aB 92 1 91),aw 88 false (bA 93 .neq 90 92),dj 94 88 93] (a8 94 (aa [eC 6 5,bH 7 false] .ret) .skip)) (.seq (aa [aP 95 3 1 4,aB 96 1 95,cS 97 96,cr 98 0] (fY 99 98 97 (.seq (.block 1 (aa [I 100 98,cN 101 4 96 98,ba 102 4 101,cU 9 dz,I 8 100,bG 4 9 102] (.seq (.drawn true 119 [I 104 0,ba 105 4 9,aP 106 3 1 5,aB 107 1 106,I 108 8,cN 109 4 107 108,ba 110 4 109,cX 111 176 [.t 104,.t 105,.t 110],I 103 111,cq 112 0 103,cq 113 1 103,I 10 112,I 11 113]) (.seq (aa [I 114 11,cI 115 114] (a8 115 (aa [eC 6 5,bH 7 false] .ret) .skip)) (.region [I 116 10,I 0 116]))))) (.region [aW 117 .add 98 1,I 98 117])))) (aa [I 118 0,I 6 118,bH 7 true] .ret))))))))))
@[simp] def rG:List bu:=[.tmp 6,.tmp 7]
def OG:C:=(aa [bH 2 false] (.seq (aa [cr 3 0] (.block 0 (.loop (.seq (aa [I 5 3,I 6 0,bX 7 (.slen (.t 6)),bA 8 .lss 5 7] (a8 8 .skip (.exit 0))) (.seq (.block 1 (aa [I 11 0,I 12 3,bX 13 (.sidx (.t 11) (.t 12)),bX 14 (.bin .geq false (.t 13) (.c (.int .u8 97))),I 15 14,bU 15 true 16 0,bU 15 true 17 3,aw 15 true (bX 18 (.sidx (.t 16) (.t 17))),aw 15 true (bX 19 (.bin .leq false (.t 18) (.c (.int .u8 122)))),dr 20 15 19,I 4 20] (aa [I 21 4,cI 22 21,I 23 22,bU 23 true 24 3,aw 23 true (aW 25 .eql 24 0),bU 23 true 26 25,bU 26 false 27 0,bU 26 false 28 3,aw 26 false (bX 29 (.sidx (.t 27) (.t 28))),aw 26 false (bX 30 (.bin .neq false (.t 29) (.c (.int .u8 45)))),bU 26 false 31 30,bU 31 true 32 0,bU 31 true 33 3,aw 31 true (bX 34 (.sidx (.t 32) (.t 33))),aw 31 true (bX 35 (.conv .i64 (.t 34))),aw 31 true (cX 36 141 [.t 35,(et 48),(et 57)]),aw 31 true (cI 37 36),aw 26 false (dr 38 31 37),aw 23 true (dj 39 26 38),dr 40 23 39] (a8 40 (aa [bH 2 false] .ret) .skip)))) (.region [I 9 3,aW 10 .add 9 1,I 3 10])))))) (aa [I 41 0,bX 42 (.slen (.t 41)),cX 43 141 [.t 42,(et 1),(et 12)],I 2 43] .ret)))
@[simp] def zP:List bu:=[.tmp 2]
def O7:C:=(aa [eC 4 5,bH 5 false] (aa [dR 10 4 32 [],I 6 10] (aa [dR 11 4 32 [],I 7 11] (.seq (aa [I 12 1,cS 13 12,cr 14 0] (fY 15 14 13 (.seq (.block 1 (aa [cN 16 5 12 14,ba 17 5 16,cU 9 kE,bG 5 9 17] (aa [I 18 6,aP 19 0 1 9,aB 20 1 19,cL 21 91 20,dR 22 4 32 [.t 21],gC 23 4 32 18 22,I 6 23] (.region [I 24 7,iW 25 1 4 9,ba 26 4 25,dR 27 4 32 [.t 26],gC 28 4 32 24 27,I 7 28])))) (.region [aW 29 .add 14 1,I 14 29])))) (aa [I 30 0,I 31 6,I 32 7,cX 33 268 [.t 30,.t 31,.t 32],cq 34 0 33,cq 35 1 33,I 4 34,I 5 35] .ret)))))
@[simp] def Vc:List bu:=[.tmp 4,.tmp 5]
def OU:C:=(aa [eC 4 1] (aa [I 7 0,cS 8 7,I 5 8] (.seq (.block 0 (.loop (.seq (aa [I 9 5,aW 10 .gtr 9 0,I 11 10,bU 11 true 12 0,bU 11 true 13 5,aw 11 true (aW 14 .sub 13 1),aw 11 true (cN 15 1 12 14),aw 11 true (aB 16 1 15),bU 11 true 17 1,aw 11 true (bA 18 .geq 16 17),dr 19 11 18] (a8 19 .skip (.exit 0))) (.block 1 (.region [I 20 5,aW 21 .sub 20 1,I 5 21]))))) (.seq (aa [I 22 5,I 23 0,cS 24 23,bA 25 .lss 22 24,I 26 25,bU 26 true 27 0,bU 26 true 28 5,aw 26 true (cN 29 1 27 28),aw 26 true (aB 30 1 29),bU 26 true 31 1,aw 26 true (bA 32 .eql 30 31),dr 33 26 32] (a8 33 (aa [I 34 0,I 4 34] .ret) .skip)) (aa [dR 35 1 3 [],I 36 0,I 37 5,bX 38 (.lsl 1 (.t 36) none (some (.t 37))),gC 39 1 3 35 38,I 6 39] (aa [I 40 6,I 41 1,dR 42 1 3 [.t 41],gC 43 1 3 40 42,I 6 43] (aa [I 44 6,I 45 0,I 46 5,bX 47 (.lsl 1 (.t 45) (some (.t 46)) none),gC 48 1 3 44 47,I 4 48] .ret)))))))
@[simp] def xx:List bu:=[.tmp 4]
def O4:C:=(aa [cW 3 1,eC 4 5] (aa [I 7 0,cS 8 7,I 5 8] (.seq (.block 0 (.loop (.seq (.seq (.drawn true 38 [I 9 5,aW 10 .gtr 9 0,I 11 10,bU 11 true 12 0,bU 11 true 13 5,aw 11 true (aW 14 .sub 13 1),aw 11 true (cN 15 5 12 14),aw 11 true (aP 16 0 1 15),aw 11 true (aB 17 1 16),aw 11 true (aP 18 0 1 3),aw 11 true (aB 19 1 18),aw 11 true (bA 20 .gtr 17 19),dr 21 11 20]) (a8 21 .skip (.exit 0))) (.block 1 (.region [I 22 5,aW 23 .sub 22 1,I 5 23]))))) (aa [dR 24 5 61 [],I 25 0,I 26 5,bX 27 (.lsl 5 (.t 25) none (some (.t 26))),gC 28 5 61 24 27,I 6 28] (aa [I 29 6,ba 30 5 3,dR 31 5 61 [.t 30],gC 32 5 61 29 31,I 6 32] (aa [I 33 6,I 34 0,I 35 5,bX 36 (.lsl 5 (.t 34) (some (.t 35)) none),gC 37 5 61 33 36,I 4 37] .ret))))))
@[simp] def Lo:List bu:=[.tmp 4]
def DO:C:=(aa [cW 3 1,cU 4 dz] (.seq (aa [aP 7 0 1 3,aB 8 1 7,aW 9 .eql 8 1] (a8 9 (aa [I 11 0,aP 12 1 1 3,aB 13 1 12,cw 14 161 11 13,I 10 14,cq 15 0 10,cq 16 1 10,cU 5 dz,bG 4 5 15,I 6 16] (aa [I 17 6] (a8 17 (aa [ba 18 4 5,bG 4 4 18] .ret) .skip))) .skip)) (aa [ba 19 4 3,bG 4 4 19] .ret)))
@[simp] def F2:List bu:=[.cell 4 true 4]
def AM:C:=(aa [cW 5 2,eC 6 5,bH 7 false] (aa [I 15 0,ba 16 4 5,cw 17 166 15 16,I 14 17,cq 18 0 14,cq 19 1 14,cU 8 dz,bG 4 8 18,I 9 19] (.seq (aa [I 20 9,cI 21 20,I 22 21,bU 22 false 23 1,aw 22 false (ba 24 4 8),aw 22 false (cw 25 270 23 24),dj 26 22 25,I 27 26,bU 27 false 28 0,aw 27 false (cS 29 28),aw 27 false (aW 30 .geq 29 400),dj 31 27 30] (a8 31 (aa [eC 6 5,bH 7 false] .ret) .skip)) (aa [dR 32 5 61 [],I 10 32] (.seq (aa [I 33 0,cS 34 33,cr 35 0] (fY 36 35 34 (.seq (.block 1 (aa [cN 37 5 33 35,ba 38 5 37,cU 12 kE,bG 5 12 38] (aa [iW 39 1 4 12,ba 40 4 39,I 41 1,ba 42 4 8,cX 43 271 [.t 40,.t 41,.t 42],cU 13 dz,bG 4 13 43] (.seq (aa [ba 44 4 13,cL 45 92 44,cI 46 45] (a8 46 (aa [eC 6 5,bH 7 false] .ret) .skip)) (.region [I 47 10,aP 48 0 1 12,aB 49 1 48,ba 50 4 13,gB 51 kE [(0,1,(.t 49)),(1,4,(.t 50))],dR 52 5 61 [.t 51],gC 53 5 61 47 52,I 10 53]))))) (.region [aW 54 .add 35 1,I 35 54])))) (aa [I 55 10,I 56 1,ba 57 4 8,gB 58 kE [(0,1,(.t 56)),(1,4,(.t 57))],cw 59 234 55 58,I 6 59,bH 7 true] .ret))))))
@[simp] def zS:List bu:=[.tmp 6,.tmp 7]
def O6:C:=(aa [eC 6 5,bH 7 false] (.seq (aa [I 12 1,cS 13 12,cr 14 0] (fY 15 14 13 (.seq (.block 1 (aa [I 16 14,cN 17 4 12 14,ba 18 4 17,cU 9 dz,I 8 16,bG 4 9 18] (.seq (.drawn true 34 [I 20 0,ba 21 4 9,I 22 2,I 23 8,cN 24 4 22 23,ba 25 4 24,cX 26 176 [.t 20,.t 21,.t 25],I 19 26,cq 27 0 19,cq 28 1 19,I 10 27,I 11 28]) (.seq (aa [I 29 11,cI 30 29] (a8 30 (aa [eC 6 5,bH 7 false] .ret) .skip)) (.region [I 31 10,I 0 31]))))) (.region [aW 32 .add 14 1,I 14 32])))) (aa [I 33 0,I 6 33,bH 7 true] .ret)))
@[simp] def Lq:List bu:=[.tmp 6,.tmp 7]
def OW:C:=(aa [cW 3 1,bH 4 false] (.seq (aa [aP 7 3 1 3,aB 8 1 7,cS 9 8,cr 10 0] (fY 11 10 9 (.seq (.block 1 (aa [cN 12 4 8 10,ba 13 4 12,cU 6 dz,bG 4 6 13] (aa [I 14 0,ba 15 4 6,cw 16 270 14 15] (a8 16 (aa [bH 4 true] .ret) .skip)))) (.region [aW 17 .add 10 1,I 10 17])))) (aa [aP 18 0 1 3,aB 19 1 18,aW 20 .eql 19 1,I 21 20,aw 21 true (aP 22 1 1 3),aw 21 true (aB 23 1 22),bU 21 true 24 0,aw 21 true (bA 25 .eql 23 24),dr 26 21 25,I 4 26] .ret)))
@[simp] def Lm:List bu:=[.tmp 4]
def DM:C:=(aa [cW 3 0,cW 5 2,cU 6 dz] (.seq (aa [aP 7 0 1 3,aB 8 1 7,aW 9 .eql 8 1,I 10 9,aw 10 true (aP 11 1 1 3),aw 10 true (aB 12 1 11),bU 10 true 13 1,aw 10 true (bA 14 .eql 12 13),dr 15 10 14] (a8 15 (aa [ba 16 4 5,bG 4 6 16] .ret) .skip)) (.seq (aa [aP 17 0 1 3,aB 18 1 17,aW 19 .eql 18 4] (a8 19 (.seq (.drawn true 36 [aP 20 3 1 3,aB 21 1 20,jC 22 4 21 0,ba 23 4 22,I 24 1,ba 25 4 5,cX 26 271 [.t 23,.t 24,.t 25],aP 27 3 1 3,aB 28 1 27,jC 29 4 28 1,ba 30 4 29,I 31 1,ba 32 4 5,cX 33 271 [.t 30,.t 31,.t 32],cw 34 114 26 33,bG 4 6 34]) .ret) .skip)) (aa [ba 35 4 3,bG 4 6 35] .ret))))
@[simp] def F0:List bu:=[.cell 6 true 4]
def kJ:List (Nat×du):=[
 (3,⟨1,8,.int .i64,.int .i64 0⟩),
 (5,⟨1,1,.int .u8,.int .u8 0⟩),
 (9,⟨1,16,.str,.str []⟩),
 (23,⟨1,24,.slice 61,.slice 5 .nil []⟩),
 (30,⟨1,24,.slice 32,.slice 4 .nil []⟩),
 (32,⟨4,56,.struct [(0,3),(1,3),(2,9),(3,30)],.agg [.int .i64 0,.int .i64 0,.str [],.slice 4 .nil []]⟩),
 (61,⟨5,64,.struct [(0,3),(1,32)],.agg [.int .i64 0,.int .i64 0,.int .i64 0,.str [],.slice 4 .nil []]⟩),
 (112,⟨1,24,.slice 3,.slice 1 .nil []⟩)]
theorem eA:fA az kJ=true:=by kernel_rfl
theorem KQ:cc kJ DN F1 2 Tryz.f75=true:=by kernel_rfl
theorem Ip:az.funcs[(75:Nat)]? =some Tryz.f75:=Tryz.func75
theorem agQ:cc kJ OL aie 1 Tryz.f76=true:=by kernel_rfl
theorem aas:az.funcs[(76:Nat)]? =some Tryz.f76:=Tryz.func76
theorem agY:cc kJ OT U4 1 Tryz.f92=true:=by kernel_rfl
theorem aaA:az.funcs[(92:Nat)]? =some Tryz.f92:=Tryz.func92
theorem agS:cc kJ ON U0 3 Tryz.f141=true:=by kernel_rfl
theorem aau:az.funcs[(141:Nat)]? =some Tryz.f141:=Tryz.func141
theorem T5:cc kJ HK Li 1 Tryz.f142=true:=by kernel_rfl
theorem Qb:az.funcs[(142:Nat)]? =some Tryz.f142:=Tryz.func142
theorem ag8:cc kJ O3 Ln 2 Tryz.f161=true:=by kernel_rfl
theorem aaK:az.funcs[(161:Nat)]? =some Tryz.f161:=Tryz.func161
theorem agW:cc kJ OR Ll 2 Tryz.f162=true:=by kernel_rfl
theorem aay:az.funcs[(162:Nat)]? =some Tryz.f162:=Tryz.func162
theorem mg:cc kJ lC lx 1 Tryz.f163=true:=by kernel_rfl
theorem l1:az.funcs[(163:Nat)]? =some Tryz.f163:=Tryz.func163
theorem aha:cc kJ O5 Lp 1 Tryz.f164=true:=by kernel_rfl
theorem aaM:az.funcs[(164:Nat)]? =some Tryz.f164:=Tryz.func164
theorem Cj:cc kJ ye zR 2 Tryz.f165=true:=by kernel_rfl
theorem AW:az.funcs[(165:Nat)]? =some Tryz.f165:=Tryz.func165
theorem ag6:cc kJ O1 Vb 2 Tryz.f166=true:=by kernel_rfl
theorem aaI:az.funcs[(166:Nat)]? =some Tryz.f166:=Tryz.func166
theorem ug:cc kJ r5 rG 3 Tryz.f176=true:=by kernel_rfl
theorem tw:az.funcs[(176:Nat)]? =some Tryz.f176:=Tryz.func176
theorem agL:cc kJ OG zP 1 Tryz.f216=true:=by kernel_rfl
theorem aan:az.funcs[(216:Nat)]? =some Tryz.f216:=Tryz.func216
theorem ahc:cc kJ O7 Vc 2 Tryz.f219=true:=by kernel_rfl
theorem aaO:az.funcs[(219:Nat)]? =some Tryz.f219:=Tryz.func219
theorem agZ:cc kJ OU xx 2 Tryz.f230=true:=by kernel_rfl
theorem aaB:az.funcs[(230:Nat)]? =some Tryz.f230:=Tryz.func230
theorem ag9:cc kJ O4 Lo 2 Tryz.f234=true:=by kernel_rfl
theorem aaL:az.funcs[(234:Nat)]? =some Tryz.f234:=Tryz.func234
theorem KR:cc kJ DO F2 2 Tryz.f236=true:=by kernel_rfl
theorem Iq:az.funcs[(236:Nat)]? =some Tryz.f236:=Tryz.func236
theorem FE:cc kJ AM zS 3 Tryz.f237=true:=by kernel_rfl
theorem D5:az.funcs[(237:Nat)]? =some Tryz.f237:=Tryz.func237
theorem ahb:cc kJ O6 Lq 3 Tryz.f268=true:=by kernel_rfl
theorem aaN:az.funcs[(268:Nat)]? =some Tryz.f268:=Tryz.func268
theorem ag1:cc kJ OW Lm 2 Tryz.f270=true:=by kernel_rfl
theorem aaD:az.funcs[(270:Nat)]? =some Tryz.f270:=Tryz.func270
theorem KP:cc kJ DM F0 3 Tryz.f271=true:=by kernel_rfl
theorem Io:az.funcs[(271:Nat)]? =some Tryz.f271:=Tryz.func271
mutual
def k7:bQ→Int→Int
 | .mk _ _ _ args,m=>nK args 1 m
def nK:List bQ→Int→Int→Int
 |[],n,_=>n
 |x::xs,n,m=>if m<n then n else nK xs (n+k7 x (m-n)) m
end
mutual
theorem HR:∀(t:bQ) (m:Int),0≤m→1≤k7 t m∧k7 t m≤m+1
 | .mk _ _ _ args,m,h=>by simp only[k7];exact Pq args 1 m h (by omega) (by omega)
theorem Pq:∀(l:List bQ) (n m:Int),0≤m→1≤n→n≤m+1→1≤nK l n m∧nK l n m≤m+1
 |[],n,m,_,J,U=>by simp only[nK];exact⟨J,U⟩
 |x::xs,n,m,bV,J,U=>by
  simp only[nK];split
  ·exact⟨J,U⟩
  ·have:=HR x (m-n) (by omega);exact Pq xs _ m bV (by omega) (by omega)
end
theorem DS:∀(t:T) (m:Int),0≤m→(k7 t.tm m≤m↔(t.size:Int)≤m)∧((t.size:Int)≤m→k7 t.tm m=t.size)
 | .pair a b,m,h=>by
  have br:=T.size_pos a;have ae:=T.size_pos b;simp only[T.tm,k7,nK,T.size];by_cases J:m<1
  ·rw[if_pos J];exact⟨by omega,fun h=>by omega⟩
  ·rw[if_neg J];obtain⟨bp,a2⟩:=DS a (m-1) (by omega);have a3:=HR a.tm (m-1) (by omega);by_cases U:(a.size:Int)≤m-1
   ·have e:=a2 U;rw[e];by_cases ao:m<1+(a.size:Int)
    ·omega
    ·rw[if_neg ao];obtain⟨b8,b3⟩:=DS b (m-(1+a.size)) (by omega);refine⟨by omega,fun h=>?_⟩;rw[b3 (by omega)];omega
   ·have:¬k7 a.tm (m-1)≤m-1:=fun h=>U (bp.1 h);rw[if_pos (by omega)];exact⟨by omega,fun h=>by omega⟩
 | .nil,m,h=>by simp[T.tm,k7,nK,T.size]
 | .var _,m,h=>by simp[T.tm,k7,nK,T.size]
 | .sym _,m,h=>by simp[T.tm,k7,nK,T.size]
 | .num _,m,h=>by simp[T.tm,k7,nK,T.size]
theorem X2(t:bQ)(m:Int):k7 t m=nK t.args 1 m:=by cases t;rfl
theorem Wt(t:bQ):∀m:Int,0≤m→m≤1000000→b7 az 162 [enc t,.int .i64 m] (.int .i64 (k7 t m)):=by
 suffices H:∀(k:Nat) (t:bQ),t.sz≤k→∀m:Int,0≤m→m≤1000000→b7 az 162 [enc t,.int .i64 m] (.int .i64 (k7 t m))from H _ t (e1 _)
 intro k;induction k with
 |zero=>intro t aN;cases t;simp[bQ.sz]at aN
 |succ k bW=>
  intro t aN m bV J;refine bE eA aay agW fun aU=>?_;unfold OR;have ib:t.args.length≤68719476736:=by rw[wA]at aU;simp[h9,ho,hV,lim]at aU;omega
  simp;refine gh [1,9,10] (fun i (n:Int)=>[(5,.int .i64 n),(11,.int .i64 i)]) t.args.length (fun i n=>(1≤n∧n≤m+1)∧nK (t.args.drop i) n m=k7 t m) 1 cu ⟨by omega,by simp[X2]⟩ (fun n ag _=>?_) (fun i n hi ag _=>?_)
  ·simp;(with_reducible repeat' first|refine aj ?_|simp);simp[bz,Ll,aV,aY,aT];have:=ag.2;simp[nK]at this;exact this
  ·obtain⟨⟨re,Bu⟩,ag⟩:=ag;obtain⟨x,ad,di⟩:=fE hi;have aK:t.args.drop i=x::t.args.drop (i+1):=by rw[kN hi,di]
   have ed:x.sz≤k:=by have:=ajo (gb ad);omega
   rw[aK]at ag;simp only[nK]at ag;simp[hi,di];by_cases ae:m<n
   ·rw[if_pos ae]at ag;(with_reducible repeat' first|refine aj ?_|simp[ae]);simp[bz,Ll,aV,aY,aT];exact ag
   ·rw[if_neg ae]at ag;have av:=HR x (m-n) (by omega);((with_reducible repeat' first|refine aj ?_|refine aC (bW x ed (m-n) (by omega) (by omega)) ?_|refine aD (bW x ed (m-n) (by omega) (by omega)) ?_|simp[ae]|((first|apply bI|apply bK|apply bJ)<;>intro h<;>try simp at h))<;>(try exact cm));exact bT.rng (n+k7 x (m-n)) hi ⟨by omega,ag⟩ cu
theorem Ah(t:T):b7 az 92 [t.e] (.bool (decide (t.size≤5000))):=by
 have av:=(DS t 5000 (by omega)).1;have key:=Wt t.tm 5000 (by omega) (by omega);rw[qT]at key;refine bE eA aaA agY fun aU=>?_;unfold OT;simp;(with_reducible repeat' first|refine aj ?_|refine aC key ?_|refine aD key ?_|simp);simp[bz,U4,aV,aY,aT];have:(k7 t.tm 5000≤5000)=(t.size≤5000):=by rw[av];simp;omega
 simp[this]
def aeg(l:List al)(v:Int)(k:Nat)(st:bj):Prop:=∃i:Nat,i≤l.length∧k=l.length-i∧c0 l v=c0 (l.drop i) v∧st=⟨[(1,.int .i64 v),(4,.ptr (.loc 0) 0),(8,.slice 5 .no (l.map al.e)),(9,.int .i64 l.length),(10,.int .i64 i)],[(.loc 0,[.int .i64 0,.int .i64 0,.str [],.slice 4 .nil []])],[],1,[]⟩
set_option maxRecDepth 4000 in
theorem uH(l:List al)(v:Int)(aq:l.length≤1000000):b7 az 161 [.slice 5 .no (l.map al.e),.int .i64 v] (.tuple [((c0 l v).getD .nil).e,.bool (c0 l v).isSome]):=by
 refine bE eA aaK ag8 fun aU=>?_;unfold O3;simp;refine nj (aeg l v) l.length _ cu ⟨0,by omega,rfl,by simp,rfl⟩ ?_;rintro k st ⟨i,hi,ab,aS,rfl⟩ js cH;clear js cH;by_cases bq:i<l.length
 ·obtain⟨b,ae⟩:∃b,l[i]? =some b:=⟨_,cv bq⟩;have Rk:l.drop i=b::l.drop (i+1):=by rw[kN bq];rw[cv bq]at ae;simp at ae;rw[ae]
  have dk:∀h,l[i]'h=b:=fun h=>by rw[cv h]at ae;simpa using ae
  simp[dk,bq];(with_reducible repeat' first|((first|apply bI|apply bK|apply bJ)<;>intro h<;>try simp at h)|refine aj ?_|simp[dk])
  ·have:c0 l v=some b.t:=by rw[aS,Rk];simp[c0,h]
   simp[bz,Ln,aV,aY,aT];simp[this]
  ·refine bT.next (l.length-(i+1)) (by omega) ⟨i+1,by omega,rfl,?_,rfl⟩ cu;rw[aS,Rk];simp[c0,h]
 ·have:c0 l v=none:=by rw[aS,List.drop_of_length_le (by omega)];simp[c0]
  simp[bq];(with_reducible repeat' first|((first|apply bI|apply bK|apply bJ)<;>intro h<;>try simp at h)|refine aj ?_|simp);simp[bz,Ln,aV,aY,aT];simp[this]
theorem aj2(l:List al)(aq:l.length≤1000000)(t:T):b7 az 75 [.slice 5 .no (l.map al.e),t.e] (t.sub (c0 l)).e:=by
 induction t with
 |pair a b ee ef=>
  refine bE eA Ip KQ fun aU=>?_;unfold DN;simp;(with_reducible repeat' first|refine aj ?_|refine aC ee ?_|refine aD ee ?_|refine aC ef ?_|refine aD ef ?_|refine aC (Ai _ _) ?_|refine aD (Ai _ _) ?_|simp);all_goals simp[bz,F1,aV,aY,aT]
  all_goals simp[T.sub]
 |var n=>
  refine bE eA Ip KQ fun aU=>?_;unfold DN;simp;((with_reducible repeat' first|refine aj ?_|refine aC (uH l n aq) ?_|refine aD (uH l n aq) ?_|simp|((first|apply bI|apply bK|apply bJ)<;>intro h<;>try simp at h))<;>(try exact cm));all_goals simp[bz,F1,aV,aY,aT]
  all_goals cases ae:c0 l n<;>simp_all[T.sub]
 |_=>
  refine bE eA Ip KQ fun aU=>?_;unfold DN;simp;(with_reducible repeat' first|refine aj ?_|simp);all_goals simp[bz,F1,aV,aY,aT]
  all_goals simp[T.sub]
theorem Wz(l:List al)(aq:l.length≤1000000)(t:T):b7 az 75 [.slice 5 .no (l.map al.e),t.e] (t.ap (bP l)).e:=by have:=aj2 l aq t;rw[VV]at this;exact this
theorem C2(l:List al)(aq:l.length≤1000000)(t:T):b7 az 166 [.slice 5 .no (l.map al.e),t.e] (.tuple [(t.ap (bP l)).e,.bool (decide ((t.ap (bP l)).size≤5000))]):=by refine bE eA aaI ag6 fun aU=>?_;unfold O1;simp;(with_reducible repeat' first|refine aj ?_|refine aC (Wz l aq t) ?_|refine aD (Wz l aq t) ?_|refine aC (Ah _) ?_|refine aD (Ah _) ?_|simp);simp[bz,Vb,aV,aY,aT]
def vC(v:Int)(l:List T):Bool:=l.any (T.occ v)
theorem TS(v:Int)(t:T):t.occ v=(vC v t.args||(t.kind==1&&t.int==v)):=by cases t<;>simp[T.occ,vC]
theorem vZ(v:Int)(t:T):b7 az 270 [.int .i64 v,t.e] (.bool (t.occ v)):=by
 suffices H:∀(k:Nat) (t:T),t.size≤k→b7 az 270 [.int .i64 v,t.e] (.bool (t.occ v))from H _ t (e1 _)
 intro k;induction k with
 |zero=>intro t aN;have:=T.size_pos t;omega
 |succ k bW=>
  intro t aN;have pt:t.args.length≤2:=by cases t<;>simp
  refine bE eA aaD ag1 fun aU=>?_;unfold OW;simp;refine gh [0,3,8,9] (fun i (_:Unit)=>[(10,.int .i64 i)]) t.args.length (fun i _=>vC v (t.args.drop i)=vC v t.args) () cu (by simp) (fun _ ag _=>?_) (fun i _ hi ag _=>?_)
  ·have bV:vC v t.args=false:=by rw[←ag];simp[vC]
   rw[TS,bV];simp;((with_reducible repeat' first|refine aj ?_|simp|((first|apply bI|apply bK|apply bJ)<;>intro h<;>try simp at h))<;>(try exact cm));all_goals simp[bz,Lm,aV,aY,aT]
   all_goals simp_all
  ·obtain⟨x,ad,di⟩:=fE hi;have aK:t.args.drop i=x::t.args.drop (i+1):=by rw[kN hi,di]
   have ed:x.size≤k:=by have hm:=gb ad;have:=T.size_pos x;cases t<;>simp at hm;rcases hm with rfl|rfl<;>simp[T.size]at aN<;>omega
   simp only[aK,vC,List.any_cons]at ag;simp[hi,di];cases au:x.occ v with
   |true=>
    rw[au]at ag;simp at ag;have bV:t.occ v=true:=by rw[TS];simp[vC];left;simpa using ag
    (with_reducible repeat' first|refine aj ?_|refine aC (bW x ed) ?_|refine aD (bW x ed) ?_|simp[au]);simp[bz,Lm,aV,aY,aT];simp[bV]
   |false=>rw[au]at ag;have aeN:=bW x ed;exact ko
theorem GL(v:Int)(x t:T):b7 az 271 [t.e,.int .i64 v,x.e] (t.ap (Go.Pv.one v x)).e:=by
 induction t with
 |pair a b ee ef=>
  refine bE eA Io KP fun aU=>?_;unfold DM;simp;(with_reducible repeat' first|refine aj ?_|refine aC ee ?_|refine aD ee ?_|refine aC ef ?_|refine aD ef ?_|refine aC (Ai _ _) ?_|refine aD (Ai _ _) ?_|simp);all_goals simp[bz,F0,aV,aY,aT]
  all_goals simp[T.ap]
 |var n=>
  refine bE eA Io KP fun aU=>?_;unfold DM;simp;((with_reducible repeat' first|refine aj ?_|simp|((first|apply bI|apply bK|apply bJ)<;>intro h<;>try simp at h))<;>(try exact cm));all_goals simp[bz,F0,aV,aY,aT]
  all_goals simp_all[T.ap,Go.Pv.one]
 |_=>
  refine bE eA Io KP fun aU=>?_;unfold DM;simp;(with_reducible repeat' first|refine aj ?_|simp);all_goals simp[bz,F0,aV,aY,aT]
  all_goals simp[T.ap]
theorem GN(s:List al)(aq:s.length≤1000000)(t:T):b7 az 236 [.slice 5 .no (s.map al.e),t.e] (gT s t).e:=by
 cases t with
 |var n=>
  cases ae:c0 s n with
  |none=>refine bE eA Iq KR fun aU=>?_;unfold DO;simp;(with_reducible repeat' first|refine aj ?_|refine aC (uH s n aq) ?_|refine aD (uH s n aq) ?_|simp[ae]);simp[bz,F2,aV,aY,aT];simp[gT,bP,ae]
  |some x=>refine bE eA Iq KR fun aU=>?_;unfold DO;simp;(with_reducible repeat' first|refine aj ?_|refine aC (uH s n aq) ?_|refine aD (uH s n aq) ?_|simp[ae]);simp[bz,F2,aV,aY,aT];simp[gT,bP,ae]
 |_=>refine bE eA Iq KR fun aU=>?_;unfold DO;simp;(with_reducible repeat' first|refine aj ?_|simp);simp[bz,F2,aV,aY,aT];simp[gT]
theorem Sl(b:al):∀(s:List al) (k:Nat),(∀i c,i<k→s[i]? =some c→c.v≤b.v)→(∀c,s[k]? =some c→b.v<c.v)→k≤s.length→n9 b s=s.take k++b::s.drop k
 |[],k,_,_,ab=>by simp at ab;subst ab;rfl
 |c::s,0,_,U,_=>by have:=U c rfl;simp[n9,this]
 |c::s,k+1,J,U,ab=>by have:=J 0 c (by omega) rfl;simp only[n9,if_neg (by omega:¬b.v<c.v),List.take_succ_cons,List.drop_succ_cons,bO];rw[Sl b s k (fun i d hi aK=>J (i+1) d (by omega) (by simpa using aK)) (fun d aK=>U d (by simpa using aK)) (by simpa using ab)]
theorem aj1(s:List al)(b:al)(aq:s.length≤1000000)(br:h5 s):b7 az 234 [.slice 5 .no (s.map al.e),b.e] (.slice 5 .no ((n9 b s).map al.e)):=by
 refine bE eA aaL ag9 fun aU=>?_;unfold O4;simp;refine uU [0,3] (fun(k:Nat)=>[(5,.int .i64 k)]) (fun k=>k) (fun k=>k≤s.length∧∀c,s[k]? =some c→b.v<c.v) s.length cu ⟨by omega,fun c h=>by simp at h⟩ (fun k ag _=>?_);obtain⟨ab,ag⟩:=ag;have sj:(∀c,0<k→s[k-1]? =some c→c.v≤b.v)→n9 b s=s.take k++b::s.drop k:=fun h=>Sl b s k (fun i c hi av=>by
  obtain⟨d,aK⟩:∃d,s[k-1]? =some d:=⟨_,cv (by omega)⟩;have J:=h d (by omega) aK;rcases Nat.lt_or_ge i (k-1)with U|U
  ·have sl:=(fG.1 av);have kU:=(fG.1 aK);have:=pb.1 br i (k-1) sl.1 kU.1 U;rw[sl.2,kU.2]at this;omega
  ·have:i=k-1:=by omega
   subst this;rw[aK]at av;cases av;exact J) ag ab
 rcases Nat.eq_zero_or_pos k with rfl|fq
 ·have e:=sj fun c h=>by omega
  rw[e];simp;(with_reducible repeat' first|refine aj ?_|simp);simp[bz,Lo,aV,aY,aT];try simp[ha]
 ·obtain⟨d,aK⟩:∃d,s[k-1]? =some d:=⟨_,cv (by omega)⟩;have ak:((k:Int)-1).toNat=k-1:=by omega
  have aA:∀h,(s[k-1]'h)=d:=fun h=>by rw[cv h]at aK;exact fP aK
  have iA:(0:Int)<k:=by omega
  by_cases ae:b.v<d.v
  ·simp[fq,iA,ak,aA,ae,aK];(with_reducible repeat' first|refine aj ?_|simp[fq,iA,ak,aA,ae,aK]);refine bT.whl (k-1) (by omega) ⟨by omega,fun c av=>by rw[aK]at av;cases av;exact ae⟩ ?_;have bs:((k-1:Nat):Int)=(k:Int)-1:=by omega
   simp[bs];exact cu
  ·have e:=sj fun c _ av=>by rw[aK]at av;cases av;omega
   rw[e];simp[fq,iA,ak,aA,ae,aK];(with_reducible repeat' first|refine aj ?_|simp[fq,iA,ak,aA,ae,aK]);simp[bz,Lo,aV,aY,aT];have dq:ox s.length (s.map al.e)=s.map al.e:=ha (by simp);rw[dq,←List.map_take,←List.map_drop,←gI,←List.map_append];exact VT _
def L4(v:Int)(x:T)(b:al):al:=⟨b.v,b.t.ap (Go.Pv.one v x)⟩
def aer(s:List al)(v:Int)(x:T)(i:Nat)(out:List al):Prop:=out=(s.take i).map (L4 v x)∧∀b∈s.take i,(b.t.ap (Go.Pv.one v x)).size≤5000
theorem aj5(s:List al)(v:Int)(t:T)(aq:s.length≤1000000)(br:h5 s):b7 az 237 [.slice 5 .no (s.map al.e),.int .i64 v,t.e] (eZ (ng s v t)):=by
 obtain⟨x,ad⟩:∃x,x=t.ap (bP s):=⟨_,rfl⟩;have q4:=C2 s aq t;rw[←ad]at q4;obtain⟨o,au⟩:∃o,o=ng s v t:=⟨_,rfl⟩;have adY:x.size≤5000→x.occ v=false→s.length<400→(∀b∈s,(b.t.ap (Go.Pv.one v x)).size≤5000)→o=some (lX s v x):=fun a1 bt b2 c2=>by rw[au,ng,←ad,if_pos ⟨a1,bt,b2,c2⟩]
 have dT:¬(x.size≤5000∧x.occ v=false∧s.length<400∧∀b∈s,(b.t.ap (Go.Pv.one v x)).size≤5000)→o=none:=fun q=>by rw[au,ng,←ad,if_neg q]
 rw[←au];clear au;by_cases J:x.size≤5000;rotate_left
 ·rw[dT fun h=>J h.1];refine bE eA D5 FE fun aU=>?_;unfold AM;simp;(with_reducible repeat' first|refine aj ?_|refine aC q4 ?_|refine aD q4 ?_|refine aC (vZ _ _) ?_|refine aD (vZ _ _) ?_|simp[J]);simp[bz,zS,aV,aY,aT];simp[eZ]
 cases U:x.occ v with
 |true=>rw[dT fun h=>by rw[U]at h;cases h.2.1];refine bE eA D5 FE fun aU=>?_;unfold AM;simp;(with_reducible repeat' first|refine aj ?_|refine aC q4 ?_|refine aD q4 ?_|refine aC (vZ _ _) ?_|refine aD (vZ _ _) ?_|simp[J,U]);simp[bz,zS,aV,aY,aT];simp[eZ]
 |false=>
 by_cases ao:s.length<400;rotate_left
 ·rw[dT fun h=>ao h.2.2.1];have sd:(400:Int)≤s.length:=by omega
  refine bE eA D5 FE fun aU=>?_;unfold AM;simp;(with_reducible repeat' first|refine aj ?_|refine aC q4 ?_|refine aD q4 ?_|refine aC (vZ _ _) ?_|refine aD (vZ _ _) ?_|simp[J,U,sd]);simp[bz,zS,aV,aY,aT];simp[eZ]
 have sd:¬(400:Int)≤s.length:=by omega
 refine bE eA D5 FE fun aU=>?_;unfold AM;simp;(with_reducible repeat' first|refine aj ?_|refine aC q4 ?_|refine aD q4 ?_|refine aC (vZ _ _) ?_|refine aD (vZ _ _) ?_|simp[J,U,sd]);refine ir (α:=List al) (fun i out=>⟨[(1,.int .i64 v),(8,.ptr (.loc 1) 0),(33,.slice 5 .no (s.map al.e)),(34,.int .i64 s.length),(10,.slice 5 (.own (.loc 2)) (out.map al.e)),(35,.int .i64 i)],[(.loc 1,[.int .i64 x.kind,.int .i64 x.int,.str x.name,.slice 4 .no (x.args.map T.e)])],[(.loc 2,⟨out.length,61,5,none⟩)],3,[]⟩) s.length (aer s v x) [] cu ⟨by simp,by simp⟩ (fun out ag _=>?_) (fun i out hi ag _=>?_)
 ·obtain⟨dS,nV⟩:=ag;rw[ha (e1 _)]at dS nV;have aco:h5 out:=by rw[dS,h5,List.pairwise_map];exact br
  have yT:out.length≤1000000:=by rw[dS];simpa using aq
  rw[adY J U ao nV];have key:=aj1 out ⟨v,x⟩ yT aco;simp;(with_reducible repeat' first|refine aj ?_|refine aC key ?_|refine aD key ?_|simp);simp[bz,zS,aV,aY,aT];simp[eZ,lX,dS];rfl
 ·obtain⟨dS,nV⟩:=ag;obtain⟨b,aJ,gk⟩:=fE hi;have ve:s.take (i+1)=s.take i++[b]:=by rw[List.take_succ,aJ];rfl
  have yT:out.length≤1000000:=by rw[dS];simp;omega
  simp[hi,gk];by_cases bf:(b.t.ap (Go.Pv.one v x)).size≤5000
  ·(with_reducible repeat' first|refine aj ?_|refine aC (GL _ _ _) ?_|refine aD (GL _ _ _) ?_|refine aC (Ah _) ?_|refine aD (Ah _) ?_|simp[gk,hi,bf]);all_goals first|(refine⟨by unfold lim;omega,?_⟩)|skip
   (with_reducible repeat' first|refine aj ?_|simp);refine bT.rng (out++[L4 v x b]) hi ⟨by rw[ve,dS,List.map_append];rfl,fun c av=>?_⟩ ?_
   ·rw[ve]at av;rcases ja.1 av with av|av
    ·exact nV c av
    ·simp at av;subst av;exact bf
   ·simp[L4];exact⟨by simp[fresh,aO,aF,cl,inObs,Pv.look,iT],eF (by simp[fresh,aO,aF,cl,inObs,Pv.look,iT]),eG (by simp[fresh,aO,aF,eb,inObs,Pv.look,iT]),by simp⟩
  ·rw[dT fun h=>bf (h.2.2.2 b (gb aJ))];(with_reducible repeat' first|refine aj ?_|refine aC (GL _ _ _) ?_|refine aD (GL _ _ _) ?_|refine aC (Ah _) ?_|refine aD (Ah _) ?_|simp[gk,hi,bf]);simp[bz,zS,aV,aY,aT];simp[eZ]
theorem ajA{s:List al}(af:ff s)(aQ:gy s){n:Nat}{a b:T}{o:Option (List al)}(h:kq n s a b=some o):il s [(a,b)] o:=by obtain⟨n',o',J,U⟩:=GG af aQ a b;have ak:=CY (Nat.le_max_left n n') h;have aA:=CY (Nat.le_max_right n n') J;rw[ak]at aA;cases aA;exact U
def Ae(n:Nat):List (T×T)→List al→Option (Option (List al))
 |[],s=>some (some s)
 |e::r,s=>match kq n s e.1 e.2 with
  |none=>none
  |some none=>some none
  |some (some s1)=>Ae n r s1
def xe(x y:T):Bool:=x.kind==y.kind&&x.int==y.int&&x.name==y.name
theorem ajy(n:Nat)(s:List al){x y:T}(ad:x.kind≠1)(aG:y.kind≠1):jQ (kq n) s x y=if xe x y then Ae n (x.args.zip y.args) s else some none:=by
 cases x<;>cases y<;>simp[jQ,xe,Ae]at ad aG⊢
 ·rename_i a b;split<;>simp_all
 ·rename_i a b;split<;>simp_all
 ·rename_i bp a2 b8 b3;cases kq n s bp b8 with
  |none=>rfl
  |some o=>cases o with
   |none=>rfl
   |some s1=>
    simp only
    cases kq n s1 a2 b3 with
    |none=>rfl
    |some o=>cases o<;>rfl
theorem aeQ{x y:T}(h:xe x y=true):x.args.length=y.args.length:=by cases x<;>cases y<;>simp[xe]at h⊢
@[simp] theorem alN(o:Option (List al)):yn 0 (eZ o)=some (True,.slice 5 .no ((o.getD []).map al.e)):=rfl
@[simp] theorem alO(o:Option (List al)):yn 1 (eZ o)=some (True,.bool o.isSome):=rfl
set_option maxRecDepth 4000 in
theorem aj8(n:Nat):∀(s:List al) (a b:T) (o:Option (List al)),ff s→gy s→kq n s a b=some o→b7 az 176 [.slice 5 .no (s.map al.e),a.e,b.e] (eZ o):=by
 induction n with
 |zero=>intro s a b o _ _ h;simp[kq]at h
 |succ n bW=>
  intro s a b o af aQ he;have aq:s.length≤1000000:=by have:=aQ.1;omega
  have fH:=GN s aq a;have dL:=GN s aq b;simp only[kq]at he;generalize gT s a=x at he fH;generalize gT s b=y at he dL;have ae:=fun v t=>aj5 s v t aq af.asc;have qd:∀z:T,¬z.kind=1→(z.kind==1)=false:=fun z h=>by simp[h]
  by_cases ad:x.kind=1
  ·obtain⟨i,rfl⟩:∃i,x= .var i:=by cases x<;>simp at ad;exact⟨_,rfl⟩
   by_cases aG:y.kind=1
   ·obtain⟨j,rfl⟩:∃j,y= .var j:=by cases y<;>simp at aG;exact⟨_,rfl⟩
    simp only[jQ,dt]at he;subst he;rcases Int.lt_trichotomy i j with h|h|h
    ·rw[if_pos h];have key:=ae j (.var i);refine bE eA tw ug fun aU=>?_;unfold r5;simp;(with_reducible repeat' first|refine aj ?_|refine aC fH ?_|refine aD fH ?_|refine aC dL ?_|refine aD dL ?_|refine aC key ?_|refine aD key ?_|simp[h]);simp[bz,rG,aV,aY,aT];simp[eZ]
    ·subst h;rw[if_neg (by omega),if_pos rfl];have bV:¬i<i:=by omega
     refine bE eA tw ug fun aU=>?_;unfold r5;simp;(with_reducible repeat' first|refine aj ?_|refine aC fH ?_|refine aD fH ?_|refine aC dL ?_|refine aD dL ?_|simp[bV]);simp[bz,rG,aV,aY,aT];simp[eZ]
    ·rw[if_neg (by omega),if_neg (by omega)];have key:=ae i (.var j);have bV:¬i<j:=by omega
     have U:¬i=j:=by omega
     refine bE eA tw ug fun aU=>?_;unfold r5;simp;((with_reducible repeat' first|refine aj ?_|refine aC fH ?_|refine aD fH ?_|refine aC dL ?_|refine aD dL ?_|refine aC key ?_|refine aD key ?_|simp[bV,U]|((first|apply bI|apply bK|apply bJ)<;>intro h<;>try simp at h))<;>(try exact cm));simp[bz,rG,aV,aY,aT];simp[eZ]
   ·have u1:ng s i y=o:=by cases y<;>first|(simp at aG;done)|exact fP he
    subst u1;have key:=ae i y;refine bE eA tw ug fun aU=>?_;unfold r5;simp;(with_reducible repeat' first|refine aj ?_|refine aC fH ?_|refine aD fH ?_|refine aC dL ?_|refine aD dL ?_|refine aC key ?_|refine aD key ?_|simp[qd y aG]);simp[bz,rG,aV,aY,aT];simp[eZ]
  ·by_cases aG:y.kind=1
   ·obtain⟨j,rfl⟩:∃j,y= .var j:=by cases y<;>simp at aG;exact⟨_,rfl⟩
    have u1:ng s j x=o:=by cases x<;>first|(simp at ad;done)|exact fP he
    subst u1;have key:=ae j x;refine bE eA tw ug fun aU=>?_;unfold r5;simp;(with_reducible repeat' first|refine aj ?_|refine aC fH ?_|refine aD fH ?_|refine aC dL ?_|refine aD dL ?_|refine aC key ?_|refine aD key ?_|simp[qd x ad]);simp[bz,rG,aV,aY,aT];simp[eZ]
   ·rw[ajy n s ad aG]at he;cases hle:xe x y with
    |false=>
     rw[hle]at he;simp at he;subst he;have Jb:(x.kind !=y.kind)=true∨((x.kind !=y.kind)=false∧((x.int !=y.int)=true∨((x.int !=y.int)=false∧(x.name !=y.name)=true))):=by simp only[xe]at hle;simp only[bne];cases ak:(x.kind==y.kind)<;>cases aA:(x.int==y.int)<;>cases bs:(x.name==y.name)<;>simp_all
     rcases Jb with a1|⟨a1,bt|⟨bt,b2⟩⟩
     ·refine bE eA tw ug fun aU=>?_;unfold r5;simp;(with_reducible repeat' first|refine aj ?_|refine aC fH ?_|refine aD fH ?_|refine aC dL ?_|refine aD dL ?_|simp[qd x ad,qd y aG,a1]);simp[bz,rG,aV,aY,aT];simp[eZ]
     ·refine bE eA tw ug fun aU=>?_;unfold r5;simp;(with_reducible repeat' first|refine aj ?_|refine aC fH ?_|refine aD fH ?_|refine aC dL ?_|refine aD dL ?_|simp[qd x ad,qd y aG,a1,bt]);simp[bz,rG,aV,aY,aT];simp[eZ]
     ·refine bE eA tw ug fun aU=>?_;unfold r5;simp;have FM:¬x.name=y.name:=by simpa using b2
      have ahJ:decide (x.name=y.name)=false:=by simp[FM]
      ((with_reducible repeat' first|refine aj ?_|refine aC fH ?_|refine aD fH ?_|refine aC dL ?_|refine aD dL ?_|simp[qd x ad,qd y aG,a1,bt,b2,FM,ahJ]|((first|apply bI|apply bK|apply bJ)<;>intro h<;>try simp at h))<;>(try exact cm));simp[bz,rG,aV,aY,aT];simp[eZ]
    |true=>
     rw[hle,if_pos rfl]at he;have Jb:(x.kind !=y.kind)=false∧(x.int !=y.int)=false∧(x.name !=y.name)=false:=by simp only[xe]at hle;simp only[bne];cases ak:(x.kind==y.kind)<;>cases aA:(x.int==y.int)<;>cases bs:(x.name==y.name)<;>simp_all
     obtain⟨a1,bt,b2⟩:=Jb;have hlen:=aeQ hle;have FM:x.name=y.name:=by simpa using b2
     have pt:x.args.length≤2:=by cases x<;>simp
     refine bE eA tw ug fun aU=>?_;unfold r5;simp;(with_reducible repeat' first|refine aj ?_|refine aC fH ?_|refine aD fH ?_|refine aC dL ?_|refine aD dL ?_|simp[qd x ad,qd y aG,a1,bt,FM]);refine ir (α:=List al) (fun i ah=>⟨[(5,.ptr (.loc 1) 0),(96,.slice 4 .no (x.args.map T.e)),(97,.int .i64 x.args.length),(0,.slice 5 .no (ah.map al.e)),(98,.int .i64 i)],[(.loc 1,[.int .i64 y.kind,.int .i64 y.int,.str y.name,.slice 4 .no (y.args.map T.e)])],[],2,[]⟩) x.args.length (fun i ah=>(ff ah∧gy ah)∧Ae n ((x.args.zip y.args).drop i) ah=some o) s cu ⟨⟨af,aQ⟩,by simpa using he⟩ (fun ah ag _=>?_) (fun i ah hi ag _=>?_)
     ·obtain⟨_,ag⟩:=ag;rw[List.drop_eq_nil_of_le (by simp[hlen])]at ag;simp[Ae]at ag;subst ag;simp;(with_reducible repeat' first|refine aj ?_|simp);simp[bz,rG,aV,aY,aT];simp[eZ]
     ·obtain⟨⟨g1,g2⟩,ag⟩:=ag;obtain⟨bp,br⟩:∃a,x.args[i]? =some a:=⟨_,cv hi⟩;obtain⟨b8,gz⟩:∃b,y.args[i]? =some b:=⟨_,cv (by omega)⟩;have mA:∀h,(x.args[i]'h)=bp:=fun h=>by rw[cv hi]at br;exact fP br
      have dk:∀h,(y.args[i]'h)=b8:=fun h=>by rw[cv h]at gz;exact fP gz
      have ra:i<y.args.length:=by omega
      have aK:(x.args.zip y.args).drop i=(bp,b8)::(x.args.zip y.args).drop (i+1):=by rw[kN (by simp;omega)];simp[mA,dk]
      rw[aK]at ag;simp only[Ae]at ag;simp[hi,mA,dk,ra];cases hu:kq n ah bp b8 with
      |none=>rw[hu]at ag;cases ag
      |some gv=>
       have key:=bW ah bp b8 gv g1 g2 hu;rw[hu]at ag;cases gv with
       |none=>simp at ag;subst ag;(with_reducible repeat' first|refine aj ?_|refine aC key ?_|refine aD key ?_|simp[mA,dk,hi,ra]);simp[bz,rG,aV,aY,aT];simp[eZ]
       |some s1=>have adM:=ajA g1 g2 hu;(with_reducible repeat' first|refine aj ?_|refine aC key ?_|refine aD key ?_|simp[mA,dk,hi,ra]);refine bT.rng s1 hi ⟨adM.1,ag⟩ ?_;exact cu
theorem Ms(s:List al)(a b:T)(af:ff s)(aQ:gy s):b7 az 176 [.slice 5 .no (s.map al.e),a.e,b.e] (eZ (mgu s [(a,b)])):=by obtain⟨n,o,J,U⟩:=GG af aQ a b;rw[oZ U];exact aj8 n s a b o af aQ J
def aeq(s:List al)(E:List (T×T))(i:Nat)(ah:List al):Prop:=(ff ah∧gy ah)∧mgu ah (E.drop i)=mgu s E
theorem aj4(s:List al)(l r:List T)(aq:l.length=r.length)(af:ff s)(aQ:gy s)(wU:l.length≤1000000):b7 az 268 [.slice 5 .no (s.map al.e),.slice 4 .no (l.map T.e),.slice 4 .no (r.map T.e)] (eZ (mgu s (l.zip r))):=by
 refine bE eA aaN ahb fun aU=>?_;unfold O6;simp;refine ir (α:=List al) (fun i ah=>⟨[(2,.slice 4 .no (r.map T.e)),(12,.slice 4 .no (l.map T.e)),(13,.int .i64 l.length),(0,.slice 5 .no (ah.map al.e)),(14,.int .i64 i)],[],[],0,[]⟩) l.length (aeq s (l.zip r)) s cu ⟨⟨af,aQ⟩,by simp⟩ (fun ah ag _=>?_) (fun i ah hi ag _=>?_)
 ·obtain⟨⟨g1,g2⟩,ag⟩:=ag;rw[List.drop_eq_nil_of_le (by simp[aq]),Ca g1 g2]at ag;rw[←ag];simp;(with_reducible repeat' first|refine aj ?_|simp);simp[bz,Lq,aV,aY,aT];simp[eZ]
 ·obtain⟨⟨g1,g2⟩,ag⟩:=ag;obtain⟨a,br⟩:∃a,l[i]? =some a:=⟨_,cv hi⟩;obtain⟨b,gz⟩:∃b,r[i]? =some b:=⟨_,cv (by omega)⟩;have mA:∀h,(l[i]'h)=a:=fun h=>by rw[cv hi]at br;exact fP br
  have dk:∀h,(r[i]'h)=b:=fun h=>by rw[cv h]at gz;exact fP gz
  have ra:i<r.length:=by omega
  have aK:(l.zip r).drop i=(a,b)::(l.zip r).drop (i+1):=by rw[kN (by simp;omega)];simp[mA,dk]
  rw[aK,Ks g1 g2]at ag;simp[hi,mA,dk,ra];have key:=Ms ah a b g1 g2;cases hu:mgu ah [(a,b)]with
  |none=>rw[hu]at ag key;simp only at ag;rw[←ag];(with_reducible repeat' first|refine aj ?_|refine aC key ?_|refine aD key ?_|simp[mA,dk,hi,ra]);simp[bz,Lq,aV,aY,aT];simp[eZ]
  |some s1=>have oS:=rz g1 g2 hu;rw[hu]at ag key;(with_reducible repeat' first|refine aj ?_|refine aC key ?_|refine aD key ?_|simp[mA,dk,hi,ra]);refine bT.rng s1 hi ⟨oS,ag⟩ ?_;exact cu
theorem j3(n:Int):b7 az 91 [.int .i64 n] (T.var n).e:=by refine bE fs Qd T7 fun aU=>?_;unfold HM;exact cZ
def aet(t:List al)(i:Nat)(p:List T×List T):Prop:=p.1=(t.take i).map (fun b=>T.var b.v)∧p.2=(t.take i).map (·.t)
theorem aj6(s t:List al)(af:ff s)(aQ:gy s)(aN:t.length≤1000000):b7 az 219 [.slice 5 .no (s.map al.e),.slice 5 .no (t.map al.e)] (eZ (mgu s (fN t))):=by
 have bf:(t.map fun b=>T.var b.v).zip (t.map (·.t))=fN t:=by rw[fN,List.zip_map']
 refine bE eA aaO ahc fun aU=>?_;unfold O7;simp;refine ir (α:=List T×List T) (fun i p=>⟨[(0,.slice 5 .no (s.map al.e)),(12,.slice 5 .no (t.map al.e)),(13,.int .i64 t.length),(6,.slice 4 (.own (.loc 0)) (p.1.map T.e)),(7,.slice 4 (.own (.loc 1)) (p.2.map T.e)),(14,.int .i64 i)],[],[(.loc 0,⟨p.1.length,32,4,none⟩),(.loc 1,⟨p.2.length,32,4,none⟩)],2,[]⟩) t.length (aet t) ([],[]) cu ⟨by simp,by simp⟩ (fun p ag _=>?_) (fun i p hi ag _=>?_)
 ·obtain⟨A,B⟩:=p;obtain⟨bd,iP⟩:=ag;simp only at bd iP⊢;rw[ha (e1 _)]at bd iP;have key:=aj4 s A B (by rw[bd,iP];simp) af aQ (by rw[bd];simpa using aN);rw[bd,iP,bf,←bd,←iP]at key;simp;(with_reducible repeat' first|refine aj ?_|refine aC key ?_|refine aD key ?_|simp);simp[bz,Vc,aV,aY,aT];simp[eZ]
 ·obtain⟨A,B⟩:=p;obtain⟨bd,iP⟩:=ag;simp only at bd iP⊢;obtain⟨b,aJ,gk⟩:=fE hi;have ve:t.take (i+1)=t.take i++[b]:=by rw[List.take_succ,aJ];rfl
  have ab7:A.length≤1000000:=by rw[bd];simp;omega
  have ab8:B.length≤1000000:=by rw[iP];simp;omega
  simp[hi,gk];(with_reducible repeat' first|refine aj ?_|refine aC (j3 _) ?_|refine aD (j3 _) ?_|simp[gk,hi]);all_goals first|(refine⟨by unfold lim;omega,?_⟩)|skip
  (with_reducible repeat' first|refine aj ?_|simp);all_goals first|(refine⟨by unfold lim;omega,?_⟩)|skip
  (with_reducible repeat' first|refine aj ?_|simp);refine bT.rng (A++[.var b.v],B++[b.t]) hi ⟨by rw[ve,bd];simp,by rw[ve,iP];simp⟩ ?_;simp;exact⟨by simp[fresh,aO,aF,cl,inObs,Pv.look,iT],eF (by simp[fresh,aO,aF,cl,inObs,Pv.look,iT]),eG (by simp[fresh,aO,aF,eb,inObs,Pv.look,iT]),by simp⟩
theorem eR(n lo hi:Int):b7 az 141 [.int .i64 n,.int .i64 lo,.int .i64 hi] (.bool (decide (lo≤n∧n≤hi))):=by
 refine bE eA aau agS fun aU=>?_;unfold ON;simp;((with_reducible repeat' first|refine aj ?_|simp|((first|apply bI|apply bK|apply bJ)<;>intro h<;>try simp at h))<;>(try exact cm));all_goals simp[bz,U0,aV,aY,aT]
 all_goals first|omega|(simp;done)|(simp;omega)
def shp:bQ→Bool
 | .mk k n s [a,b]=>k==4&&n==0&&s==[]&&shp a&&shp b
 | .mk k n s []=>kY k n s
 |_=>false
theorem Gr:∀x:T,shp x.tm=x.ok
 | .nil=>by simp[T.tm,shp,kY,T.ok]
 | .var _=>by simp[T.tm,shp,kY,T.ok]
 | .sym _=>by simp[T.tm,shp,kY,T.ok]
 | .num _=>by simp[T.tm,shp,kY,T.ok]
 | .pair a b=>by simp[T.tm,shp,T.ok,Gr a,Gr b]
theorem aiT:∀(m:Nat) (t:bQ),t.sz≤m→shp t=true→∃x:T,x.tm=t:=by
 intro m;induction m with
 |zero=>intro t aN;cases t;simp[bQ.sz]at aN
 |succ m bW=>
  rintro⟨k,n,s,args⟩ aN h;match args with
  |[a,b]=>
   simp[bQ.sz,bQ.szL]at aN;simp only[shp,cx,dH]at h;obtain⟨⟨⟨⟨rfl,rfl⟩,ao⟩,J⟩,U⟩:=h;obtain⟨x,rfl⟩:=bW a (by omega) J;obtain⟨y,rfl⟩:=bW b (by omega) U;have:s=[]:=by simpa using ao
   subst this;exact⟨.pair x y,rfl⟩
  |[]=>
   simp only[shp,kY]at h;split at h
   ·subst_vars;simp at h;exact⟨.nil,by simp[T.tm,h]⟩
   split at h
   ·subst_vars;simp at h;exact⟨.var n,by simp[T.tm,h]⟩
   split at h
   ·subst_vars;simp at h;exact⟨.sym s,by simp[T.tm,h]⟩
   split at h
   ·subst_vars;simp at h;exact⟨.num n,by simp[T.tm,h]⟩
   ·simp at h
  |[_]=>simp[shp]at h
  |_::_::_::_=>simp[shp]at h
theorem aa3(t:bQ):t.fits=(decide (k7 t 5000≤5000)&&shp t):=by
 by_cases h:shp t=true
 ·obtain⟨x,rfl⟩:=aiT _ t (e1 _) h;have:=(DS x 5000 (by omega)).1;rw[bQ.fits_T,T.fit,h];rw[Gr]at h;simp[h,this];omega
 ·have bV:t.fits=false:=by
   cases aQ:t.fits with
   |false=>rfl
   |true=>obtain⟨x,rfl,ad⟩:=bQ.fits_ex aQ;rw[Gr]at h;simp[T.fit]at ad;exact absurd ad.1 h
  simp at h;rw[bV,h];simp
def JQ(s:List cV)(i:Nat):Prop:=i≤s.length∧∀k,k<i→l6 (s.getD k 0)=true∧(k=0→low (s.getD k 0)=true)
theorem aeo{s:List cV}(h:JQ s s.length):iB s=decide (1≤s.length∧s.length≤12):=by
 unfold iB;by_cases aq:1≤s.length
 ·have J:=(h.2 0 (by omega)).2 rfl;have U:(s.drop 1).all l6=true:=by rw[jD];intro b ae;obtain⟨i,hi,e⟩:=ov ae;simp at hi e;have:=(h.2 (i+1) (by omega)).1;rw[List.getD_eq_getElem?_getD,cv (by omega)]at this;simp only[jk]at this;rw[←e];exact this
  rw[J,U];simp
 ·have:decide (1≤s.length∧s.length≤12)=false:=by simp;omega
  rw[this];simp
theorem aen{s:List cV}{i:Nat}(hi:i<s.length)(h:l6 (s.getD i 0)=false∨(i=0∧low (s.getD i 0)=false)):iB s=false:=by
 cases e:iB s with
 |false=>rfl
 |true=>
  exfalso;simp only[iB,cx,jD]at e;obtain⟨⟨_,ak⟩,aA⟩:=e;rcases h with h|⟨rfl,h⟩
  ·by_cases bV:i=0
   ·subst bV;rw[l6,ak]at h;simp at h
   ·have:=aA (s.getD i 0) (by rw[List.getD_eq_getElem?_getD,cv hi];simp only[jk];refine List.mem_iff_getElem.2 ⟨i-1,by simp;omega,?_⟩;simp[show i-1+1=i from by omega])
    rw[this]at h;cases h
  ·rw[ak]at h;cases h
theorem hr(s:List cV):b7 az 216 [.str s] (.bool (iB s)):=by
 generalize b4:iB s=R;refine bE eA aan agL fun aU=>?_;unfold OG;have ib:s.length≤68719476736:=by simp[h9,ho,hV,lim]at aU;omega
 simp;refine uU [0] (fun(i:Nat)=>[(3,.int .i64 i)]) (fun i=>s.length-i) (JQ s) 0 cu ⟨by omega,fun k ab=>by omega⟩ (fun i ag _=>?_);have dS:=ag.1;by_cases hi:i<s.length
 ·have dT:=aen hi;rw[b4]at dT;obtain⟨c,av,iv⟩:=fE hi;have Rb:s.getD i 0=c:=by simp[List.getD_eq_getElem?_getD,av]
  rw[Rb]at dT;have dh:l6 c=true→(i=0→low c=true)→JQ s (i+1):=fun J U=>⟨by omega,fun k ab=>by
   rcases(by omega:k<i∨k=i)with h|rfl
   ·exact ag.2 k h
   ·rw[Rb];exact⟨J,U⟩⟩
  have hw:mi.wrap (c.toNat:Int)=c.toNat:=lR _ (by have:=c.toNat_lt;omega);simp[hi,iv,av];by_cases a1:(97:Int)≤c.toNat
  ·by_cases bt:(c.toNat:Int)≤122
   ·have aq:low c=true:=by simp[low];omega
    (with_reducible repeat' first|refine aj ?_|refine aC (eR _ _ _) ?_|refine aD (eR _ _ _) ?_|simp[hi,iv,av,a1,bt]);exact bT.whl (i+1) (by omega) (dh (by simp[l6,aq]) (fun _=>aq)) cu
   ·have aq:low c=false:=by simp[low];omega
    by_cases bV:i=0
    ·rw[dT (.inr ⟨bV,aq⟩)];have q1:((i:Int)==0)=true:=by simp[bV]
     (with_reducible repeat' first|refine aj ?_|refine aC (eR _ _ _) ?_|refine aD (eR _ _ _) ?_|simp[hi,iv,av,a1,bt,q1,hw]);simp[bz,zP,aV,aY,aT]
    ·have q1:((i:Int)==0)=false:=by simp[bV]
     by_cases b2:(c.toNat:Int)=45
     ·have sN:((c.toNat:Int) !=45)=false:=by simp[b2]
      (with_reducible repeat' first|refine aj ?_|refine aC (eR _ _ _) ?_|refine aD (eR _ _ _) ?_|simp[hi,iv,av,a1,bt,q1,hw,b2,sN]);all_goals exact bT.whl (i+1) (by omega) (dh (by simp[l6];omega) (fun h=>absurd h bV)) cu
     ·have sN:((c.toNat:Int) !=45)=true:=by simp[b2]
      by_cases c2:(48:Int)≤c.toNat∧(c.toNat:Int)≤57
      ·(with_reducible repeat' first|refine aj ?_|refine aC (eR _ _ _) ?_|refine aD (eR _ _ _) ?_|simp[hi,iv,av,a1,bt,q1,hw,b2,sN,c2]);all_goals exact bT.whl (i+1) (by omega) (dh (by simp[l6];omega) (fun h=>absurd h bV)) cu
      ·rw[dT (.inl (by simp[l6,aq];omega))];(with_reducible repeat' first|refine aj ?_|refine aC (eR _ _ _) ?_|refine aD (eR _ _ _) ?_|simp[hi,iv,av,a1,bt,q1,hw,b2,sN,c2]);simp[bz,zP,aV,aY,aT]
  ·have aq:low c=false:=by simp[low];omega
   by_cases bV:i=0
   ·rw[dT (.inr ⟨bV,aq⟩)];have q1:((i:Int)==0)=true:=by simp[bV]
    (with_reducible repeat' first|refine aj ?_|refine aC (eR _ _ _) ?_|refine aD (eR _ _ _) ?_|simp[hi,iv,av,a1,q1,hw]);simp[bz,zP,aV,aY,aT]
   ·have q1:((i:Int)==0)=false:=by simp[bV]
    by_cases b2:(c.toNat:Int)=45
    ·have sN:((c.toNat:Int) !=45)=false:=by simp[b2]
     (with_reducible repeat' first|refine aj ?_|refine aC (eR _ _ _) ?_|refine aD (eR _ _ _) ?_|simp[hi,iv,av,a1,q1,hw,b2,sN]);all_goals exact bT.whl (i+1) (by omega) (dh (by simp[l6];omega) (fun h=>absurd h bV)) cu
    ·have sN:((c.toNat:Int) !=45)=true:=by simp[b2]
     by_cases c2:(48:Int)≤c.toNat∧(c.toNat:Int)≤57
     ·(with_reducible repeat' first|refine aj ?_|refine aC (eR _ _ _) ?_|refine aD (eR _ _ _) ?_|simp[hi,iv,av,a1,q1,hw,b2,sN,c2]);all_goals exact bT.whl (i+1) (by omega) (dh (by simp[l6];omega) (fun h=>absurd h bV)) cu
     ·rw[dT (.inl (by simp[l6,aq];omega))];(with_reducible repeat' first|refine aj ?_|refine aC (eR _ _ _) ?_|refine aD (eR _ _ _) ?_|simp[hi,iv,av,a1,q1,hw,b2,sN,c2]);simp[bz,zP,aV,aY,aT]
 ·have:i=s.length:=by omega
  subst this;rw[aeo ag]at b4;simp[hi];(with_reducible repeat' first|refine aj ?_|refine aC (eR _ _ _) ?_|refine aD (eR _ _ _) ?_|simp[hi]);simp[bz,zP,aV,aY,aT];rw[←b4,pV];simp;omega
def uA:List bQ→Bool
 |[a,b]=>shp a&&shp b
 |_=>false
theorem aiS(k n:Int)(s:List cV)(args:List bQ):shp ⟨k,n,s,args⟩=if k≠1∧k≠3∧n≠0 then false else if k≠2∧s≠[]then false else if k≠4∧args≠[]then false else if k=0 then true else if k=1 then decide (0≤n∧n≤100000)else if k=2 then iB s else if k=3 then decide (-1000000000≤n∧n≤1000000000)else if k=4 then uA args else false:=by
 by_cases gF:k=0
 ·subst gF;match args with
  |[]=>by_cases ar:n=0<;>by_cases af:s=[]<;>simp[shp,kY,ar,af]
  |[a]=>simp[shp]
  |[a,b]=>simp[shp]
  |_::_::_::_=>simp[shp]
 by_cases aR:k=1
 ·subst aR;match args with
  |[]=>by_cases af:s=[]<;>simp[shp,kY,af]
  |[a]=>simp[shp]
  |[a,b]=>simp[shp]
  |_::_::_::_=>simp[shp]
 by_cases be:k=2
 ·subst be;match args with
  |[]=>by_cases ar:n=0<;>simp[shp,kY,ar]
  |[a]=>simp[shp]
  |[a,b]=>simp[shp]
  |_::_::_::_=>simp[shp]
 by_cases bN:k=3
 ·subst bN;match args with
  |[]=>by_cases af:s=[]<;>simp[shp,kY,af]
  |[a]=>simp[shp]
  |[a,b]=>simp[shp]
  |_::_::_::_=>simp[shp]
 by_cases dB:k=4
 ·subst dB;match args with
  |[]=>simp[shp,kY,uA]
  |[a]=>simp[shp,uA]
  |[a,b]=>by_cases ar:n=0<;>by_cases af:s=[]<;>simp[shp,uA,ar,af]
  |_::_::_::_=>simp[shp,uA]
 ·match args with
  |[]=>simp[shp,kY,gF,aR,be,bN,dB]
  |[a]=>simp[shp,gF,aR,be,bN,dB]
  |[a,b]=>simp[shp,gF,aR,be,bN,dB]
  |_::_::_::_=>simp[shp,gF,aR,be,bN,dB]
set_option maxRecDepth 8000 in
theorem ajZ(m:Nat):∀(t:bQ),t.sz≤m→b7 az 163 [enc t] (.bool (shp t)):=by
 induction m with
 |zero=>intro t aN;cases t;simp[bQ.sz]at aN
 |succ m bW=>
 rintro⟨k,n,s,args⟩ aN;generalize b4:shp ⟨k,n,s,args⟩=R;have dA:=aiS k n s args;rw[b4]at dA;by_cases b8:k≠1∧k≠3∧n≠0
 ·rw[if_pos b8]at dA;obtain⟨aR,bN,n0⟩:=b8;have za:(k !=1)=true:=by simp[aR]
  have zb:(k !=3)=true:=by simp[bN]
  have Kw:(n !=0)=true:=by simp[n0]
  subst dA;refine bE eA l1 mg fun aU=>?_;unfold lC;simp[bQ.kind,bQ.num,bQ.name,bQ.args];(with_reducible repeat' first|refine aj ?_|refine aC (eR _ _ _) ?_|refine aD (eR _ _ _) ?_|refine aC (hr _) ?_|refine aD (hr _) ?_|simp[za,zb,Kw]);all_goals simp[bz,lx,aV,aY,aT]
 rw[if_neg b8]at dA;have AG:(if k !=1 then k !=3 else false)=true→(n !=0)=false:=by intro h;simp at h⊢;exact Classical.byContradiction fun ar=>b8 ⟨h.1,h.2,ar⟩
 by_cases b3:k≠2∧s≠[]
 ·rw[if_pos b3]at dA;have E7:(k !=2)=true:=by simp[b3.1]
  have LL:s.isEmpty=false:=by simp[b3.2]
  by_cases aR:k=1
  ·subst aR;subst dA;refine bE eA l1 mg fun aU=>?_;unfold lC;simp[bQ.kind,bQ.num,bQ.name,bQ.args];(with_reducible repeat' first|refine aj ?_|refine aC (eR _ _ _) ?_|refine aD (eR _ _ _) ?_|refine aC (hr _) ?_|refine aD (hr _) ?_|simp[LL]);all_goals simp[bz,lx,aV,aY,aT]
  by_cases bN:k=3
  ·subst bN;subst dA;refine bE eA l1 mg fun aU=>?_;unfold lC;simp[bQ.kind,bQ.num,bQ.name,bQ.args];(with_reducible repeat' first|refine aj ?_|refine aC (eR _ _ _) ?_|refine aD (eR _ _ _) ?_|refine aC (hr _) ?_|refine aD (hr _) ?_|simp[LL]);all_goals simp[bz,lx,aV,aY,aT]
  have za:(k !=1)=true:=by simp[aR]
  have zb:(k !=3)=true:=by simp[bN]
  have Kw:(n !=0)=false:=AG (by simp[aR,bN]);subst dA;refine bE eA l1 mg fun aU=>?_;unfold lC;simp[bQ.kind,bQ.num,bQ.name,bQ.args];(with_reducible repeat' first|refine aj ?_|refine aC (eR _ _ _) ?_|refine aD (eR _ _ _) ?_|refine aC (hr _) ?_|refine aD (hr _) ?_|simp[za,zb,Kw,E7,LL]);all_goals simp[bz,lx,aV,aY,aT]
 rw[if_neg b3]at dA;by_cases gF:k=0
 ·subst gF;have n0:n=0:=by simpa using AG (by decide)
  have s0:s=[]:=Classical.byContradiction fun h=>b3 ⟨by omega,h⟩;subst n0 s0;by_cases a0:args=[];rotate_left
  ·rw[if_pos ⟨by omega,a0⟩]at dA;have th:(0:Int)<args.length:=by have:=List.length_pos_iff.2 a0;omega
   subst dA;refine bE eA l1 mg fun aU=>?_;unfold lC;simp[bQ.kind,bQ.num,bQ.name,bQ.args];((with_reducible repeat' first|refine aj ?_|refine aC (eR _ _ _) ?_|refine aD (eR _ _ _) ?_|refine aC (hr _) ?_|refine aD (hr _) ?_|simp[qH,th]|((first|apply bI|apply bK|apply bJ)<;>intro h<;>try simp at h))<;>(try exact cm));all_goals simp[bz,lx,aV,aY,aT]
  rw[if_neg (by simp[a0])]at dA;subst a0;simp at dA;subst dA;refine bE eA l1 mg fun aU=>?_;unfold lC;simp[bQ.kind,bQ.num,bQ.name,bQ.args];(with_reducible repeat' first|refine aj ?_|refine aC (eR _ _ _) ?_|refine aD (eR _ _ _) ?_|refine aC (hr _) ?_|refine aD (hr _) ?_|simp[qH]);all_goals simp[bz,lx,aV,aY,aT]
 by_cases aR:k=1
 ·subst aR;have s0:s=[]:=Classical.byContradiction fun h=>b3 ⟨by omega,h⟩;subst s0;by_cases a0:args=[];rotate_left
  ·rw[if_pos ⟨by omega,a0⟩]at dA;have th:(0:Int)<args.length:=by have:=List.length_pos_iff.2 a0;omega
   subst dA;refine bE eA l1 mg fun aU=>?_;unfold lC;simp[bQ.kind,bQ.num,bQ.name,bQ.args];((with_reducible repeat' first|refine aj ?_|refine aC (eR _ _ _) ?_|refine aD (eR _ _ _) ?_|refine aC (hr _) ?_|refine aD (hr _) ?_|simp[qH,th]|((first|apply bI|apply bK|apply bJ)<;>intro h<;>try simp at h))<;>(try exact cm));all_goals simp[bz,lx,aV,aY,aT]
  rw[if_neg (by simp[a0])]at dA;subst a0;simp at dA;subst dA;refine bE eA l1 mg fun aU=>?_;unfold lC;simp[bQ.kind,bQ.num,bQ.name,bQ.args];(with_reducible repeat' first|refine aj ?_|refine aC (eR _ _ _) ?_|refine aD (eR _ _ _) ?_|refine aC (hr _) ?_|refine aD (hr _) ?_|simp[qH]);all_goals simp[bz,lx,aV,aY,aT]
 by_cases be:k=2
 ·subst be;have n0:n=0:=by simpa using AG (by decide)
  subst n0;by_cases a0:args=[];rotate_left
  ·rw[if_pos ⟨by omega,a0⟩]at dA;have th:(0:Int)<args.length:=by have:=List.length_pos_iff.2 a0;omega
   subst dA;refine bE eA l1 mg fun aU=>?_;unfold lC;simp[bQ.kind,bQ.num,bQ.name,bQ.args];((with_reducible repeat' first|refine aj ?_|refine aC (eR _ _ _) ?_|refine aD (eR _ _ _) ?_|refine aC (hr _) ?_|refine aD (hr _) ?_|simp[qH,th]|((first|apply bI|apply bK|apply bJ)<;>intro h<;>try simp at h))<;>(try exact cm));all_goals simp[bz,lx,aV,aY,aT]
  rw[if_neg (by simp[a0])]at dA;subst a0;simp at dA;subst dA;refine bE eA l1 mg fun aU=>?_;unfold lC;simp[bQ.kind,bQ.num,bQ.name,bQ.args];(with_reducible repeat' first|refine aj ?_|refine aC (eR _ _ _) ?_|refine aD (eR _ _ _) ?_|refine aC (hr _) ?_|refine aD (hr _) ?_|simp[qH]);all_goals simp[bz,lx,aV,aY,aT]
 by_cases bN:k=3
 ·subst bN;have s0:s=[]:=Classical.byContradiction fun h=>b3 ⟨by omega,h⟩;subst s0;by_cases a0:args=[];rotate_left
  ·rw[if_pos ⟨by omega,a0⟩]at dA;have th:(0:Int)<args.length:=by have:=List.length_pos_iff.2 a0;omega
   subst dA;refine bE eA l1 mg fun aU=>?_;unfold lC;simp[bQ.kind,bQ.num,bQ.name,bQ.args];((with_reducible repeat' first|refine aj ?_|refine aC (eR _ _ _) ?_|refine aD (eR _ _ _) ?_|refine aC (hr _) ?_|refine aD (hr _) ?_|simp[qH,th]|((first|apply bI|apply bK|apply bJ)<;>intro h<;>try simp at h))<;>(try exact cm));all_goals simp[bz,lx,aV,aY,aT]
  rw[if_neg (by simp[a0])]at dA;subst a0;simp at dA;subst dA;refine bE eA l1 mg fun aU=>?_;unfold lC;simp[bQ.kind,bQ.num,bQ.name,bQ.args];(with_reducible repeat' first|refine aj ?_|refine aC (eR _ _ _) ?_|refine aD (eR _ _ _) ?_|refine aC (hr _) ?_|refine aD (hr _) ?_|simp[qH]);all_goals simp[bz,lx,aV,aY,aT]
 by_cases dB:k=4
 ·subst dB;have n0:n=0:=by simpa using AG (by decide)
  have s0:s=[]:=Classical.byContradiction fun h=>b3 ⟨by omega,h⟩;subst n0 s0;simp at dA;match args,dA with
  |[a,b],dA=>
   simp[bQ.sz,bQ.szL]at aN;have br:=bW a (by omega);have ae:=bW b (by omega);simp only[uA]at dA;subst dA;refine bE eA l1 mg fun aU=>?_;unfold lC;simp[bQ.kind,bQ.num,bQ.name,bQ.args];cases q:shp a with
   |true=>rw[q]at br;(with_reducible repeat' first|refine aj ?_|refine aC br ?_|refine aD br ?_|refine aC ae ?_|refine aD ae ?_|simp[qH]);all_goals simp[bz,lx,aV,aY,aT]
   |false=>rw[q]at br;(with_reducible repeat' first|refine aj ?_|refine aC br ?_|refine aD br ?_|refine aC ae ?_|refine aD ae ?_|simp[qH]);all_goals simp[bz,lx,aV,aY,aT]
  |[],dA=>simp only[uA]at dA;subst dA;refine bE eA l1 mg fun aU=>?_;unfold lC;simp[bQ.kind,bQ.num,bQ.name,bQ.args];(with_reducible repeat' first|refine aj ?_|refine aC (eR _ _ _) ?_|refine aD (eR _ _ _) ?_|refine aC (hr _) ?_|refine aD (hr _) ?_|simp[qH]);all_goals simp[bz,lx,aV,aY,aT]
  |[_],dA=>simp only[uA]at dA;subst dA;refine bE eA l1 mg fun aU=>?_;unfold lC;simp[bQ.kind,bQ.num,bQ.name,bQ.args];(with_reducible repeat' first|refine aj ?_|refine aC (eR _ _ _) ?_|refine aD (eR _ _ _) ?_|refine aC (hr _) ?_|refine aD (hr _) ?_|simp[qH]);all_goals simp[bz,lx,aV,aY,aT]
  |_::_::_::l,dA=>
   simp only[uA]at dA;have aq:((l.length:Int)+1+1+1==2)=false:=by simp;omega
   subst dA;refine bE eA l1 mg fun aU=>?_;unfold lC;simp[bQ.kind,bQ.num,bQ.name,bQ.args];(with_reducible repeat' first|refine aj ?_|refine aC (eR _ _ _) ?_|refine aD (eR _ _ _) ?_|refine aC (hr _) ?_|refine aD (hr _) ?_|simp[aq]);all_goals simp[bz,lx,aV,aY,aT]
 have n0:(n !=0)=false:=AG (by simp[aR,bN]);have s0:s=[]:=Classical.byContradiction fun h=>b3 ⟨be,h⟩;subst s0;have Sy:(k==0)=false:=by simp[gF]
 have za:(k==1)=false:=by simp[aR]
 have E7:(k==2)=false:=by simp[be]
 have zb:(k==3)=false:=by simp[bN]
 have SC:(k==4)=false:=by simp[dB]
 have Sz:(k !=1)=true:=by simp[aR]
 have SA:(k !=2)=true:=by simp[be]
 have SB:(k !=3)=true:=by simp[bN]
 have SD:(k !=4)=true:=by simp[dB]
 by_cases a0:args=[]
 ·subst a0;simp[gF,aR,be,bN,dB]at dA;subst dA;refine bE eA l1 mg fun aU=>?_;unfold lC;simp[bQ.kind,bQ.num,bQ.name,bQ.args];(with_reducible repeat' first|refine aj ?_|refine aC (eR _ _ _) ?_|refine aD (eR _ _ _) ?_|refine aC (hr _) ?_|refine aD (hr _) ?_|simp[Sy,za,E7,zb,SC,Sz,SA,SB,SD,n0]);all_goals simp[bz,lx,aV,aY,aT]
 ·rw[if_pos ⟨dB,a0⟩]at dA;have th:(0:Int)<args.length:=by have:=List.length_pos_iff.2 a0;omega
  subst dA;refine bE eA l1 mg fun aU=>?_;unfold lC;simp[bQ.kind,bQ.num,bQ.name,bQ.args];((with_reducible repeat' first|refine aj ?_|refine aC (eR _ _ _) ?_|refine aD (eR _ _ _) ?_|refine aC (hr _) ?_|refine aD (hr _) ?_|simp[th,Sy,za,E7,zb,SC,Sz,SA,SB,SD,n0]|((first|apply bI|apply bK|apply bJ)<;>intro h<;>try simp at h))<;>(try exact cm));all_goals simp[bz,lx,aV,aY,aT]
theorem WI(t:bQ):b7 az 76 [enc t] (.bool t.fits):=by
 rw[aa3];have av:=Wt t 5000 (by omega) (by omega);have af:=ajZ t.sz t (e1 _);refine bE eA aas agQ fun aU=>?_;unfold OL;simp;by_cases q:k7 t 5000≤5000
 ·exact cZ
 ·exact cZ
def yf:C:=(aa [cW 2 0,bH 4 false] (.seq (aa [aP 7 3 1 2,aB 8 1 7,cS 9 8,cr 10 0] (fY 11 10 9 (.seq (.block 1 (aa [cN 12 4 8 10,ba 13 4 12,cU 6 dz,bG 4 6 13] (aa [ba 14 4 6,I 15 1,cw 16 77 14 15] (a8 16 (aa [bH 4 true] .ret) .skip)))) (.region [aW 17 .add 10 1,I 10 17])))) (aa [aP 18 0 1 2,aB 19 1 18,aW 20 .eql 19 2,I 21 20,aw 21 true (aP 22 2 1 2),aw 21 true (aB 23 1 22),bU 21 true 24 1,aw 21 true (bA 25 .eql 23 24),dr 26 21 25,I 4 26] .ret)))
@[simp] def vJ:List bu:=[.tmp 4]
@[simp] def aoG:List bu:=[.tmp 2]
@[simp] def aoH:List bu:=[.tmp 2]
def yg:C:=(aa [cW 4 1,eC 6 2,bH 7 false] (.seq (aa [aP 10 0 1 4,aB 11 1 10,aW 12 .neq 11 1] (a8 12 (.seq (.drawn true 73 [I 13 0,aP 14 0 1 4,aB 15 1 14,I 16 2,bA 17 .eql 15 16,I 6 13,I 7 17]) .ret) .skip)) (aa [cr 8 0] (.seq (.block 0 (.loop (.seq (.seq (.drawn true 73 [I 18 8,I 19 0,cS 20 19,bA 21 .lss 18 20,I 22 21,bU 22 true 23 0,bU 22 true 24 8,aw 22 true (cN 25 2 23 24),aw 22 true (aP 26 0 1 25),aw 22 true (aB 27 1 26),aw 22 true (aP 28 1 1 4),aw 22 true (aB 29 1 28),aw 22 true (bA 30 .lss 27 29),dr 31 22 30]) (a8 31 .skip (.exit 0))) (.block 1 (.region [I 32 8,aW 33 .add 32 1,I 8 33]))))) (.seq (.seq (.drawn true 73 [I 34 8,I 35 0,cS 36 35,bA 37 .lss 34 36,I 38 37,bU 38 true 39 0,bU 38 true 40 8,aw 38 true (cN 41 2 39 40),aw 38 true (aP 42 0 1 41),aw 38 true (aB 43 1 42),aw 38 true (aP 44 1 1 4),aw 38 true (aB 45 1 44),aw 38 true (bA 46 .eql 43 45),dr 47 38 46]) (a8 47 (.seq (.drawn true 73 [I 48 0,I 49 0,I 50 8,cN 51 2 49 50,aP 52 1 1 51,aB 53 1 52,I 54 2,bA 55 .eql 53 54,I 6 48,I 7 55]) .ret) .skip)) (aa [dR 56 2 104 [],I 57 0,I 58 8,bX 59 (.lsl 2 (.t 57) none (some (.t 58))),gC 60 2 104 56 59,I 9 60] (aa [I 61 9,aP 62 1 1 4,aB 63 1 62,I 64 2,bX 65 (.build [.int .i64 0,.int .i64 0] [(0,1,(.t 63)),(1,1,(.t 64))]),dR 66 2 104 [.t 65],gC 67 2 104 61 66,I 9 67] (aa [I 68 9,I 69 0,I 70 8,bX 71 (.lsl 2 (.t 69) (some (.t 70)) none),gC 72 2 104 68 71,I 6 72,bH 7 true] .ret))))))))
@[simp] def vK:List bu:=[.tmp 6,.tmp 7]
def HN:C:=(aa [cW 4 1,eC 6 2,bH 7 false] (.seq (aa [ba 13 4 4,I 14 2,cw 15 77 13 14] (a8 15 (aa [eC 6 2,bH 7 false] .ret) .skip)) (.seq (aa [ba 16 4 4,cX 17 165 [.t 16,(.c (.slice 1 .nil []))],cS 18 17,cr 19 0] (fY 20 19 18 (.seq (.block 1 (aa [cN 21 1 17 19,aB 22 1 21,I 9 22] (aa [I 23 9,I 24 2,bX 25 (.build [.int .i64 0,.str []] [(0,1,(.t 23)),(1,1,(.t 24))]),c4 (.alloc 10 none (.agg [.int .i64 0,.str []])),bG 2 10 25] (aa [cr 11 0] (.seq (.block 2 (.loop (.seq (.seq (.drawn true 68 [I 26 11,I 27 0,cS 28 27,bA 29 .lss 26 28,I 30 29,bU 30 true 31 0,bU 30 true 32 11,aw 30 true (cN 33 2 31 32),aw 30 true (ba 34 2 33),aw 30 true (ba 35 2 10),aw 30 true (cw 36 215 34 35),dr 37 30 36]) (a8 37 .skip (.exit 2))) (.block 3 (.region [I 38 11,aW 39 .add 38 1,I 11 39]))))) (.seq (.drawn true 68 [I 40 11,I 41 0,cS 42 41,bA 43 .eql 40 42,I 44 43,aw 44 false (ba 45 2 10),bU 44 false 46 0,bU 44 false 47 11,aw 44 false (cN 48 2 46 47),aw 44 false (ba 49 2 48),aw 44 false (cw 50 215 45 49),dj 51 44 50]) (a8 51 (aa [dR 52 2 106 [],I 53 0,I 54 11,bX 55 (.lsl 2 (.t 53) none (some (.t 54))),gC 56 2 106 52 55,I 12 56] (aa [I 57 12,ba 58 2 10,dR 59 2 106 [.t 58],gC 60 2 106 57 59,I 12 60] (.region [I 61 12,I 62 0,I 63 11,bX 64 (.lsl 2 (.t 62) (some (.t 63)) none),gC 65 2 106 61 64,I 0 65]))) .skip))))))) (.fg false 0 (.region [aW 66 .add 19 1,I 19 66]))))) (aa [I 67 0,I 6 67,bH 7 true] .ret))))
@[simp] def Ls:List bu:=[.tmp 6,.tmp 7]
def DP:C:=(aa [cW 2 0,cW 3 1,bH 4 false] (aa [aP 5 0 1 2,aB 6 1 5,aP 7 0 1 3,aB 8 1 7,bA 9 .lss 6 8,I 10 9,aw 10 false (aP 11 0 1 2),aw 10 false (aB 12 1 11),aw 10 false (aP 13 0 1 3),aw 10 false (aB 14 1 13),aw 10 false (bA 15 .eql 12 14),bU 10 false 16 15,aw 16 true (aP 17 1 1 2),aw 16 true (aB 18 1 17),aw 16 true (aP 19 1 1 3),aw 16 true (aB 20 1 19),aw 16 true (bA 21 .lss 18 20),aw 10 false (dr 22 16 21),dj 23 10 22,I 4 23] .ret))
@[simp] def ail:List bu:=[.tmp 4]
def Pc:C:=(aa [eC 4 2,bH 5 false] (aa [dR 10 2 104 [],I 6 10] (aa [bH 7 true] (.seq (.seq (.fg false 6 (.region [I 11 1,cS 12 11,cr 13 0])) (fY 14 13 12 (.seq (.block 1 (aa [cN 15 2 11 13,ba 16 2 15,c4 (.alloc 9 none (.agg [.int .i64 0,.int .i64 0])),bG 2 9 16] (.seq (.drawn true 33 [I 18 6,I 19 0,aP 20 0 1 9,aB 21 1 20,cL 22 91 21,cw 23 236 19 22,aP 24 1 1 9,aB 25 1 24,cX 26 178 [.t 18,.t 23,.t 25],I 17 26,cq 27 0 17,cq 28 1 17,I 6 27,I 7 28]) (aa [I 29 7,cI 30 29] (a8 30 (aa [eC 4 2,bH 5 false] .ret) .skip))))) (.region [aW 31 .add 13 1,I 13 31])))) (aa [I 32 6,I 4 32,bH 5 true] .ret)))))
@[simp] def Lr:List bu:=[.tmp 4,.tmp 5]
def Pd:C:=(aa [eC 4 2,bH 5 false] (aa [dR 10 2 106 [],I 6 10] (aa [bH 7 true] (.seq (.seq (.fg false 6 (.region [I 11 1,cS 12 11,cr 13 0])) (fY 14 13 12 (.seq (.block 1 (aa [cN 15 2 11 13,ba 16 2 15,c4 (.alloc 9 none (.agg [.int .i64 0,.str []])),bG 2 9 16] (.seq (.drawn true 33 [I 18 6,I 19 0,aP 20 0 1 9,aB 21 1 20,cL 22 91 21,cw 23 236 19 22,aP 24 1 1 9,aB 25 1 24,cX 26 179 [.t 18,.t 23,.t 25],I 17 26,cq 27 0 17,cq 28 1 17,I 6 27,I 7 28]) (aa [I 29 7,cI 30 29] (a8 30 (aa [eC 4 2,bH 5 false] .ret) .skip))))) (.region [aW 31 .add 13 1,I 13 31])))) (aa [I 32 6,I 4 32,bH 5 true] .ret)))))
@[simp] def Lt:List bu:=[.tmp 4,.tmp 5]
def xO:List (Nat×du):=[
 (3,⟨1,8,.int .i64,.int .i64 0⟩),
 (9,⟨1,16,.str,.str []⟩),
 (25,⟨1,24,.slice 104,.slice 2 .nil []⟩),
 (26,⟨1,24,.slice 106,.slice 2 .nil []⟩),
 (30,⟨1,24,.slice 32,.slice 4 .nil []⟩),
 (32,⟨4,56,.struct [(0,3),(1,3),(2,9),(3,30)],.agg [.int .i64 0,.int .i64 0,.str [],.slice 4 .nil []]⟩),
 (104,⟨2,16,.struct [(0,3),(1,3)],.agg [.int .i64 0,.int .i64 0]⟩),
 (106,⟨2,24,.struct [(0,3),(1,9)],.agg [.int .i64 0,.str []]⟩),
 (112,⟨1,24,.slice 3,.slice 1 .nil []⟩)]
theorem mU:fA az xO=true:=by kernel_rfl
theorem Ck:cc xO yf vJ 2 Tryz.f77=true:=by kernel_rfl
theorem AX:az.funcs[(77:Nat)]? =some Tryz.f77:=Tryz.func77
theorem Cl:cc xO yg vK 3 Tryz.f178=true:=by kernel_rfl
theorem AY:az.funcs[(178:Nat)]? =some Tryz.f178:=Tryz.func178
theorem T8:cc xO HN Ls 3 Tryz.f179=true:=by kernel_rfl
theorem Qe:az.funcs[(179:Nat)]? =some Tryz.f179:=Tryz.func179
theorem KS:cc xO DP ail 2 Tryz.f215=true:=by kernel_rfl
theorem Ir:az.funcs[(215:Nat)]? =some Tryz.f215:=Tryz.func215
theorem ahh:cc xO Pc Lr 2 Tryz.f217=true:=by kernel_rfl
theorem aaT:az.funcs[(217:Nat)]? =some Tryz.f217:=Tryz.func217
theorem ahi:cc xO Pd Lt 2 Tryz.f218=true:=by kernel_rfl
theorem aaU:az.funcs[(218:Nat)]? =some Tryz.f218:=Tryz.func218
theorem Aj(a b:bk):b7 az 215 [a.e,b.e] (.bool (iD fj a b)):=by
 rw[←TI];have b4:sI a b=(decide (a.v<b.v)||(a.v==b.v&&gZ a.s b.s)):=rfl;rcases Int.lt_trichotomy a.v b.v with h|h|h
 ·have:sI a b=true:=by rw[b4];simp[h]
  rw[this];refine bE mU Ir KS fun aU=>?_;unfold DP;exact cZ
 ·have J:¬a.v<b.v:=by omega
  have U:(a.v==b.v)=true:=by simp[h]
  have:sI a b=gZ a.s b.s:=by rw[b4];simp[h]
  rw[this];refine bE mU Ir KS fun aU=>?_;unfold DP;exact cZ
 ·have J:¬a.v<b.v:=by omega
  have U:¬a.v=b.v:=by omega
  have ao:(a.v==b.v)=false:=by simp[U]
  have:sI a b=false:=by rw[b4];simp[J,U]
  rw[this];refine bE mU Ir KS fun aU=>?_;unfold DP;exact cZ
def Sv(l:List dU)(i:Nat)(_:Unit):Prop:= ∀j,j<i→zA l j
open Classical in
theorem aj3(l:List dU):b7 az 164 [.slice 5 .no (l.map dU.e)] (.bool (decide (x4 l))):=by
 generalize b4:decide (x4 l)=R;refine bE eA aaM aha fun aU=>?_;unfold O5;have ib:l.length≤68719476736:=by simp[h9,ho,hV,lim]at aU;omega
 simp;refine gh [0,5,6] (fun i (_:Unit)=>[(7,.int .i64 i)]) l.length (Sv l) () cu (fun k ab=>by omega) (fun _ ag _=>?_) (fun i _ hi ag _=>?_)
 ·have:R=decide (l.length≤400):=by rw[←b4,decide_eq_decide];exact⟨fun h=>h.1,fun h=>⟨h,fun j jG=>ag j jG⟩⟩
  rw[this];simp;(with_reducible repeat' first|refine aj ?_|simp);simp[bz,Lp,aV,aY,aT];all_goals(first|done|omega|(simp;done)|(simp;omega))
 ·obtain⟨b,ae⟩:∃b,l[i]? =some b:=⟨_,cv hi⟩;obtain⟨c,av⟩:∃c,l[i-1]? =some c:=⟨_,cv (by omega)⟩;have dk:∀h,(l[i]'h)=b:=fun h=>by rw[cv hi]at ae;exact fP ae
  have dT:¬zA l i→R=false:=fun h=>by rw[←b4,j4];exact fun cA=>h (cA.2 i hi)
  have dh:zA l i→Sv l (i+1) ():=fun h j jG=>by
   by_cases e:j=i
   ·rw[e];exact h
   ·exact ag j (by omega)
  simp[hi,dk,av];((with_reducible repeat' first|refine aj ?_|refine aC (eR _ _ _) ?_|refine aD (eR _ _ _) ?_|refine aC (WI _) ?_|refine aD (WI _) ?_|simp[dk,av,hi]|((first|apply bI|apply bK|apply bJ)<;>intro h<;>try simp at h))<;>(try exact cm));all_goals first
   |(have ar:¬zA l i:=by(intro cA;have J:=cA b ae;have U:=J.2.1 c;have ao:=J.2.2;first|omega|(have aZ:=U (by omega) av;omega)|(rw[ao]at h;cases h)|(simp_all;done)|(simp_all;omega))
     rw[dT ar]
     simp[bz,Lp,aV,aY,aT]
     done)
   |(refine bT.rng () hi (dh fun b0 gz=>?_) ?_
     ·rw[ae]at gz;cases gz
      refine⟨?_,fun cd bV hW=>?_,?_⟩
      ·omega
      ·rw[av]at hW;cases hW;omega
      ·first|assumption|simp_all
     ·exact cu)
def l8(n:Int):List Int→List Int
 |[]=>[n]
 |c::l=>if c<n then c::l8 n l else if c=n then c::l else n::c::l
def s7(l:List Int):Prop:=l.Pairwise (· < ·)
theorem Sn(n:Int):∀(l:List Int) (k:Nat),(∀i c,i<k→l[i]? =some c→c<n)→(∀c,l[k]? =some c→n≤c)→k≤l.length→l8 n l=if l[k]? =some n then l else l.take k++n::l.drop k
 |[],k,_,_,ab=>by simp at ab;subst ab;rfl
 |c::l,0,_,U,_=>by
  have:=U c rfl;by_cases e:c=n
  ·simp[l8,e]
  ·have ao:¬c<n:=by omega
   simp[l8,ao,e]
 |c::l,k+1,J,U,ab=>by have bV:=J 0 c (by omega) rfl;simp only[l8,if_pos bV,List.take_succ_cons,List.drop_succ_cons,bO,List.getElem?_cons_succ];rw[Sn n l k (fun i d hi aK=>J (i+1) d (by omega) (by simpa using aK)) (fun d aK=>U d (by simpa using aK)) (by simpa using ab)];split<;>rfl
theorem Ko{n m:Int}:∀{l:List Int},m∈l8 n l↔m=n∨m∈l
 |[]=>by simp[l8]
 |c::l=>by
  simp only[l8];split
  ·simp only[ga,Ko (l:=l)];constructor
   ·rintro(h|h|h)
    ·exact .inr (.inl h)
    ·exact .inl h
    ·exact .inr (.inr h)
   ·rintro(h|h|h)
    ·exact .inr (.inl h)
    ·exact .inl h
    ·exact .inr (.inr h)
  ·split
   ·rename_i h;subst h;simp
   ·simp
theorem Sm{n:Int}:∀{l:List Int},s7 l→s7 (l8 n l)
 |[],_=>by simp[l8,s7]
 |c::l,h=>by
  obtain⟨J,U⟩:=ml.1 h;simp only[l8];split
  ·rename_i ao;refine ml.2 ⟨fun m hm=>?_,Sm U⟩;rcases Ko.1 hm with rfl|hm
   ·exact ao
   ·exact J m hm
  ·split
   ·exact h
   ·refine ml.2 ⟨fun m hm=>?_,h⟩;rcases ga.1 hm with rfl|hm
    ·omega
    ·have:=J m hm;omega
theorem Sp(n:Int):∀l:List Int,(l8 n l).length≤l.length+1
 |[]=>by simp[l8]
 |c::l=>by
  have:=Sp n l;simp only[l8];split
  ·simp;omega
  ·split<;>simp
theorem BN(l:List Int)(i:Nat):(eg l)[i]? =(l[i]?).map (ai.int .i64):=by simp[eg]
theorem eT(l:List Int):(eg l).length=l.length:=by simp[eg]
theorem xL:∀l:List Int,df (eg l)=eg l
 |[]=>by simp[eg,df]
 |a::l=>by have:=xL l;simp only[eg,gI,df,dO]at this⊢;rw[this]
theorem E2(l:List Int)(n:Int)(k:Nat):df (ox k (eg l)++ai.int .i64 n::List.drop k (ox l.length (eg l)))=eg (ox k l++n::List.drop k l):=by
 have e:ox l.length (eg l)=eg l:=ha (by simp[eg]);have aA:ox k (eg l)++ai.int .i64 n::List.drop k (eg l)=eg (ox k l++n::List.drop k l):=by simp only[eg,List.map_append,gI,List.map_take,List.map_drop]
 rw[e,aA];exact xL _
theorem ajY(l:List Int)(n:Int)(aq:l.length≤1000000)(br:s7 l):b7 az 230 [.slice 1 .no (eg l),.int .i64 n] (.slice 1 .no (eg (l8 n l))):=by
 refine bE eA aaB agZ fun aU=>?_;unfold OU;simp;refine uU [0,1] (fun(k:Nat)=>[(5,.int .i64 k)]) (fun k=>k) (fun k=>k≤l.length∧∀c,l[k]? =some c→n≤c) l.length cu ⟨by omega,fun c h=>by simp at h⟩ (fun k ag _=>?_);obtain⟨ab,ag⟩:=ag;have sj:(∀c,0<k→l[k-1]? =some c→c<n)→l8 n l=if l[k]? =some n then l else l.take k++n::l.drop k:=fun h=>Sn n l k (fun i c hi av=>by
  obtain⟨d,aK⟩:∃d,l[k-1]? =some d:=⟨_,cv (by omega)⟩;have J:=h d (by omega) aK;rcases Nat.lt_or_ge i (k-1)with U|U
  ·have sl:=(fG.1 av);have kU:=(fG.1 aK);have:=pb.1 br i (k-1) sl.1 kU.1 U;rw[sl.2,kU.2]at this;omega
  ·have:i=k-1:=by omega
   subst this;rw[aK]at av;cases av;exact J) ag ab
 have kA:∀c,l[k]? =some c→∀h,((eg l)[k]'h)= .int .i64 c:=fun c h cA=>by have:=BN l k;rw[h,cv cA]at this;exact fP this
 have dK:(0<k→∃d,l[k-1]? =some d∧d<n)→∀P:Prop,(l8 n l=(if l[k]? =some n then l else l.take k++n::l.drop k)→P)→P:=fun h P ack=>ack (sj fun c bV av=>by obtain⟨d,aK,J⟩:=h bV;rw[aK]at av;cases av;exact J)
 rcases Nat.eq_zero_or_pos k with bV|fq
 ·have bf:decide ((0:Int)<k)=false:=by simp;omega
  refine dK (fun h=>by omega) _ fun e=>?_;by_cases iy:k<l.length
  ·obtain⟨c,av⟩:∃c,l[k]? =some c:=⟨_,cv iy⟩;have hW:=kA c av;rw[av]at e;by_cases q:c=n
   ·have gm:(c==n)=true:=by simp[q]
    rw[if_pos (by rw[q])]at e;rw[e];simp[bf,iy];((with_reducible repeat' first|refine aj ?_|simp[bf,iy,hW,gm]|((first|apply bI|apply bK|apply bJ)<;>intro h<;>try simp at h))<;>(try exact cm));all_goals simp[bz,xx,aV,aY,aT]
   ·have gm:(c==n)=false:=by simp[q]
    rw[if_neg (by simp[q])]at e;rw[e];simp[bf,iy];((with_reducible repeat' first|refine aj ?_|simp[bf,iy,hW,gm]|((first|apply bI|apply bK|apply bJ)<;>intro h<;>try simp at h))<;>(try exact cm));all_goals simp[bz,xx,aV,aY,aT]
    all_goals exact E2 l n k
  ·rw[pW (by omega)]at e;simp only[reduceCtorEq,if_false]at e;rw[e];simp[bf,iy];((with_reducible repeat' first|refine aj ?_|simp[bf,iy]|((first|apply bI|apply bK|apply bJ)<;>intro h<;>try simp at h))<;>(try exact cm));all_goals simp[bz,xx,aV,aY,aT]
   all_goals exact E2 l n k
 ·obtain⟨d,aK⟩:∃d,l[k-1]? =some d:=⟨_,cv (by omega)⟩;have ak:((k:Int)-1).toNat=k-1:=by omega
  have aA:∀h,((eg l)[k-1]'h)= .int .i64 d:=fun cA=>by have:=BN l (k-1);rw[aK,cv cA]at this;exact fP this
  have iA:(0:Int)<k:=by omega
  have lI:k-1<l.length:=by omega
  by_cases ae:n≤d
  ·simp[fq,iA,ak,aA,ae,lI];(with_reducible repeat' first|refine aj ?_|simp[fq,iA,ak,aA,ae,lI]);refine bT.whl (k-1) (by omega) ⟨by omega,fun c av=>by rw[aK]at av;cases av;exact ae⟩ ?_;have bs:((k-1:Nat):Int)=(k:Int)-1:=by omega
   simp[bs];exact cu
  ·refine dK (fun _=>⟨d,aK,by omega⟩) _ fun e=>?_;by_cases iy:k<l.length
   ·obtain⟨c,av⟩:∃c,l[k]? =some c:=⟨_,cv iy⟩;have hW:=kA c av;rw[av]at e;by_cases q:c=n
    ·have gm:(c==n)=true:=by simp[q]
     rw[if_pos (by rw[q])]at e;rw[e];simp[fq,iA,ak,aA,ae,lI,iy];((with_reducible repeat' first|refine aj ?_|simp[fq,iA,ak,aA,ae,lI,iy,hW,gm]|((first|apply bI|apply bK|apply bJ)<;>intro h<;>try simp at h))<;>(try exact cm));all_goals simp[bz,xx,aV,aY,aT]
    ·have gm:(c==n)=false:=by simp[q]
     rw[if_neg (by simp[q])]at e;rw[e];simp[fq,iA,ak,aA,ae,lI,iy];(with_reducible repeat' first|refine aj ?_|simp[fq,iA,ak,aA,ae,lI,iy,hW,gm]);all_goals simp[bz,xx,aV,aY,aT]
     all_goals exact E2 l n k
   ·rw[pW (by omega)]at e;simp only[reduceCtorEq,if_false]at e;rw[e];simp[fq,iA,ak,aA,ae,lI,iy];(with_reducible repeat' first|refine aj ?_|simp[fq,iA,ak,aA,ae,lI,iy]);all_goals simp[bz,xx,aV,aY,aT]
    all_goals exact E2 l n k
def ie:T→List Int→List Int
 | .var n,l=>l8 n l
 | .pair a b,l=>ie b (ie a l)
 |_,l=>l
theorem Mx:∀(t:T) {l:List Int},s7 l→s7 (ie t l)
 | .var _,_,h=>Sm h
 | .pair a b,_,h=>Mx b (Mx a h)
 | .nil,_,h=>h
 | .sym _,_,h=>h
 | .num _,_,h=>h
theorem Fv{m:Int}:∀(t:T) {l:List Int},m∈ie t l↔t.occ m=true∨m∈l
 | .var n,l=>by simp only[ie,Ko,T.occ,dH];constructor<;>rintro(h|h)<;>first|exact .inr h|exact .inl h.symm
 | .pair a b,l=>by
  simp only[ie,Fv b,Fv a,T.occ,lQ];constructor
  ·rintro(h|h|h)
   ·exact .inl (.inr h)
   ·exact .inl (.inl h)
   ·exact .inr h
  ·rintro((h|h)|h)
   ·exact .inr (.inl h)
   ·exact .inl h
   ·exact .inr (.inr h)
 | .nil,l=>by simp[ie,T.occ]
 | .sym _,l=>by simp[ie,T.occ]
 | .num _,l=>by simp[ie,T.occ]
theorem C5:∀(t:T) (l:List Int),(ie t l).length≤l.length+t.size
 | .var n,l=>by have:=Sp n l;simp only[ie,T.size];omega
 | .pair a b,l=>by have J:=C5 a l;have U:=C5 b (ie a l);simp only[ie,T.size];omega
 | .nil,l=>by simp[ie]
 | .sym _,l=>by simp[ie]
 | .num _,l=>by simp[ie]
theorem GM:∀(t:T) (l:List Int),l.length+t.size≤1000000→s7 l→b7 az 165 [t.e,.slice 1 .no (eg l)] (.slice 1 .no (eg (ie t l)))
 | .var n,l,aq,br=>by
  simp only[T.size]at aq;have key:=ajY l n (by omega) br;refine bE eA AW Cj fun aU=>?_;unfold ye;simp;(with_reducible repeat' first|refine aj ?_|refine aC key ?_|refine aD key ?_|simp);all_goals simp[bz,zR,aV,aY,aT]
  all_goals simp[ie,xL]
 | .pair a b,l,aq,br=>by
  simp only[T.size]at aq;have J6:=C5 a l;have aR:=GM a l (by omega) br;have be:=GM b (ie a l) (by omega) (Mx a br);refine bE eA AW Cj fun aU=>?_;unfold ye;simp;refine gh [15,16] (fun i (_:Unit)=>[(1,.slice 1 .no (eg (if i=0 then l else if i=1 then ie a l else ie b (ie a l)))),(17,.int .i64 i)]) 2 (fun _ _=>True) () cu trivial (fun _ _ _=>?_) (fun i _ hi _ _=>?_)
  ·simp;(with_reducible repeat' first|refine aj ?_|simp);simp[bz,zR,aV,aY,aT];simp[ie,xL]
  ·rcases(by omega:i=0∨i=1)with rfl|rfl
   ·simp;((with_reducible repeat' first|refine aj ?_|refine aC aR ?_|refine aD aR ?_|simp|((first|apply bI|apply bK|apply bJ)<;>intro h<;>try simp at h))<;>(try exact cm));exact bT.rng () hi trivial cu
   ·simp;((with_reducible repeat' first|refine aj ?_|refine aC be ?_|refine aD be ?_|simp|((first|apply bI|apply bK|apply bJ)<;>intro h<;>try simp at h))<;>(try exact cm));exact bT.rng () hi trivial cu
 | .nil,l,aq,br=>by refine bE eA AW Cj fun aU=>?_;unfold ye;simp;refine gh [15,16] (fun i (_:Unit)=>[(1,.slice 1 .no (eg l)),(17,.int .i64 i)]) 0 (fun _ _=>True) () cu trivial (fun _ _ _=>?_) (fun i _ hi _ _=>by omega);simp;((with_reducible repeat' first|refine aj ?_|simp|((first|apply bI|apply bK|apply bJ)<;>intro h<;>try simp at h))<;>(try exact cm));simp[bz,zR,aV,aY,aT];simp[ie,xL]
 | .sym _,l,aq,br=>by refine bE eA AW Cj fun aU=>?_;unfold ye;simp;refine gh [15,16] (fun i (_:Unit)=>[(1,.slice 1 .no (eg l)),(17,.int .i64 i)]) 0 (fun _ _=>True) () cu trivial (fun _ _ _=>?_) (fun i _ hi _ _=>by omega);simp;(with_reducible repeat' first|refine aj ?_|simp);simp[bz,zR,aV,aY,aT];simp[ie,xL]
 | .num _,l,aq,br=>by refine bE eA AW Cj fun aU=>?_;unfold ye;simp;refine gh [15,16] (fun i (_:Unit)=>[(1,.slice 1 .no (eg l)),(17,.int .i64 i)]) 0 (fun _ _=>True) () cu trivial (fun _ _ _=>?_) (fun i _ hi _ _=>by omega);simp;(with_reducible repeat' first|refine aj ?_|simp);simp[bz,zR,aV,aY,aT];simp[ie,xL]
def aes(s:List cV)(a b:T)(i:Nat)(_:Unit):Prop:=(1≤i→a.has s=false)∧(2≤i→b.has s=false)
theorem Mt(s:List cV):∀t:T,b7 az 77 [t.e,.str s] (.bool (t.has s))
 | .pair a b=>by
  have ee:=Mt s a;have ef:=Mt s b;refine bE mU AX Ck fun aU=>?_;unfold yf;simp;refine gh [1,2,8,9] (fun i (_:Unit)=>[(10,.int .i64 i)]) 2 (aes s a b) () cu ⟨fun h=>by omega,fun h=>by omega⟩ (fun _ ag _=>?_) (fun i _ hi ag _=>?_)
  ·simp;(with_reducible repeat' first|refine aj ?_|simp);simp[bz,vJ,aV,aY,aT];simp[T.has,ag.1,ag.2]
  ·rcases(by omega:i=0∨i=1)with rfl|rfl
   ·cases br:a.has s
    ·rw[br]at ee;simp;((with_reducible repeat' first|refine aj ?_|refine aC ee ?_|refine aD ee ?_|simp|((first|apply bI|apply bK|apply bJ)<;>intro h<;>try simp at h))<;>(try exact cm));exact bT.rng () hi ⟨fun _=>br,fun h=>by omega⟩ cu
    ·rw[br]at ee;simp;((with_reducible repeat' first|refine aj ?_|refine aC ee ?_|refine aD ee ?_|simp|((first|apply bI|apply bK|apply bJ)<;>intro h<;>try simp at h))<;>(try exact cm));simp[bz,vJ,aV,aY,aT];simp[T.has,br]
   ·cases ae:b.has s
    ·rw[ae]at ef;simp;((with_reducible repeat' first|refine aj ?_|refine aC ef ?_|refine aD ef ?_|simp|((first|apply bI|apply bK|apply bJ)<;>intro h<;>try simp at h))<;>(try exact cm));exact bT.rng () hi ⟨fun _=>ag.1 (by omega),fun _=>ae⟩ cu
    ·rw[ae]at ef;simp;((with_reducible repeat' first|refine aj ?_|refine aC ef ?_|refine aD ef ?_|simp|((first|apply bI|apply bK|apply bJ)<;>intro h<;>try simp at h))<;>(try exact cm));simp[bz,vJ,aV,aY,aT];simp[T.has,ae]
 | .sym n=>by
  refine bE mU AX Ck fun aU=>?_;unfold yf;simp;refine gh [1,2,8,9] (fun i (_:Unit)=>[(10,.int .i64 i)]) 0 (fun i _=>True) () cu trivial (fun _ ag _=>?_) (fun i _ hi ag _=>by omega);simp;(with_reducible repeat' first|refine aj ?_|simp);all_goals simp[bz,vJ,aV,aY,aT]
  all_goals simp[T.has]
 | .num n=>by
  refine bE mU AX Ck fun aU=>?_;unfold yf;simp;refine gh [1,2,8,9] (fun i (_:Unit)=>[(10,.int .i64 i)]) 0 (fun i _=>True) () cu trivial (fun _ ag _=>?_) (fun i _ hi ag _=>by omega);simp;(with_reducible repeat' first|refine aj ?_|simp);all_goals simp[bz,vJ,aV,aY,aT]
  all_goals simp[T.has]
 | .var n=>by
  refine bE mU AX Ck fun aU=>?_;unfold yf;simp;refine gh [1,2,8,9] (fun i (_:Unit)=>[(10,.int .i64 i)]) 0 (fun i _=>True) () cu trivial (fun _ ag _=>?_) (fun i _ hi ag _=>by omega);simp;(with_reducible repeat' first|refine aj ?_|simp);all_goals simp[bz,vJ,aV,aY,aT]
  all_goals simp[T.has]
 | .nil=>by
  refine bE mU AX Ck fun aU=>?_;unfold yf;simp;refine gh [1,2,8,9] (fun i (_:Unit)=>[(10,.int .i64 i)]) 0 (fun i _=>True) () cu trivial (fun _ ag _=>?_) (fun i _ hi ag _=>by omega);simp;(with_reducible repeat' first|refine aj ?_|simp);all_goals simp[bz,vJ,aV,aY,aT]
  all_goals simp[T.has]
def mP(l:List b6)(o:Option (List b6)):ai:= .tuple [.slice 2 .no ((o.getD l).map b6.e),.bool o.isSome]
@[simp] theorem anj(S:aH→Prop)(l:List b6)(o:Option (List b6)):aF S (mP l o)=True:=by simp[mP]
def vm(l:List b6)(n:Int)(i:Nat):Prop:=i≤l.length∧∀j y,j<i→l[j]? =some y→y.v<n
theorem vm.none{l:List b6}{n:Int}{i:Nat}(h:vm l n i)(br:l.Pairwise fun x y=>x.v<y.v)(av:∀c,l[i]? =some c→n<c.v):kW l n=none:=xb.2 fun x ad=>by
 obtain⟨j,dS,rfl⟩:=ov ad;have e:=cv dS;rcases Nat.lt_or_ge j i with J|J
 ·have:=h.2 j _ J e;omega
 ·have Ev:i<l.length:=by omega
  have aA:=cv Ev;have ao:=av _ aA;rcases Nat.lt_or_ge i j with U|U
  ·have:=pb.1 br i j Ev dS U;omega
  ·obtain rfl:i=j:=by omega
   omega
theorem vm.ins{l:List b6}{n k:Int}{i:Nat}(h:vm l n i)(av:∀c,l[i]? =some c→n<c.v):ln ⟨n,k⟩ l=l.take i++⟨n,k⟩::l.drop i:=Sq ⟨n,k⟩ l i (fun j y J U=>h.2 j y J U) (fun y aG=>by have:=av y aG;simp;omega) h.1
theorem vm.step{l:List b6}{n:Int}{i:Nat}{b:b6}(h:vm l n i)(ae:l[i]? =some b)(ar:b.v<n):vm l n (i+1):=⟨(fG.1 ae).1,fun j y J U=>by
 rcases(by omega:j<i∨j=i)with ao|rfl
 ·exact h.2 j y ao U
 ·rw[ae]at U;cases U;exact ar⟩
theorem akc(l:List b6)(aq:l.length≤1000000)(br:l.Pairwise fun x y=>x.v<y.v)(n k:Int):b7 az 178 [.slice 2 .no (l.map b6.e),(T.var n).e,.int .i64 k] (mP l (iq l (.var n) k)):=by
 generalize de:iq l (.var n) k=O;have dJ:(match kW l n with|some bD=>if bD=k then some l else none|none=>some (ln ⟨n,k⟩ l))=O:=by rw[←de];rfl
 clear de;refine bE mU AY Cl fun aU=>?_;unfold yg;simp;refine uU [0,2,4] (fun(i:Nat)=>[(8,.int .i64 i)]) (fun i=>l.length-i) (vm l n) 0 cu ⟨by omega,fun j y h=>by omega⟩ (fun i ag _=>?_);have ab:=ag.1;by_cases hi:i<l.length
 ·obtain⟨b,ae,dk⟩:=fE hi;rcases Int.lt_trichotomy b.v n with h|h|h
  ·have af:=ag.step ae h;clear dJ ag ae br;simp[hi,dk,h];((with_reducible repeat' first|refine aj ?_|simp[hi,dk,h]|((first|apply bI|apply bK|apply bJ)<;>intro h<;>try simp at h))<;>(try exact cm));exact bT.whl (i+1) (by omega) af cu
  ·have aS:kW l n=some b.k:=by rw[←h];exact Fa br (gb ae)
   have J:¬b.v<n:=by omega
   have U:(b.v==n)=true:=by simp[h]
   rw[aS]at dJ;simp only at dJ;subst dJ;clear ag ae br aS;simp[hi,dk,J,U];(with_reducible repeat' first|refine aj ?_|simp[hi,dk,J,U]);all_goals simp[bz,vK,aV,aY,aT]
   all_goals(by_cases e:b.k=k<;>simp[mP,e])
  ·have J:¬b.v<n:=by omega
   have U:(b.v==n)=false:=by simp;omega
   have av:∀c,l[i]? =some c→n<c.v:=fun c av=>by rw[ae]at av;cases av;exact h
   rw[ag.none br av]at dJ;simp only[ag.ins av]at dJ;subst dJ;clear ag ae br av;simp[hi,dk,J,U];(with_reducible repeat' first|refine aj ?_|simp[hi,dk,J,U]);all_goals simp[bz,vK,aV,aY,aT]
   all_goals simp[mP]
   rw[ha (by simp:(l.map b6.e).length≤l.length),←List.map_take,←List.map_drop,←gI,←List.map_append];exact L7 _
 ·have av:∀c,l[i]? =some c→n<c.v:=fun c av=>by rw[pW (by omega)]at av;cases av
  rw[ag.none br av]at dJ;simp only[ag.ins av]at dJ;have Ev:i=l.length:=by omega
  clear ag br av;subst dJ;subst Ev;simp;(with_reducible repeat' first|refine aj ?_|simp);all_goals simp[bz,vK,aV,aY,aT]
  all_goals simp[mP]
  rw[ha (by simp:(l.map b6.e).length≤l.length),show [(⟨n,k⟩:b6).e]=[(⟨n,k⟩:b6)].map b6.e from rfl,←List.map_append];exact L7 _
theorem Mu(l:List b6)(aq:l.length≤1000000)(br:l.Pairwise fun x y=>x.v<y.v)(t:T)(k:Int):b7 az 178 [.slice 2 .no (l.map b6.e),t.e,.int .i64 k] (mP l (iq l t k)):=by
 cases t with
 |var n=>exact akc l aq br n k
 |nil=>
  refine bE mU AY Cl fun aU=>?_;unfold yg;simp;(with_reducible repeat' first|refine aj ?_|simp);all_goals simp[bz,vK,aV,aY,aT]
  all_goals(by_cases e:0=k<;>simp[mP,iq,e])
 |sym n=>
  refine bE mU AY Cl fun aU=>?_;unfold yg;simp;(with_reducible repeat' first|refine aj ?_|simp);all_goals simp[bz,vK,aV,aY,aT]
  all_goals(by_cases e:2=k<;>simp[mP,iq,e])
 |num n=>
  refine bE mU AY Cl fun aU=>?_;unfold yg;simp;(with_reducible repeat' first|refine aj ?_|simp);all_goals simp[bz,vK,aV,aY,aT]
  all_goals(by_cases e:3=k<;>simp[mP,iq,e])
 |pair a b=>
  refine bE mU AY Cl fun aU=>?_;unfold yg;simp;(with_reducible repeat' first|refine aj ?_|simp);all_goals simp[bz,vK,aV,aY,aT]
  all_goals(by_cases e:4=k<;>simp[mP,iq,e])
theorem WO(s:List al)(v:Int):gT s (.var v)=bP s v:=rfl
theorem Mv{s:List al}(af:en s){l:List b6}(aq:jH l):b7 az 217 [.slice 5 .no (s.map al.e),.slice 2 .no (l.map b6.e)] (fy (fF s l [])):=by
 have wW:=oX aq;refine bE mU aaT ahh fun aU=>?_;unfold Pc;simp;refine gh [0,11,12] (fun i (a:List b6)=>[(6,.slice 2 .no (a.map b6.e)),(13,.int .i64 i)]) l.length (St s l) [] cu ⟨⟨by simp,by simp⟩,rfl⟩ (fun a ag _=>?_) (fun i a hi ag _=>?_)
 ·obtain⟨_,ag⟩:=ag;rw[List.drop_length]at ag;simp only[fF]at ag;rw[←ag];simp;(with_reducible repeat' first|refine aj ?_|simp);simp[bz,Lr,aV,aY,aT];simp[fy]
 ·obtain⟨br,ag⟩:=ag;obtain⟨b,ae,dk⟩:=fE hi;have nR:=aq.at' b (gb ae);rw[kN hi,dk]at ag;simp only[fF]at ag;have nn:=GN s af.len (.var b.v);rw[WO]at nn;have fa:=Mu a (by have:=oX br;omega) br.asc (bP s b.v) b.k;simp[hi,dk];cases dJ:iq a (bP s b.v) b.k with
  |none=>rw[dJ]at ag fa;simp only at ag;rw[←ag];simp only[mP]at fa;(with_reducible repeat' first|refine aj ?_|refine aC (j3 _) ?_|refine aD (j3 _) ?_|refine aC nn ?_|refine aD nn ?_|refine aC fa ?_|refine aD fa ?_|simp[dk,hi]);simp[bz,Lr,aV,aY,aT];simp[fy]
  |some bh=>rw[dJ]at ag fa;simp only[mP]at fa;(with_reducible repeat' first|refine aj ?_|refine aC (j3 _) ?_|refine aD (j3 _) ?_|refine aC nn ?_|refine aD nn ?_|refine aC fa ?_|refine aD fa ?_|simp[dk,hi]);exact bT.rng bh hi ⟨Dr br (z1 af nR.1) nR.2 dJ,ag⟩ cu
def oL(s:List cV)(a7:List Int)(l:List bk):List bk:=a7.foldl (fun a v=>jY fj ⟨v,s⟩ a) l
theorem Iw(s:List cV):∀(a7:List Int) {l:List bk},hb fj l→hb fj (oL s a7 l)
 |[],_,h=>h
 |v::a7,_,h=>Iw s a7 (JM lv h)
theorem Ts(s:List cV){x:bk}:∀(a7:List Int) {l:List bk},x∈oL s a7 l↔x∈l∨(x.s=s∧x.v∈a7)
 |[],l=>by simp[oL]
 |v::a7,l=>by
  have:=Ts s (x:=x) a7 (l:=jY fj ⟨v,s⟩ l);rw[show oL s (v::a7) l=oL s a7 (jY fj ⟨v,s⟩ l)from rfl,this,Ft lv,ga];constructor
  ·rintro((rfl|h)|⟨J,U⟩)
   ·exact .inr ⟨rfl,.inl rfl⟩
   ·exact .inl h
   ·exact .inr ⟨J,.inr U⟩
  ·rintro(h|⟨J,U|U⟩)
   ·exact .inl (.inr h)
   ·refine .inl (.inl ?_);cases x;simp_all
   ·exact .inr ⟨J,U⟩
theorem Qo(s:List cV):∀(a7:List Int) (l:List bk),(oL s a7 l).length≤l.length+a7.length
 |[],l=>by simp[oL]
 |v::a7,l=>by have J:=Qo s a7 (jY fj ⟨v,s⟩ l);have U:=JO (c:=fj) (⟨v,s⟩:bk) l;rw[show oL s (v::a7) l=oL s a7 (jY fj ⟨v,s⟩ l)from rfl];simp only[nB];omega
theorem aa6{t:T}{s:List cV}(cP:t.has s=false){l:List bk}(br:hb fj l):jr l t s=some (oL s (ie t []) l):=He cP (Iw s _ br) fun x=>by rw[Ts,Fv];simp
def BR(l:List bk)(a7:List Int)(s:List cV)(i:Nat)(a:List bk):Prop:=a=oL s (a7.take i) l
def y9(a:List bk)(m:bk)(k:Nat):Prop:=k≤a.length∧∀j y,j<k→a[j]? =some y→fj y m<0
theorem y9.step{a:List bk}{m:bk}{k:Nat}{b:bk}(h:y9 a m k)(ae:a[k]? =some b)(ar:fj b m<0):y9 a m (k+1):=⟨(fG.1 ae).1,fun j y J U=>by
 rcases(by omega:j<k∨j=k)with ao|rfl
 ·exact h.2 j y ao U
 ·rw[ae]at U;cases U;exact ar⟩
theorem y9.fin{a:List bk}{m:bk}{k:Nat}(h:y9 a m k)(av:∀y,a[k]? =some y→0≤fj y m):jY fj m a=if(match a[k]? with|some y=>decide (fj y m=0)|none=>false)=true then a else a.take k++m::a.drop k:=(JN lv m a k (fun j y J U=>h.2 j y J U) av h.1).trans (by cases a[k]?<;>rfl)
theorem TG(a:List bk)(k:Nat)(m:bk):ox k (a.map bk.e)++m.e::List.drop k (a.map bk.e)=(a.take k++m::a.drop k).map bk.e:=by simp
theorem zt(a:List bk)(k:Nat)(m:bk):df (ox k (a.map bk.e)++m.e::List.drop k (a.map bk.e))=ox k (a.map bk.e)++m.e::List.drop k (a.map bk.e):=by rw[TG,L8]
theorem zs(S:aH→Prop)(a:List bk)(k:Nat)(m:bk):aO S (ox k (a.map bk.e)++m.e::List.drop k (a.map bk.e))=True:=by rw[TG,SZ]
theorem TF(a:List bk)(m:bk):a.map bk.e++[m.e]=(a++[m]).map bk.e:=by simp
theorem zr(a:List bk)(m:bk):df (a.map bk.e++[m.e])=a.map bk.e++[m.e]:=by rw[TF,L8]
theorem zq(S:aH→Prop)(a:List bk)(m:bk):aO S (a.map bk.e++[m.e])=True:=by rw[TF,SZ]
theorem WC(l:List bk)(aq:l.length≤68719470000)(t:T)(aN:t.size≤5000)(s:List cV)(br:hb fj l):b7 az 179 [.slice 2 .no (l.map bk.e),t.e,.str s] (hF (jr l t s)):=by
 have hO:=Mt s t;cases cP:t.has s;rotate_left
 ·have bV:jr l t s=none:=by simp[jr,cP]
  rw[bV];rw[cP]at hO;refine bE mU Qe T8 fun aU=>?_;unfold HN;simp;(with_reducible repeat' first|refine aj ?_|refine aC hO ?_|refine aD hO ?_|simp);all_goals simp[bz,Ls,aV,aY,aT]
  all_goals simp[hF]
 ·rw[cP]at hO;have dJ:=aa6 cP br;have n4:=C5 t [];have pG:=GM t [] (by simp;omega) (by simp[s7]);have IS:eg []=[]:=rfl;rw[IS]at pG;rw[dJ];clear dJ cP;generalize ie t []=a7 at pG n4⊢;have kj:a7.length≤5000:=by simp at n4;omega
  generalize fW:oL s a7 l=F;refine bE mU Qe T8 fun aU=>?_;unfold HN;simp;(with_reducible repeat' first|refine aj ?_|refine aC hO ?_|refine aD hO ?_|refine aC pG ?_|refine aD pG ?_|simp[eT]);refine gh [2,17,18] (fun i (a:List bk)=>[(0,.slice 2 .no (a.map bk.e)),(19,.int .i64 i)]) a7.length (BR l a7 s) l ⟨by simp[fresh,aO,aF,cl,inObs,Pv.look,eT],eF (by simp[fresh,aO,aF,cl,inObs,Pv.look,eT]),eG (by simp[fresh,aO,aF,eb,inObs,Pv.look,eT]),by simp⟩ (by simp[BR,oL]) (fun a ag _=>?_) (fun i a hi ag _=>?_)
  ·rw[BR,mY,fW]at ag;subst ag;simp[eT];(with_reducible repeat' first|refine aj ?_|simp[eT]);all_goals simp[bz,Ls,aV,aY,aT]
   all_goals simp[hF]
  ·obtain⟨v,aJ⟩:∃v,a7[i]? =some v:=⟨_,cv hi⟩;have qp:∀h,((eg a7)[i]'h)= .int .i64 v:=fun cA=>by have:=BN a7 i;rw[aJ,cv cA]at this;exact fP this
   have q3:hb fj a:=by rw[ag];exact Iw s _ br
   have pt:a.length≤68719475000:=by have:=Qo s (a7.take i) l;rw[ag];simp at this⊢;omega
   have fh:BR l a7 s (i+1) (jY fj ⟨v,s⟩ a):=by rw[BR,List.take_succ,aJ,ag];simp[oL]
   generalize hm:(⟨v,s⟩:bk)=m at fh;have adb:m.v=v:=by rw[←hm]
   have tK:m.s=s:=by rw[←hm]
   subst adb;subst tK;clear ag fW;simp[hi,qp,eT];(with_reducible repeat' first|refine aj ?_|simp[hi,qp,eT]);refine uU [0,2,10,17,18,19] (fun(k:Nat)=>[(11,.int .i64 k)]) (fun k=>a.length-k) (y9 a m) 0 ⟨by simp[fresh,aO,aF,cl,inObs,Pv.look,eT],eF (by simp[fresh,aO,aF,cl,inObs,Pv.look,eT]),eG (by simp[fresh,aO,aF,eb,inObs,Pv.look,eT]),by simp⟩ ⟨by omega,fun j y h=>by omega⟩ (fun k ag _=>?_);have ab:=ag.1;by_cases gV:k<a.length
   ·obtain⟨b,ae,dk⟩:=fE gV;cases bq:iD fj b m
    ·have u3:0≤fj b m:=by simpa[iD]using bq
     have dK:=ag.fin (fun y aG=>by rw[ae]at aG;cases aG;exact u3);rw[ae]at dK;cases Eu:iD fj m b
     ·have hle:0≤fj m b:=by simpa[iD]using Eu
      have bV:fj b m=0:=by have:=lv.neg b m;omega
      rw[if_pos (by simp[bV])]at dK;rw[dK]at fh;clear ag ae dK pt q3;simp[gV,dk];((with_reducible repeat' first|refine aj ?_|refine aC (Aj _ _) ?_|refine aD (Aj _ _) ?_|simp[gV,dk,bq,Eu]|((first|apply bI|apply bK|apply bJ)<;>intro h<;>try simp at h))<;>(try exact cm));all_goals exact bT.rng a hi fh ⟨by simp[fresh,aO,aF,cl,inObs,Pv.look,eT],eF (by simp[fresh,aO,aF,cl,inObs,Pv.look,eT]),eG (by simp[fresh,aO,aF,eb,inObs,Pv.look,eT]),by simp⟩
     ·have hle:fj m b<0:=by simpa[iD]using Eu
      have bV:¬fj b m=0:=by have:=lv.neg b m;omega
      rw[if_neg (by simp[bV])]at dK;rw[dK]at fh;clear ag ae dK q3;simp[gV,dk];((with_reducible repeat' first|refine aj ?_|refine aC (Aj _ _) ?_|refine aD (Aj _ _) ?_|simp[gV,dk,bq,Eu]|((first|apply bI|apply bK|apply bJ)<;>intro h<;>try simp at h))<;>(try exact cm));all_goals first|(refine⟨by unfold lim;omega,?_⟩)|skip
      all_goals(with_reducible repeat' first|refine aj ?_|simp)
      all_goals first|(refine⟨by unfold lim;omega,?_⟩)|skip
      all_goals((with_reducible repeat' first|refine aj ?_|simp|((first|apply bI|apply bK|apply bJ)<;>intro h<;>try simp at h))<;>(try exact cm))
      all_goals exact bT.rng _ hi fh ⟨by simp[fresh,aO,aF,cl,inObs,Pv.look,eT,ha,zt,zs,zr,zq],eF (by simp[fresh,aO,aF,cl,inObs,Pv.look,eT,ha,zt,zs,zr,zq]),eG (by simp[fresh,aO,aF,eb,inObs,Pv.look,eT,ha,zt,zs,zr,zq]),by simp⟩
    ·have u9:fj b m<0:=by simpa[iD]using bq
     have af:=ag.step ae u9;clear ag ae q3 fh;simp[gV,dk];((with_reducible repeat' first|refine aj ?_|refine aC (Aj _ _) ?_|refine aD (Aj _ _) ?_|simp[gV,dk,bq]|((first|apply bI|apply bK|apply bJ)<;>intro h<;>try simp at h))<;>(try exact cm));all_goals exact bT.whl (k+1) (by omega) af ⟨by simp[fresh,aO,aF,cl,inObs,Pv.look,eT],eF (by simp[fresh,aO,aF,cl,inObs,Pv.look,eT]),eG (by simp[fresh,aO,aF,eb,inObs,Pv.look,eT]),by simp⟩
   ·have dK:=ag.fin (fun y aG=>by rw[pW (by omega)]at aG;cases aG);rw[pW (by omega)]at dK;simp only[gr,if_false]at dK;rw[dK]at fh;have iy:k=a.length:=by omega
    clear ag dK q3;subst iy;simp;(with_reducible repeat' first|refine aj ?_|simp);all_goals first|(refine⟨by unfold lim;omega,?_⟩)|skip
    all_goals(with_reducible repeat' first|refine aj ?_|simp)
    all_goals first|(refine⟨by unfold lim;omega,?_⟩)|skip
    all_goals(with_reducible repeat' first|refine aj ?_|simp)
    all_goals exact bT.rng _ hi fh ⟨by simp[fresh,aO,aF,cl,inObs,Pv.look,eT,ha,zt,zs,zr,zq],eF (by simp[fresh,aO,aF,cl,inObs,Pv.look,eT,ha,zt,zs,zr,zq]),eG (by simp[fresh,aO,aF,eb,inObs,Pv.look,eT,ha,zt,zs,zr,zq]),by simp⟩
theorem Mw{s:List al}(af:en s){l:List bk}(aq:j0 l){G:List (List cV)}(hd:G.length≤687000)(aS:kH G l):b7 az 218 [.slice 5 .no (s.map al.e),.slice 2 .no (l.map bk.e)] (hF (fx s l [])):=by
 have hlen:∀{a:List bk},j0 a→kH G a→a.length≤68719470000:=fun J U=>by have:=B6 J U;omega
 have wW:=hlen aq aS;refine bE mU aaU ahi fun aU=>?_;unfold Pd;simp;refine gh [0,11,12] (fun i (a:List bk)=>[(6,.slice 2 .no (a.map bk.e)),(13,.int .i64 i)]) l.length (Su s G l) [] cu ⟨⟨by simp,by simp[hb]⟩,fun x ad=>by simp at ad,rfl⟩ (fun a ag _=>?_) (fun i a hi ag _=>?_)
 ·obtain⟨_,_,ag⟩:=ag;rw[List.drop_length]at ag;simp only[fx]at ag;rw[←ag];simp;(with_reducible repeat' first|refine aj ?_|simp);simp[bz,Lt,aV,aY,aT];simp[hF]
 ·obtain⟨br,BG,ag⟩:=ag;obtain⟨b,ae,dk⟩:=fE hi;have nR:=aq.at' b (gb ae);have IX:=aS b (gb ae);rw[kN hi,dk]at ag;simp only[fx]at ag;have nn:=GN s af.len (.var b.v);rw[WO]at nn;have fa:=WC a (hlen br BG) (bP s b.v) (CP af b.v) b.s br.asc;simp[hi,dk];cases dJ:jr a (bP s b.v) b.s with
  |none=>rw[dJ]at ag fa;simp only at ag;rw[←ag];simp only[hF]at fa;(with_reducible repeat' first|refine aj ?_|refine aC (j3 _) ?_|refine aD (j3 _) ?_|refine aC nn ?_|refine aD nn ?_|refine aC fa ?_|refine aD fa ?_|simp[dk,hi]);simp[bz,Lt,aV,aY,aT];simp[hF]
  |some bh=>rw[dJ]at ag fa;simp only[hF]at fa;(with_reducible repeat' first|refine aj ?_|refine aC (j3 _) ?_|refine aD (j3 _) ?_|refine aC nn ?_|refine aD nn ?_|refine aC fa ?_|refine aD fa ?_|simp[dk,hi]);exact bT.rng bh hi ⟨Ds br (z1 af nR.1) nR.2 dJ,AD BG IX dJ,ag⟩ cu
theorem ajm{s:List al}(au:o2 s)(br:h5 s)(aQ:gy s):hQ (s.map al.b)=s.all (lV s):=by
 rw[pV,jD,vT,←VO br];constructor
 ·rintro⟨ah,J,U,ao,aZ⟩;rw[x8 J];exact ao
 ·intro ao;exact⟨s,rfl,au,ao,aQ⟩
theorem XO{s:List al}(br:h5 s)(b:al):lV s b=true↔(∀v∈ie b.t [],c0 s v=none)∧(b.t.kind==1&&decide (b.v≤b.t.int))=false:=by unfold lV;rw[cx,Qp br];simp only[true_and,rT,Fv,List.not_mem_nil,or_false]
def BQ(s:List al)(a7:List Int)(i:Nat)(_:Unit):Prop:= ∀v∈a7.take i,c0 s v=none
theorem BQ.step{s:List al}{a7:List Int}{i:Nat}(h:BQ s a7 i ()){v:Int}(aJ:a7[i]? =some v)(ar:c0 s v=none):BQ s a7 (i+1) ():=fun w hw=>by
 rw[List.take_succ,aJ]at hw;simp only[ja,Option.toList_some,rW]at hw;rcases hw with hw|rfl
 ·exact h w hw
 ·exact ar
theorem akn(l:List dU):b7 az 142 [.slice 5 .no (l.map dU.e)] (.bool (hQ l)):=by
 have aJ:=aj3 l;by_cases h:x4 l;rotate_left
 ·have bV:hQ l=false:=by unfold hQ;simp only[j4];rintro⟨s,J,U,ao,aZ⟩;exact h (GR.2 ⟨s,J,U,ao.asc,aZ⟩)
  rw[bV];refine bE eA Qb T5 fun aU=>?_;unfold HK;exact cZ
 ·obtain⟨s,rfl,au,br,aQ⟩:=GR.1 h;have aq:s.length≤1000000:=by have:=aQ.1;omega
  rw[ajm au br aQ];rw[zn]at aJ⊢;simp only[h,decide_true]at aJ;clear h;generalize b4:s.all (lV s)=R;refine bE eA Qb T5 fun aU=>?_;unfold HK;simp;(with_reducible repeat' first|refine aj ?_|refine aC aJ ?_|refine aD aJ ?_|simp);refine gh [0,12,13] (fun i (_:Unit)=>[(14,.int .i64 i)]) s.length (qq (lV s) s) () cu (fun k b ab=>by omega) (fun _ ag _=>?_) (fun i _ hi ag _=>?_)
  ·have:R=true:=by rw[←b4,jD];intro b ae;obtain⟨k,ab,e⟩:=ov ae;exact ag k b ab (by rw[cv ab,e])
   rw[this];exact cZ
  ·obtain⟨b,ae,dk⟩:=fE hi;have hN:¬lV s b=true→R=false:=fun h=>by rw[←b4,Bool.eq_false_iff];intro cA;rw[jD]at cA;exact h (cA b (gb ae))
   have q9:lV s b=true→qq (lV s) s (i+1) ():=fun h=>ag.step ae h;have yL:=XO br b;have ed:=aQ.2 b (gb ae);have n4:=C5 b.t [];have pG:=GM b.t [] (by simp;omega) (by simp[s7]);have IS:eg []=[]:=rfl;rw[IS]at pG;generalize ie b.t []=a7 at pG n4 yL;have kj:a7.length≤5000:=by simp at n4;omega
   rw[yL]at hN q9;clear yL ag n4 ae;simp[hi,dk];cases ab:(b.t.kind==1&&decide (b.v≤b.t.int));rotate_left
   ·rw[hN (by rw[ab];simp)];rw[cx]at ab;have gj:=ab.1;have jX:b.v≤b.t.int:=of_decide_eq_true ab.2;exact cZ
   ·rw[ab]at hN q9;simp only[and_true]at hN q9;cases gj:(b.t.kind==1)
    ·clear ab;(with_reducible repeat' first|refine aj ?_|refine aC pG ?_|refine aD pG ?_|simp[dk,hi,eT,gj]);refine gh [0,12,13,14,32,33] (fun j (_:Unit)=>[(34,.int .i64 j)]) a7.length (BQ s a7) () ⟨by simp[fresh,aO,aF,cl,inObs,Pv.look,eT],eF (by simp[fresh,aO,aF,cl,inObs,Pv.look,eT]),eG (by simp[fresh,aO,aF,eb,inObs,Pv.look,eT]),by simp⟩ (fun v aJ=>by simp at aJ) (fun _ ag _=>?_) (fun j _ dS ag _=>?_)
     ·have aS:=q9 (fun v aJ=>ag v (by rwa[mY]));simp[eT];(with_reducible repeat' first|refine aj ?_|simp[eT]);exact bT.rng () hi aS ⟨by simp[fresh,aO,aF,cl,inObs,Pv.look,eT],eF (by simp[fresh,aO,aF,cl,inObs,Pv.look,eT]),eG (by simp[fresh,aO,aF,eb,inObs,Pv.look,eT]),by simp⟩
     ·obtain⟨v,aJ⟩:∃v,a7[j]? =some v:=⟨_,cv dS⟩;have qp:∀h,((eg a7)[j]'h)= .int .i64 v:=fun cA=>by have:=BN a7 j;rw[aJ,cv cA]at this;exact fP this
      have h1:=uH s v aq;cases hp:c0 s v with
      |none=>have ar:=ag.step aJ hp;rw[hp]at h1;simp only[jj,jl]at h1;clear ag q9 hN hp;simp[dS,qp,eT];(with_reducible repeat' first|refine aj ?_|refine aC h1 ?_|refine aD h1 ?_|simp[dS,qp,eT]);exact bT.rng () dS ar ⟨by simp[fresh,aO,aF,cl,inObs,Pv.look,eT],eF (by simp[fresh,aO,aF,cl,inObs,Pv.look,eT]),eG (by simp[fresh,aO,aF,eb,inObs,Pv.look,eT]),by simp⟩
      |some x=>rw[hN (fun h=>by have:=h v (gb aJ);rw[hp]at this;cases this)];rw[hp]at h1;simp only[jk,oy]at h1;clear ag q9 hN hp;simp[dS,qp,eT];(with_reducible repeat' first|refine aj ?_|refine aC h1 ?_|refine aD h1 ?_|simp[dS,qp,eT]);simp[bz,Li,aV,aY,aT]
    ·have jX:¬b.v≤b.t.int:=by rw[gj]at ab;simpa using ab
     clear ab;(with_reducible repeat' first|refine aj ?_|refine aC pG ?_|refine aD pG ?_|simp[dk,hi,eT,gj,jX]);refine gh [0,12,13,14,32,33] (fun j (_:Unit)=>[(34,.int .i64 j)]) a7.length (BQ s a7) () ⟨by simp[fresh,aO,aF,cl,inObs,Pv.look,eT],eF (by simp[fresh,aO,aF,cl,inObs,Pv.look,eT]),eG (by simp[fresh,aO,aF,eb,inObs,Pv.look,eT]),by simp⟩ (fun v aJ=>by simp at aJ) (fun _ ag _=>?_) (fun j _ dS ag _=>?_)
     ·have aS:=q9 (fun v aJ=>ag v (by rwa[mY]));simp[eT];(with_reducible repeat' first|refine aj ?_|simp[eT]);exact bT.rng () hi aS ⟨by simp[fresh,aO,aF,cl,inObs,Pv.look,eT],eF (by simp[fresh,aO,aF,cl,inObs,Pv.look,eT]),eG (by simp[fresh,aO,aF,eb,inObs,Pv.look,eT]),by simp⟩
     ·obtain⟨v,aJ⟩:∃v,a7[j]? =some v:=⟨_,cv dS⟩;have qp:∀h,((eg a7)[j]'h)= .int .i64 v:=fun cA=>by have:=BN a7 j;rw[aJ,cv cA]at this;exact fP this
      have h1:=uH s v aq;cases hp:c0 s v with
      |none=>have ar:=ag.step aJ hp;rw[hp]at h1;simp only[jj,jl]at h1;clear ag q9 hN hp;simp[dS,qp,eT];(with_reducible repeat' first|refine aj ?_|refine aC h1 ?_|refine aD h1 ?_|simp[dS,qp,eT]);exact bT.rng () dS ar ⟨by simp[fresh,aO,aF,cl,inObs,Pv.look,eT],eF (by simp[fresh,aO,aF,cl,inObs,Pv.look,eT]),eG (by simp[fresh,aO,aF,eb,inObs,Pv.look,eT]),by simp⟩
      |some x=>rw[hN (fun h=>by have:=h v (gb aJ);rw[hp]at this;cases this)];rw[hp]at h1;simp only[jk,oy]at h1;clear ag q9 hN hp;simp[dS,qp,eT];(with_reducible repeat' first|refine aj ?_|refine aC h1 ?_|refine aD h1 ?_|simp[dS,qp,eT]);simp[bz,Li,aV,aY,aT]
theorem WH{s:List al}(h:en s):b7 az 142 [.slice 5 .no (s.map al.e)] (.bool true):=by have:=akn (s.map al.b);rw[zn,vT.2 ⟨s,rfl,h.ok,h.sol,h.fits⟩]at this;exact this
@[simp] def aoN:List bu:=[.tmp 4]
@[simp] def aoM:List bu:=[.tmp 2]
@[simp] def aoQ:List bu:=[.tmp 4]
def O8:C:=(aa [eC 4 5] (aa [dR 10 5 61 [],I 5 10] (.seq (aa [I 11 1,cS 12 11,cr 13 0] (fY 14 13 12 (.seq (.block 1 (aa [cN 15 5 11 13,ba 16 5 15,cU 7 kE,bG 5 7 16] (aa [I 18 0,aP 19 0 1 7,aB 20 1 19,cw 21 161 18 20,I 17 21,cq 22 0 17,cq 23 1 17,cU 8 dz,bG 4 8 22,I 9 23] (aa [I 24 9,cI 25 24] (a8 25 (.region [I 26 5,ba 27 5 7,dR 28 5 61 [.t 27],gC 29 5 61 26 28,I 5 29]) .skip))))) (.region [aW 30 .add 13 1,I 13 30])))) (aa [I 31 5,I 4 31] .ret))))
@[simp] def aii:List bu:=[.tmp 4]
def O9:C:=(aa [cr 4 0] (.seq (aa [cr 5 0] (.block 0 (.loop (.seq (aa [I 7 5,I 8 0,cS 9 8,bA 10 .lss 7 9,I 11 10,bU 11 true 12 5,bU 11 true 13 1,aw 11 true (cS 14 13),aw 11 true (bA 15 .lss 12 14),dr 16 11 15] (a8 16 .skip (.exit 0))) (.seq (.block 1 (.seq (.seq (.drawn true 67 [I 19 0,I 20 5,cN 21 5 19 20,aP 22 0 1 21,aB 23 1 22,I 24 1,I 25 5,cN 26 5 24 25,aP 27 0 1 26,aB 28 1 27,bA 29 .neq 23 28]) (a8 29 (.seq (.drawn true 67 [I 30 0,I 31 5,cN 32 5 30 31,aP 33 0 1 32,aB 34 1 33,I 35 1,I 36 5,cN 37 5 35 36,aP 38 0 1 37,aB 39 1 38,bA 40 .lss 34 39,cL 41 238 40,I 4 41]) .ret) .skip)) (.seq (.drawn true 67 [I 42 0,I 43 5,cN 44 5 42 43,iW 45 1 4 44,ba 46 4 45,I 47 1,I 48 5,cN 49 5 47 48,iW 50 1 4 49,ba 51 4 50,cw 52 229 46 51,I 6 52]) (aa [I 53 6,aW 54 .neq 53 0] (a8 54 (aa [I 55 6,I 4 55] .ret) .skip))))) (.region [I 17 5,aW 18 .add 17 1,I 5 18])))))) (.seq (aa [I 56 0,cS 57 56,I 58 1,cS 59 58,bA 60 .neq 57 59] (a8 60 (aa [I 61 0,cS 62 61,I 63 1,cS 64 63,bA 65 .lss 62 64,cL 66 238 65,I 4 66] .ret) .skip)) (aa [cr 4 0] .ret))))
@[simp] def Cx:List bu:=[.tmp 4]
def Pb:C:=(aa [eC 2 1] (aa [dR 11 1 23 [],I 3 11] (.seq (.seq (.fg false 3 (.region [I 12 0,cS 13 12,cr 14 0])) (fY 15 14 13 (.seq (.block 1 (aa [cN 16 1 12 14,aB 17 1 16,I 5 17] (aa [bH 6 true] (.seq (aa [I 18 0,cS 19 18,cr 20 0] (.block 2 (.loop (aa [bA 21 .lss 20 19] (.seq (a8 21 .skip (.exit 2)) (.seq (.block 3 (aa [cN 22 1 18 20,aB 23 1 22,I 8 23] (.region [I 24 6,I 25 24,bU 25 true 26 8,bU 25 true 27 5,aw 25 true (cw 28 180 26 27),aw 25 true (aW 29 .eql 28 0),bU 25 true 30 29,bU 30 false 31 8,bU 30 false 32 5,aw 30 false (cw 33 269 31 32),aw 30 false (cI 34 33),aw 25 true (dj 35 30 34),dr 36 25 35,I 6 36]))) (.region [aW 37 .add 20 1,I 20 37]))))))) (aa [I 38 3,cS 39 38,I 9 39] (.seq (.block 4 (.loop (.seq (aa [I 40 9,aW 41 .gtr 40 0,I 42 41,bU 42 true 43 3,bU 42 true 44 9,aw 42 true (aW 45 .sub 44 1),aw 42 true (cN 46 1 43 45),aw 42 true (aB 47 1 46),bU 42 true 48 5,aw 42 true (cw 49 180 47 48),aw 42 true (aW 50 .geq 49 0),dr 51 42 50] (a8 51 .skip (.exit 4))) (.block 5 (.region [I 52 9,aW 53 .sub 52 1,I 9 53]))))) (aa [I 54 6,I 55 54,bU 55 true 56 9,bU 55 true 57 3,aw 55 true (cS 58 57),aw 55 true (bA 59 .eql 56 58),bU 55 true 60 59,bU 60 false 61 3,bU 60 false 62 9,aw 60 false (cN 63 1 61 62),aw 60 false (aB 64 1 63),bU 60 false 65 5,aw 60 false (cw 66 180 64 65),aw 60 false (aW 67 .neq 66 0),aw 55 true (dj 68 60 67),dr 69 55 68] (a8 69 (aa [dR 70 1 23 [],I 71 3,I 72 9,bX 73 (.lsl 1 (.t 71) none (some (.t 72))),gC 74 1 23 70 73,I 10 74] (aa [I 75 10,I 76 5,dR 77 1 23 [.t 76],gC 78 1 23 75 77,I 10 78] (.region [I 79 10,I 80 3,I 81 9,bX 82 (.lsl 1 (.t 80) (some (.t 81)) none),gC 83 1 23 79 82,I 3 83]))) .skip)))))))) (.fg false 3 (.region [aW 84 .add 14 1,I 14 84]))))) (aa [I 85 3,I 2 85] .ret))))
@[simp] def aik:List bu:=[.tmp 2]
def OK:C:=(aa [bH 4 false] (.seq (aa [I 11 0,cL 12 142 11,cI 13 12,I 14 13,bU 14 false 15 1,aw 14 false (cL 16 142 15),aw 14 false (cI 17 16),dj 18 14 17] (a8 18 (aa [bH 4 false] .ret) .skip)) (.seq (aa [I 19 0,cS 20 19,cr 21 0] (fY 22 21 20 (.seq (.block 1 (aa [cN 23 5 19 21,ba 24 5 23,cU 6 kE,bG 5 6 24] (aa [I 26 1,aP 27 0 1 6,aB 28 1 27,cL 29 91 28,cw 30 166 26 29,I 25 30,cq 31 0 25,cq 32 1 25,cU 7 dz,bG 4 7 31,I 8 32] (aa [I 34 1,iW 35 1 4 6,ba 36 4 35,cw 37 166 34 36,I 33 37,cq 38 0 33,cq 39 1 33,cU 9 dz,bG 4 9 38,I 10 39] (aa [I 40 8,cI 41 40,I 42 41,bU 42 false 43 10,aw 42 false (cI 44 43),dj 45 42 44,I 46 45,aw 46 false (ba 47 4 7),aw 46 false (ba 48 4 9),aw 46 false (cw 49 167 47 48),aw 46 false (cI 50 49),dj 51 46 50] (a8 51 (aa [bH 4 false] .ret) .skip)))))) (.region [aW 52 .add 21 1,I 21 52])))) (aa [bH 4 true] .ret))))
@[simp] def Lh:List bu:=[.tmp 4]
def CW:List (Nat×du):=[
 (3,⟨1,8,.int .i64,.int .i64 0⟩),
 (23,⟨1,24,.slice 61,.slice 5 .nil []⟩),
 (24,⟨1,24,.slice 23,.slice 1 .nil []⟩),
 (30,⟨1,24,.slice 32,.slice 4 .nil []⟩),
 (32,⟨4,56,.struct [(0,3),(1,3),(2,9),(3,30)],.agg [.int .i64 0,.int .i64 0,.str [],.slice 4 .nil []]⟩),
 (61,⟨5,64,.struct [(0,3),(1,32)],.agg [.int .i64 0,.int .i64 0,.int .i64 0,.str [],.slice 4 .nil []]⟩)]
theorem GF:fA az CW=true:=by kernel_rfl
theorem ahd:cc CW O8 aii 2 Tryz.f177=true:=by kernel_rfl
theorem aaP:az.funcs[(177:Nat)]? =some Tryz.f177:=Tryz.func177
theorem ahe:cc CW O9 Cx 2 Tryz.f180=true:=by kernel_rfl
theorem aaQ:az.funcs[(180:Nat)]? =some Tryz.f180:=Tryz.func180
theorem ahg:cc CW Pb aik 1 Tryz.f220=true:=by kernel_rfl
theorem aaS:az.funcs[(220:Nat)]? =some Tryz.f220:=Tryz.func220
theorem agP:cc CW OK Lh 2 Tryz.f269=true:=by kernel_rfl
theorem aar:az.funcs[(269:Nat)]? =some Tryz.f269:=Tryz.func269
@[simp] def aog:List bu:=[.tmp 2]
@[simp] def aon:List bu:=[.tmp 4]
@[simp] def aoh:List bu:=[.tmp 4]
def OY:C:=(aa [cW 2 0,cW 3 1,bH 4 false] (aa [ba 5 4 2,ba 6 4 3,cw 7 229 5 6,aW 8 .eql 7 0,I 4 8] .ret))
@[simp] def U7:List bu:=[.tmp 4]
@[simp] def aoe:List bu:=[.tmp 2]
@[simp] def aoi:List bu:=[.tmp 2]
def AL:C:=(aa [cW 2 0,cW 3 1,cr 4 0] (.seq (aa [aP 7 0 1 2,aB 8 1 7,aP 9 0 1 3,aB 10 1 9,bA 11 .neq 8 10] (a8 11 (aa [aP 12 0 1 2,aB 13 1 12,aP 14 0 1 3,aB 15 1 14,bA 16 .lss 13 15,cL 17 238 16,I 4 17] .ret) .skip)) (.seq (aa [aP 18 1 1 2,aB 19 1 18,aP 20 1 1 3,aB 21 1 20,bA 22 .neq 19 21] (a8 22 (aa [aP 23 1 1 2,aB 24 1 23,aP 25 1 1 3,aB 26 1 25,bA 27 .lss 24 26,cL 28 238 27,I 4 28] .ret) .skip)) (.seq (aa [aP 29 2 1 2,aB 30 1 29,aP 31 2 1 3,aB 32 1 31,bA 33 .neq 30 32] (a8 33 (aa [aP 34 2 1 2,aB 35 1 34,aP 36 2 1 3,aB 37 1 36,bA 38 .lss 35 37,cL 39 238 38,I 4 39] .ret) .skip)) (.seq (aa [cr 5 0] (.block 0 (.loop (.seq (aa [I 40 5,aP 41 3 1 2,aB 42 1 41,cS 43 42,bA 44 .lss 40 43,I 45 44,bU 45 true 46 5,aw 45 true (aP 47 3 1 3),aw 45 true (aB 48 1 47),aw 45 true (cS 49 48),aw 45 true (bA 50 .lss 46 49),dr 51 45 50] (a8 51 .skip (.exit 0))) (.seq (.block 1 (.seq (.drawn true 68 [aP 54 3 1 2,aB 55 1 54,I 56 5,cN 57 4 55 56,ba 58 4 57,aP 59 3 1 3,aB 60 1 59,I 61 5,cN 62 4 60 61,ba 63 4 62,cw 64 229 58 63,I 6 64]) (aa [I 65 6,aW 66 .neq 65 0] (a8 66 (aa [I 67 6,I 4 67] .ret) .skip)))) (.region [I 52 5,aW 53 .add 52 1,I 5 53])))))) (aa [cr 4 0] .ret))))))
@[simp] def zQ:List bu:=[.tmp 4]
@[simp] def aoj:List bu:=[]
def OZ:C:=(aa [cr 2 0] (.seq (aa [I 3 0] (a8 3 (aa [cr 2 (-1)] .ret) .skip)) (aa [cr 2 1] .ret)))
@[simp] def U8:List bu:=[.tmp 2]
def GC:List (Nat×du):=[
 (3,⟨1,8,.int .i64,.int .i64 0⟩),
 (4,⟨1,1,.bool,.bool false⟩),
 (9,⟨1,16,.str,.str []⟩),
 (23,⟨1,24,.slice 61,.slice 5 .nil []⟩),
 (24,⟨1,24,.slice 23,.slice 1 .nil []⟩),
 (30,⟨1,24,.slice 32,.slice 4 .nil []⟩),
 (32,⟨4,56,.struct [(0,3),(1,3),(2,9),(3,30)],.agg [.int .i64 0,.int .i64 0,.str [],.slice 4 .nil []]⟩),
 (61,⟨5,64,.struct [(0,3),(1,32)],.agg [.int .i64 0,.int .i64 0,.int .i64 0,.str [],.slice 4 .nil []]⟩),
 (112,⟨1,24,.slice 3,.slice 1 .nil []⟩)]
theorem Ab:fA az GC=true:=by kernel_rfl
theorem ag3:cc GC OY U7 2 Tryz.f167=true:=by kernel_rfl
theorem aaF:az.funcs[(167:Nat)]? =some Tryz.f167:=Tryz.func167
theorem FD:cc GC AL zQ 2 Tryz.f229=true:=by kernel_rfl
theorem D4:az.funcs[(229:Nat)]? =some Tryz.f229:=Tryz.func229
theorem ag4:cc GC OZ U8 1 Tryz.f238=true:=by kernel_rfl
theorem aaG:az.funcs[(238:Nat)]? =some Tryz.f238:=Tryz.func238
theorem Xj{t u:T}(J:t.kind=u.kind)(U:t.int=u.int)(ao:t.name=u.name)(aZ:t.args=u.args):t=u:=by cases t<;>cases u<;>simp_all
theorem qE(b:Bool):b7 az 238 [.bool b] (.int .i64 (if b then-1 else 1)):=by
 refine bE Ab aaG ag4 fun aU=>?_;unfold OZ;simp;((with_reducible repeat' first|refine aj ?_|simp|((first|apply bI|apply bK|apply bJ)<;>intro h<;>try simp at h))<;>(try exact cm));all_goals simp[bz,U8,aV,aY,aT]
 all_goals simp_all
theorem ahp{a b:T}(br:a.args=[]∨b.args=[])(J:a.kind=b.kind)(U:a.int=b.int):ei a b=kn a.name b.name:=by cases a<;>cases b<;>simp_all[ei]
def BP(a b:T)(i:Nat)(_:Unit):Prop:=a.args.take i=b.args.take i
set_option maxRecDepth 4000 in
theorem Wr(a:T)(bW:∀x∈a.args,∀b:T,b7 az 229 [x.e,b.e] (.int .i64 (ei x b)))(b:T):b7 az 229 [a.e,b.e] (.int .i64 (ei a b)):=by
 have hle:a.args.length≤2:=by cases a<;>simp
 by_cases ab:a.kind=b.kind
 ·by_cases hi:a.int=b.int
  ·by_cases ar:a.name=b.name
   ·have hlen:a.args.length=b.args.length:=by cases a<;>cases b<;>simp at ab⊢
    refine bE Ab D4 FD fun aU=>?_;unfold AL;simp[ab,hi,ar];refine gh [2,3] (fun i (_:Unit)=>[(5,.int .i64 i)]) a.args.length (BP a b) () cu (by simp[BP]) (fun _ ag _=>?_) (fun i _ bq ag _=>?_)
    ·simp;(with_reducible repeat' first|refine aj ?_|simp);simp[bz,zQ,aV,aY,aT];unfold BP at ag;rw[ha (by omega),ha (by omega)]at ag;exact((qx a b).2 (Xj ab hi ar ag)).symm
    ·have qk:i<b.args.length:=by omega
     obtain⟨x,ad⟩:∃x,x=a.args[i]:=⟨_,rfl⟩;obtain⟨y,aG⟩:∃y,y=b.args[i]:=⟨_,rfl⟩;have oV:=bW x (by rw[ad];exact List.getElem_mem bq) y;simp[bq,qk,←ad,←aG];(with_reducible repeat' first|((first|apply bI|apply bK|apply bJ)<;>intro h<;>try simp at h)|refine aj ?_|refine aC oV ?_|refine aD oV ?_|simp)
     ·simp[bz,zQ,aV,aY,aT];unfold BP at ag;cases a with
      |pair bp a2=>
       cases b with
       |pair b8 b3=>
        simp at bq ag ad aG;rcases(by omega:i=0∨i=1)with rfl|rfl
        ·simp at ad aG;subst ad aG;simp[ei,h]
        ·simp at ag ad aG;subst ad aG ag;simp[ei,(qx bp bp).2 rfl]
       |_=>simp at ab
      |_=>simp at bq
     ·refine bT.rng () bq ?_ cu;unfold BP at ag⊢;rw[List.take_succ,List.take_succ,ag,cv bq,cv qk,←ad,←aG,(qx x y).1 h]
   ·refine bE Ab D4 FD fun aU=>?_;unfold AL;simp[ab,hi,ar];((with_reducible repeat' first|refine aj ?_|refine aC (qE _) ?_|refine aD (qE _) ?_|simp|((first|apply bI|apply bK|apply bJ)<;>intro h<;>try simp at h))<;>(try exact cm));simp[bz,zQ,aV,aY,aT];have:a.args=[]∨b.args=[]:=by cases a<;>cases b<;>simp at ab ar⊢
    rw[ahp this ab hi,kn,if_neg ar]
  ·refine bE Ab D4 FD fun aU=>?_;unfold AL;simp[ab,hi];((with_reducible repeat' first|refine aj ?_|refine aC (qE _) ?_|refine aD (qE _) ?_|simp|((first|apply bI|apply bK|apply bJ)<;>intro h<;>try simp at h))<;>(try exact cm));simp[bz,zQ,aV,aY,aT];cases a<;>cases b<;>simp at ab hi
   ·rw[Ue];simp[ek];split<;>(try split)<;>omega
   ·rw[Ud];simp[ek];split<;>(try split)<;>omega
 ·refine bE Ab D4 FD fun aU=>?_;unfold AL;simp[ab];((with_reducible repeat' first|refine aj ?_|refine aC (qE _) ?_|refine aD (qE _) ?_|simp|((first|apply bI|apply bK|apply bJ)<;>intro h<;>try simp at h))<;>(try exact cm));simp[bz,zQ,aV,aY,aT];rw[rD ab];simp[ek];split<;>(try split)<;>omega
theorem GK(a:T):∀b:T,b7 az 229 [a.e,b.e] (.int .i64 (ei a b)):=by
 induction a with
 |pair x y oV rr=>
  refine Wr _ fun z bf=>?_;simp at bf;rcases bf with rfl|rfl
  ·exact oV
  ·exact rr
 |_=>exact Wr _ fun x ad=>by simp at ad
theorem Wv(a b:T):b7 az 167 [a.e,b.e] (.bool (decide (a=b))):=by refine bE Ab aaF ag3 fun aU=>?_;unfold OY;simp;(with_reducible repeat' first|refine aj ?_|refine aC (GK _ _) ?_|refine aD (GK _ _) ?_|simp);simp[bz,U7,aV,aY,aT];have:=qx a b;by_cases h:ei a b=0<;>simp_all
theorem aj7{s t:List al}(af:en s)(aN:en t):b7 az 177 [.slice 5 .no (s.map al.e),.slice 5 .no (t.map al.e)] (.slice 5 .no ((ds s t).map al.e)):=by
 have adK:=aN.len;generalize b4:ds s t=R;refine bE GF aaP ahd fun aU=>?_;unfold O8;simp;refine ir (α:=List al) (fun i out=>⟨[(0,.slice 5 .no (s.map al.e)),(11,.slice 5 .no (t.map al.e)),(12,.int .i64 t.length),(5,.slice 5 (.own (.loc 0)) (out.map al.e)),(13,.int .i64 i)],[],[(.loc 0,⟨out.length,61,5,none⟩)],1,[]⟩) t.length (qs s t) [] cu (by simp[qs,ds]) (fun out ag _=>?_) (fun i out hi ag _=>?_)
 ·rw[qs,ha (e1 _),b4]at ag;rw[←ag];exact cZ
 ·obtain⟨b,aJ,gk⟩:=fE hi;have yT:out.length≤1000000:=by
   have:out.length≤(t.take i).length:=by rw[ag];exact List.length_filter_le _ _
   simp at this;omega
  have h1:=uH s b.v af.len;cases ae:c0 s b.v with
  |none=>
   have ar:qs s t (i+1) (out++[b]):=by rw[qs,oi aJ,ds,List.filter_append,ag];simp[ds,ae]
   rw[ae]at h1;simp only[jj,jl]at h1;clear ag aJ ae;simp[hi,gk];(with_reducible repeat' first|refine aj ?_|refine aC h1 ?_|refine aD h1 ?_|simp[gk,hi]);all_goals first|(refine⟨by unfold lim;omega,?_⟩)|skip
   (with_reducible repeat' first|refine aj ?_|simp);refine bT.rng (out++[b]) hi ar ?_;simp;exact⟨by simp[fresh,aO,aF,cl,inObs,Pv.look,iT],eF (by simp[fresh,aO,aF,cl,inObs,Pv.look,iT]),eG (by simp[fresh,aO,aF,eb,inObs,Pv.look,iT]),by simp⟩
  |some x=>
   have ar:qs s t (i+1) out:=by rw[qs,oi aJ,ds,List.filter_append,ag];simp[ds,ae]
   rw[ae]at h1;simp only[jk,oy]at h1;clear ag aJ ae;simp[hi,gk];(with_reducible repeat' first|refine aj ?_|refine aC h1 ?_|refine aD h1 ?_|simp[gk,hi]);refine bT.rng out hi ar ?_;exact cu
theorem ajR{s t:List al}(af:en s)(aN:en t):b7 az 269 [.slice 5 .no (s.map al.e),.slice 5 .no (t.map al.e)] (.bool (ls s t)):=by
 have pB:=af.len;generalize b4:ls s t=R;have dC:=WH af;have dN:=WH aN;refine bE GF aar agP fun aU=>?_;unfold OK;simp;(with_reducible repeat' first|refine aj ?_|refine aC dC ?_|refine aD dC ?_|refine aC dN ?_|refine aD dN ?_|simp);refine gh [1,19,20] (fun i (_:Unit)=>[(21,.int .i64 i)]) s.length (qq (qv t) s) () cu (fun k b ab=>by omega) (fun _ ag _=>?_) (fun i _ hi ag _=>?_)
 ·have:R=true:=by rw[←b4,ls,jD];intro b ae;obtain⟨k,ab,e⟩:=ov ae;exact ag k b ab (by rw[cv ab,e])
  rw[this];exact cZ
 ·obtain⟨b,aJ,gk⟩:=fE hi;have hN:qv t b=false→R=false:=fun h=>by rw[←b4,Bool.eq_false_iff];intro cA;rw[ls,jD]at cA;rw[cA b (gb aJ)]at h;cases h
  have aR:=C2 t aN.len (.var b.v);have be:=C2 t aN.len b.t;have w4:=CP aN b.v;have EW:((T.var b.v).ap (bP t)).size≤5000:=w4;rw[lA EW]at aR;rw[show(T.var b.v).ap (bP t)=bP t b.v from rfl]at aR;by_cases bf:(b.t.ap (bP t)).size≤5000
  ·rw[lA bf]at be;by_cases he:bP t b.v=b.t.ap (bP t)
   ·have ar:=ag.step aJ (by simp[qv,he]);have gN:=Wv (bP t b.v) (b.t.ap (bP t));rw[lA he]at gN;clear ag aJ;simp[hi,gk];(with_reducible repeat' first|refine aj ?_|refine aC (j3 _) ?_|refine aD (j3 _) ?_|refine aC aR ?_|refine aD aR ?_|refine aC be ?_|refine aD be ?_|refine aC gN ?_|refine aD gN ?_|simp[gk,hi]);exact bT.rng () hi ar cu
   ·rw[hN (by simp[qv,he])];have gN:=Wv (bP t b.v) (b.t.ap (bP t));rw[lS he]at gN;clear ag aJ;simp[hi,gk];(with_reducible repeat' first|refine aj ?_|refine aC (j3 _) ?_|refine aD (j3 _) ?_|refine aC aR ?_|refine aD aR ?_|refine aC be ?_|refine aD be ?_|refine aC gN ?_|refine aD gN ?_|simp[gk,hi]);simp[bz,Lh,aV,aY,aT]
  ·rw[lS bf]at be;rw[hN (by simp only[qv,j4];intro e;rw[←e]at bf;exact bf w4)];clear ag aJ;simp[hi,gk];(with_reducible repeat' first|refine aj ?_|refine aC (j3 _) ?_|refine aD (j3 _) ?_|refine aC aR ?_|refine aD aR ?_|refine aC be ?_|refine aD be ?_|simp[gk,hi]);simp[bz,Lh,aV,aY,aT]
theorem aj9(d e:List al):b7 az 180 [.slice 5 .no (d.map al.e),.slice 5 .no (e.map al.e)] (.int .i64 (eM d e)):=by
 generalize b4:eM d e=R;refine bE GF aaQ ahe fun aU=>?_;unfold O9;have aK:d.length≤68719476736:=by simp[h9,ho,hV,lim]at aU;omega
 have he:e.length≤68719476736:=by simp[h9,ho,hV,lim]at aU;omega
 simp;refine uU [0,1] (fun(i:Nat)=>[(5,.int .i64 i)]) (fun i=>d.length-i) (JR d e) 0 cu ⟨by omega,by omega,by simp⟩ (fun i ag _=>?_);obtain⟨J,U,ao⟩:=ag;rw[b4]at ao;by_cases hi:i<d.length
 ·by_cases hj:i<e.length
  ·obtain⟨x,ad⟩:∃x,d[i]? =some x:=⟨_,cv hi⟩;obtain⟨y,aG⟩:∃y,e[i]? =some y:=⟨_,cv hj⟩;have di:∀h,(d[i]'h)=x:=fun h=>by rw[cv hi]at ad;exact fP ad
   have gl:∀h,(e[i]'h)=y:=fun h=>by rw[cv hj]at aG;exact fP aG
   have yH:d.drop i=x::d.drop (i+1):=by rw[kN hi,di]
   have yI:e.drop i=y::e.drop (i+1):=by rw[kN hj,gl]
   rw[yH,yI]at ao;rw[Ub]at ao;by_cases a1:x.v=y.v
   ·have rF:ek x.v y.v=0:=(j1.zero _ _).2 a1;have uk:(x.v !=y.v)=false:=by simp[a1]
    rw[if_pos rF]at ao;by_cases bt:ei x.t y.t=0
    ·rw[if_pos bt]at ao;have ar:JR d e (i+1):=⟨by omega,by omega,by rw[b4];exact ao⟩;have hO:=GK x.t y.t;rw[bt]at hO;clear yH yI ad aG ao rF;simp[hi,hj,di,gl];((with_reducible repeat' first|refine aj ?_|refine aC hO ?_|refine aD hO ?_|simp[di,gl,hi,hj,a1,uk]|((first|apply bI|apply bK|apply bJ)<;>intro h<;>try simp at h))<;>(try exact cm));all_goals exact bT.whl (i+1) (by omega) ar cu
    ·rw[if_neg bt]at ao;have hO:=GK x.t y.t;have xt:(ei x.t y.t !=0)=true:=by simp[bt]
     clear yH yI ad aG rF;simp[hi,hj,di,gl];(with_reducible repeat' first|refine aj ?_|refine aC hO ?_|refine aD hO ?_|simp[di,gl,hi,hj,a1,uk,bt,xt]);all_goals simp[bz,Cx,aV,aY,aT]
     all_goals exact ao
   ·have rF:¬ek x.v y.v=0:=fun h=>a1 ((j1.zero _ _).1 h);have uk:(x.v !=y.v)=true:=by simp[a1]
    rw[if_neg rF]at ao;have c5:R=if decide (x.v<y.v)=true then-1 else 1:=by rw[←ao];unfold ek;simp only[fI];(repeat' split)<;>omega
    clear yH yI ad aG ao rF;rw[c5];simp[hi,hj,di,gl];(with_reducible repeat' first|refine aj ?_|refine aC (qE _) ?_|refine aD (qE _) ?_|simp[di,gl,hi,hj,a1,uk]);all_goals simp[bz,Cx,aV,aY,aT]
  ·have hle:e.length<d.length:=by omega
   have:(1:Int)=R:=by rw[←ao,eM,B0 _ _ _ (.inr (List.drop_eq_nil_of_le (by omega)))];simp only[rV];unfold ek;(repeat' split)<;>omega
   have cC:¬(d.length:Int)=e.length:=by omega
   have Jj:((d.length:Int) !=e.length)=true:=by simp;omega
   have jv:¬(d.length:Int)<e.length:=by omega
   have Bw:¬d.length<e.length:=by omega
   have adg:¬d.length=e.length:=by omega
   clear ao;rw[←this];simp[hi,hj];(with_reducible repeat' first|refine aj ?_|refine aC (qE _) ?_|refine aD (qE _) ?_|simp[hi,hj,cC,Jj,jv,Bw,adg]);all_goals simp[bz,Cx,aV,aY,aT]
   all_goals(try simp[Bw])
 ·have eQ:i=d.length:=by omega
  by_cases aq:d.length=e.length
  ·have:(0:Int)=R:=by rw[←ao,eM,B0 _ _ _ (.inl (List.drop_eq_nil_of_le (by omega)))];simp only[rV];unfold ek;(repeat' split)<;>omega
   clear ao;rw[←this];exact cZ
  ·have:(-1:Int)=R:=by rw[←ao,eM,B0 _ _ _ (.inl (List.drop_eq_nil_of_le (by omega)))];simp only[rV];unfold ek;(repeat' split)<;>omega
   have cC:¬(d.length:Int)=e.length:=by omega
   have Jj:((d.length:Int) !=e.length)=true:=by simp;omega
   have jv:(d.length:Int)<e.length:=by omega
   have Bw:d.length<e.length:=by omega
   clear ao;rw[←this];simp[hi];(with_reducible repeat' first|refine aj ?_|refine aC (qE _) ?_|refine aD (qE _) ?_|simp[hi,cC,Jj,jv,Bw,aq]);all_goals simp[bz,Cx,aV,aY,aT]
   all_goals(try simp[Bw])
theorem Px(a:List (List al))(k:Nat)(m:List al):ox k (a.map cz)++cz m::List.drop k (a.map cz)=(a.take k++m::a.drop k).map cz:=by simp
theorem p9(a:List (List al))(k:Nat)(m:List al):df (ox k (a.map cz)++cz m::List.drop k (a.map cz))=ox k (a.map cz)++cz m::List.drop k (a.map cz):=by rw[Px,L9]
theorem p8(S:aH→Prop)(a:List (List al))(k:Nat)(m:List al):aO S (ox k (a.map cz)++cz m::List.drop k (a.map cz))=True:=by rw[Px,S0]
theorem DW(a:List (List al))(m:List al):a.map cz++[cz m]=(a++[m]).map cz:=by simp
theorem oG(a:List (List al))(m:List al):df (a.map cz++[cz m])=a.map cz++[cz m]:=by rw[DW,L9]
theorem p7(S:aH→Prop)(a:List (List al))(m:List al):aO S (a.map cz++[cz m])=True:=by rw[DW,S0]
theorem WB(L:List (List al))(hz:∀d∈L,en d):b7 az 220 [.slice 1 .no (L.map cz)] (.slice 1 .no ((iE L).map cz)):=by
 generalize b4:iE L=R;rw[afm]at b4;refine bE GF aaS ahg fun aU=>?_;unfold Pb;have ib:L.length≤68719476736:=by simp[h9,ho,hV,lim]at aU;omega
 simp;refine gh [0,12,13] (fun i (a:List (List al))=>[(3,.slice 1 .no (a.map cz)),(14,.int .i64 i)]) L.length (w8 L) [] cu (by simp[w8]) (fun a ag _=>?_) (fun i a hi ag _=>?_)
 ·rw[w8,mY,b4]at ag;subst ag;exact cZ
 ·obtain⟨e,he,I0⟩:=fE hi;have q3:hb eM a:=by rw[ag];exact Ku _ (by simp[hb])
  have pt:a.length≤i:=by have:=TC (L:=L) (L.take i) [];rw[ag];simp at this⊢;omega
  have fh:=ag.step he;have n1:=hz e (gb he);have be:∀d,b7 az 180 [cz d,cz e] (.int .i64 (eM d e)):=fun d=>aj9 d e;clear ag he;simp[hi,I0];(with_reducible repeat' first|refine aj ?_|simp[hi,I0]);refine gh [0,3,5,12,13,14,18,19] (fun j (b:Bool)=>[(6,.bool b),(20,.int .i64 j)]) L.length (pD L e) true cu (by simp[pD]) (fun keep ag _=>?_) (fun j keep dS ag _=>?_)
  ·rw[pD,mY]at ag;have Rz:keep=hP L e:=ag;rw[pO,←Rz]at fh;clear ag Rz;simp;(with_reducible repeat' first|refine aj ?_|simp);refine uU [0,3,5,6,12,13,14] (fun(k:Nat)=>[(9,.int .i64 k)]) (fun k=>k) (E5 a e) a.length cu ⟨by omega,fun c h=>by simp at h⟩ (fun k ag _=>?_);have ab:=ag.1;rcases Nat.eq_zero_or_pos k with bV|fq
   ·have bf:decide ((0:Int)<k)=false:=by simp;omega
    have rq:¬(0:Int)<k:=by omega
    have dK:=ag.fin q3 fun d h=>by omega
    clear ag q3;cases keep with
    |false=>simp only[gr,if_false]at fh;clear dK;exact ko
    |true=>
     simp only[if_true]at fh;by_cases gV:k<a.length
     ·obtain⟨c,av,iv⟩:=fE gV;rw[av]at dK;by_cases q:eM c e=0
      ·rw[if_pos (by simp[q])]at dK;rw[dK]at fh;clear dK av;simp[gV,iv,bf,rq];((with_reducible repeat' first|refine aj ?_|refine aC (be _) ?_|refine aD (be _) ?_|simp[gV,iv,q,bf,rq]|((first|apply bI|apply bK|apply bJ)<;>intro h<;>try simp at h))<;>(try exact cm));all_goals exact bT.rng a hi fh cu
      ·rw[if_neg (by simp[q])]at dK;have gm:(eM c e !=0)=true:=by simp[q]
       rw[dK]at fh;clear dK av;simp[gV,iv,bf,rq];((with_reducible repeat' first|refine aj ?_|refine aC (be _) ?_|refine aD (be _) ?_|simp[gV,iv,q,gm,bf,rq]|((first|apply bI|apply bK|apply bJ)<;>intro h<;>try simp at h))<;>(try exact cm));all_goals first|(refine⟨by unfold lim;omega,?_⟩)|skip
       all_goals(with_reducible repeat' first|refine aj ?_|simp)
       all_goals first|(refine⟨by unfold lim;omega,?_⟩)|skip
       all_goals((with_reducible repeat' first|refine aj ?_|simp|((first|apply bI|apply bK|apply bJ)<;>intro h<;>try simp at h))<;>(try exact cm))
       all_goals exact bT.rng _ hi fh ⟨by simp[fresh,aO,aF,cl,inObs,Pv.look,ha,p9,p8,oG,p7],eF (by simp[fresh,aO,aF,cl,inObs,Pv.look,ha,p9,p8,oG,p7]),eG (by simp[fresh,aO,aF,eb,inObs,Pv.look,ha,p9,p8,oG,p7]),by simp⟩
     ·rw[pW (by omega)]at dK;simp only[gr,if_false]at dK;rw[dK]at fh;have iy:k=a.length:=by omega
      have sk:a.take k++e::a.drop k=a++[e]:=by rw[iy];simp
      rw[sk]at fh;clear dK sk;simp[gV,bf,rq];((with_reducible repeat' first|refine aj ?_|refine aC (be _) ?_|refine aD (be _) ?_|simp[gV,iy,bf,rq]|((first|apply bI|apply bK|apply bJ)<;>intro h<;>try simp at h))<;>(try exact cm));all_goals first|(refine⟨by unfold lim;omega,?_⟩)|skip
      all_goals(with_reducible repeat' first|refine aj ?_|simp)
      all_goals first|(refine⟨by unfold lim;omega,?_⟩)|skip
      all_goals((with_reducible repeat' first|refine aj ?_|simp|((first|apply bI|apply bK|apply bJ)<;>intro h<;>try simp at h))<;>(try exact cm))
      all_goals exact bT.rng _ hi fh ⟨by simp[fresh,aO,aF,cl,inObs,Pv.look,ha,p9,p8,oG,p7],eF (by simp[fresh,aO,aF,cl,inObs,Pv.look,ha,p9,p8,oG,p7]),eG (by simp[fresh,aO,aF,eb,inObs,Pv.look,ha,p9,p8,oG,p7]),by simp⟩
   ·obtain⟨d,aK⟩:∃d,a[k-1]? =some d:=⟨_,cv (by omega)⟩;have ak:((k:Int)-1).toNat=k-1:=by omega
    have aA:∀h,(a[k-1]'h)=d:=fun h=>by rw[cv h]at aK;exact fP aK
    have iA:(0:Int)<k:=by omega
    have lI:k-1<a.length:=by omega
    by_cases ae:0≤eM d e
    ·have af:E5 a e (k-1):=⟨by omega,fun c av=>by rw[aK]at av;cases av;exact ae⟩;clear ag q3 fh aK;simp[fq,iA,ak,aA,ae,lI];((with_reducible repeat' first|refine aj ?_|refine aC (be _) ?_|refine aD (be _) ?_|simp[fq,iA,ak,aA,ae,lI]|((first|apply bI|apply bK|apply bJ)<;>intro h<;>try simp at h))<;>(try exact cm));refine bT.whl (k-1) (by omega) af ?_;have bs:((k-1:Nat):Int)=(k:Int)-1:=by omega
     simp[bs];exact cu
    ·have dK:=ag.fin q3 fun cj _ kU=>by rw[aK]at kU;cases kU;omega
     clear ag q3 aK;cases keep with
     |false=>simp only[gr,if_false]at fh;clear dK;simp[fq,iA,ak,aA,ae,lI];(with_reducible repeat' first|refine aj ?_|refine aC (be _) ?_|refine aD (be _) ?_|simp[fq,iA,ak,aA,ae,lI]);all_goals exact bT.rng a hi fh cu
     |true=>
      simp only[if_true]at fh;by_cases gV:k<a.length
      ·obtain⟨c,av,iv⟩:=fE gV;rw[av]at dK;by_cases q:eM c e=0
       ·rw[if_pos (by simp[q])]at dK;rw[dK]at fh;clear dK av;simp[gV,iv,fq,iA,ak,aA,ae,lI];((with_reducible repeat' first|refine aj ?_|refine aC (be _) ?_|refine aD (be _) ?_|simp[gV,iv,q,fq,iA,ak,aA,ae,lI]|((first|apply bI|apply bK|apply bJ)<;>intro h<;>try simp at h))<;>(try exact cm));all_goals exact bT.rng a hi fh cu
       ·rw[if_neg (by simp[q])]at dK;have gm:(eM c e !=0)=true:=by simp[q]
        rw[dK]at fh;clear dK av;simp[gV,iv,fq,iA,ak,aA,ae,lI];((with_reducible repeat' first|refine aj ?_|refine aC (be _) ?_|refine aD (be _) ?_|simp[gV,iv,q,gm,fq,iA,ak,aA,ae,lI]|((first|apply bI|apply bK|apply bJ)<;>intro h<;>try simp at h))<;>(try exact cm));all_goals first|(refine⟨by unfold lim;omega,?_⟩)|skip
        all_goals(with_reducible repeat' first|refine aj ?_|simp)
        all_goals first|(refine⟨by unfold lim;omega,?_⟩)|skip
        all_goals((with_reducible repeat' first|refine aj ?_|simp|((first|apply bI|apply bK|apply bJ)<;>intro h<;>try simp at h))<;>(try exact cm))
        all_goals exact bT.rng _ hi fh ⟨by simp[fresh,aO,aF,cl,inObs,Pv.look,ha,p9,p8,oG,p7],eF (by simp[fresh,aO,aF,cl,inObs,Pv.look,ha,p9,p8,oG,p7]),eG (by simp[fresh,aO,aF,eb,inObs,Pv.look,ha,p9,p8,oG,p7]),by simp⟩
      ·rw[pW (by omega)]at dK;simp only[gr,if_false]at dK;rw[dK]at fh;have iy:k=a.length:=by omega
       have sk:a.take k++e::a.drop k=a++[e]:=by rw[iy];simp
       rw[sk]at fh;clear dK sk;simp[gV,fq,iA,ak,aA,ae,lI];((with_reducible repeat' first|refine aj ?_|refine aC (be _) ?_|refine aD (be _) ?_|simp[gV,iy,fq,iA,ak,aA,ae,lI]|((first|apply bI|apply bK|apply bJ)<;>intro h<;>try simp at h))<;>(try exact cm));all_goals first|(refine⟨by unfold lim;omega,?_⟩)|skip
       all_goals(with_reducible repeat' first|refine aj ?_|simp)
       all_goals first|(refine⟨by unfold lim;omega,?_⟩)|skip
       all_goals(with_reducible repeat' first|refine aj ?_|simp)
       all_goals exact bT.rng _ hi fh ⟨by simp[fresh,aO,aF,cl,inObs,Pv.look,ha,p9,p8,oG,p7],eF (by simp[fresh,aO,aF,cl,inObs,Pv.look,ha,p9,p8,oG,p7]),eG (by simp[fresh,aO,aF,eb,inObs,Pv.look,ha,p9,p8,oG,p7]),by simp⟩
  ·obtain⟨d,aK,hdi⟩:=fE dS;have ar:=ag.step aK;have ki:=hz d (gb aK);have eh:b7 az 269 [cz d,cz e] (.bool (ls d e)):=ajR ki n1;clear ag aK fh q3;cases keep with
   |false=>simp only[Bool.false_and]at ar;exact ko
   |true=>
    simp only[Bool.true_and,vq]at ar;by_cases q:eM d e=0
    ·rw[lA ((mN.zero _ _).1 q),Bool.true_or]at ar;simp[dS,hdi];(with_reducible repeat' first|refine aj ?_|refine aC (be _) ?_|refine aD (be _) ?_|simp[dS,hdi,q]);all_goals exact bT.rng true dS ar cu
    ·rw[lS (fun h=>q ((mN.zero _ _).2 h)),Bool.false_or]at ar;have gm:(eM d e==0)=false:=by simp[q]
     cases aS:ls d e
     ·rw[aS]at ar eh;simp[dS,hdi];(with_reducible repeat' first|refine aj ?_|refine aC (be _) ?_|refine aD (be _) ?_|refine aC eh ?_|refine aD eh ?_|simp[dS,hdi,q,gm]);all_goals exact bT.rng true dS ar cu
     ·rw[aS]at ar eh;simp[dS,hdi];(with_reducible repeat' first|refine aj ?_|refine aC (be _) ?_|refine aD (be _) ?_|refine aC eh ?_|refine aD eh ?_|simp[dS,hdi,q,gm]);all_goals exact bT.rng false dS ar cu
@[simp] def aoI:List bu:=[.tmp 2]
@[simp] def aoO:List bu:=[.tmp 4]
def DQ:C:=(aa [cW 1 0,cU 2 e7,bH 3 false] (aa [aP 20 1 1 1,aB 21 1 20,aP 22 3 1 1,aB 23 1 22,cw 24 217 21 23,I 19 24,cq 25 0 19,cq 26 1 19,I 4 25,I 5 26] (aa [aP 28 1 1 1,aB 29 1 28,aP 30 4 1 1,aB 31 1 30,cw 32 218 29 31,I 27 32,cq 33 0 27,cq 34 1 27,I 6 33,I 7 34] (.seq (aa [I 35 5,cI 36 35,I 37 36,bU 37 false 38 7,aw 37 false (cI 39 38),dj 40 37 39] (a8 40 (aa [gB 41 e7 [],bG 5 2 41,bH 3 false] .ret) .skip)) (aa [aP 42 0 1 1,aB 43 1 42,aP 44 1 1 1,aB 45 1 44,I 46 4,gB 47 e7 [(0,1,(.t 43)),(1,1,(.t 45)),(3,1,(.t 46))],cU 8 e7,bG 5 8 47] (.seq (aa [I 48 6,cS 49 48,cr 50 0] (fY 51 50 49 (.seq (.block 1 (aa [cN 52 2 48 50,ba 53 2 52,c4 (.alloc 10 none (.agg [.int .i64 0,.str []])),bG 2 10 53] (aa [I 55 4,aP 56 0 1 10,aB 57 1 56,cL 58 91 57,cX 59 178 [.t 55,.t 58,(et 2)],I 54 59,cq 60 0 54,cq 61 1 54,I 11 60,I 12 61] (aa [I 62 12] (a8 62 (.region [aP 63 4 1 8,aB 64 1 63,ba 65 2 10,dR 66 2 106 [.t 65],gC 67 2 106 64 66,aP 68 4 1 8,bG 1 68 67]) .skip))))) (.region [aW 69 .add 50 1,I 50 69])))) (aa [dR 70 1 23 [],I 13 70] (.seq (aa [aP 71 2 1 1,aB 72 1 71,cS 73 72,cr 74 0] (.block 2 (.loop (aa [bA 75 .lss 74 73] (.seq (a8 75 .skip (.exit 2)) (.seq (.block 3 (aa [cN 76 1 72 74,aB 77 1 76,I 15 77] (aa [aP 79 1 1 1,aB 80 1 79,I 81 15,cw 82 219 80 81,I 78 82,cq 83 0 78,cq 84 1 78,I 16 83,I 17 84] (.seq (aa [I 85 17] (a8 85 (aa [I 87 16,aP 88 3 1 8,aB 89 1 88,cw 90 217 87 89,I 86 90,cq 91 0 86,cq 92 1 86,I 5 92] (.region [I 94 16,aP 95 4 1 8,aB 96 1 95,cw 97 218 94 96,I 93 97,cq 98 0 93,cq 99 1 93,I 7 99])) .skip)) (.seq (aa [I 100 17,cI 101 100,I 102 101,bU 102 false 103 5,aw 102 false (cI 104 103),dj 105 102 104,I 106 105,bU 106 false 107 7,aw 106 false (cI 108 107),dj 109 106 108] (a8 109 (aa [bH 5 true] (aa [bH 7 true] (.exit 3))) .skip)) (aa [aP 110 1 1 1,aB 111 1 110,I 112 16,cw 113 177 111 112,I 18 113] (.seq (aa [I 114 18,cS 115 114,aW 116 .eql 115 0] (a8 116 (aa [gB 117 e7 [],bG 5 2 117,bH 3 false] .ret) .skip)) (.region [I 118 13,I 119 18,dR 120 1 23 [.t 119],gC 121 1 23 118 120,I 13 121])))))))) (.region [aW 122 .add 74 1,I 74 122]))))))) (aa [I 123 13,cL 124 220 123,aP 125 2 1 8,bG 1 125 124] (.seq (.fz true 8 (.drawn true 131 [bX 126 (.loadZ true 5 (.t 8)),aP 127 2 1 8,bX 128 (.loadZ false 1 (.t 127)),cS 129 128,aW 130 .leq 129 30,bG 5 2 126,I 3 130])) .ret))))))))))
@[simp] def ur:List bu:=[.cell 2 true 5,.tmp 3]
def V1:List (Nat×du):=[
 (3,⟨1,8,.int .i64,.int .i64 0⟩),
 (9,⟨1,16,.str,.str []⟩),
 (23,⟨1,24,.slice 61,.slice 5 .nil []⟩),
 (24,⟨1,24,.slice 23,.slice 1 .nil []⟩),
 (25,⟨1,24,.slice 104,.slice 2 .nil []⟩),
 (26,⟨1,24,.slice 106,.slice 2 .nil []⟩),
 (28,⟨5,104,.struct [(0,3),(1,23),(2,24),(3,25),(4,26)],.agg [.int .i64 0,.slice 5 .nil [],.slice 1 .nil [],.slice 2 .nil [],.slice 2 .nil []]⟩),
 (104,⟨2,16,.struct [(0,3),(1,3)],.agg [.int .i64 0,.int .i64 0]⟩),
 (106,⟨2,24,.struct [(0,3),(1,9)],.agg [.int .i64 0,.str []]⟩)]
theorem Mk:fA az V1=true:=by kernel_rfl
theorem KT:cc V1 DQ ur 1 Tryz.f147=true:=by kernel_rfl
theorem Is:az.funcs[(147:Nat)]? =some Tryz.f147:=Tryz.func147
noncomputable def oe(s:bM):ai:= .tuple [(sR s).e,.bool (eU s).isSome]
@[simp] theorem anh(S:aH→Prop)(s:bM):aF S (oe s)=True:=by simp[oe,aF,aO]
theorem akb{k:List b6}(ab:jH k)(v:Int):b7 az 178 [.slice 2 .no (k.map b6.e),(T.var v).e,.int .i64 2] (mP k (iq k (.var v) 2)):=Mu k (by have:=oX ab;omega) ab.asc (.var v) 2
theorem Mr{b y:List al}(ae:en b)(aG:en y):b7 az 177 [.slice 5 .no (b.map al.e),.slice 5 .no (y.map al.e)] (cz (ds b y)):=aj7 ae aG
theorem WA{b x:List al}(ae:en b)(ad:en x):b7 az 219 [.slice 5 .no (b.map al.e),cz x] (eZ (mgu b (fN x))):=aj6 b x ae.sol ae.fits ad.len
def Kh(a:List bk):ai:=match a with
 |[]=>.slice 2 .nil []
 |_::_=>.slice 2 (.own (.loc 5)) (a.map bk.e)
def Kg(a:List bk):List (aH×fv):=match a with
 |[]=>[]
 |_::_=>[(.loc 5,⟨a.length,106,2,none⟩)]
def Kf(a:List bk):Nat:=match a with
 |[]=>3
 |_::_=>6
@[simp] theorem anG:Kh []= .slice 2 .nil []:=rfl
@[simp] theorem anF(x:bk)(a:List bk):Kh (x::a)= .slice 2 (.own (.loc 5)) (x.e::a.map bk.e):=rfl
@[simp] theorem anE:Kg []=[]:=rfl
@[simp] theorem anD(x:bk)(a:List bk):Kg (x::a)=[(.loc 5,⟨a.length+1,106,2,none⟩)]:=rfl
@[simp] theorem anC:Kf []=3:=rfl
@[simp] theorem anB(x:bk)(a:List bk):Kf (x::a)=6:=rfl
set_option maxRecDepth 4000 in
theorem C3{s:bM}(h:h2 s){G:List (List cV)}(hd:G.length≤687000)(aS:kH G s.m):b7 az 147 [s.e] (oe s):=by
 unfold oe;generalize de:eU s=O;generalize c5:sR s=SS;have kk:=Mv h.b h.k;have kl:=Mw h.b h.m hd aS;have jZ:=fun k=>F5 (acc:=[]) (a:=k) h.b h.k.at' ⟨by simp,by simp⟩;have pP:=fun m=>Cy (acc:=[]) (a:=m) h.b h.m.at' ⟨by simp,by simp[hb]⟩;have mw:=fun m=>Cz (acc:=[]) (a:=m) (s:=s.b) aS (fun x ad=>by simp at ad);have ae:=h.b;have aK:=h.d;clear h aS;unfold eU at de;unfold sR at c5;obtain⟨n,b,d,gF,m0⟩:=s;simp only at kk kl jZ pP mw ae aK de c5;have fp:=ae.len;simp only[bM.e];generalize fF b gF []=ok at kk de c5 jZ;generalize fx b m0 []=om at kl de c5 pP mw;cases ok with
 |none=>
  simp only at de c5;subst de;subst c5;simp only[fy]at kk;simp only[hF]at kl;clear jZ pP mw;refine bE Mk Is KT fun aU=>?_;unfold DQ;simp;(with_reducible repeat' first|refine aj ?_|refine aC kk ?_|refine aD kk ?_|refine aC kl ?_|refine aD kl ?_|simp);all_goals simp[bz,ur,aV,aY,aT]
  all_goals simp[fO,bM.e]
 |some k=>
  simp only at de c5;cases om with
  |none=>
   simp only at de c5;subst de;subst c5;simp only[fy]at kk;simp only[hF]at kl;clear jZ pP mw;refine bE Mk Is KT fun aU=>?_;unfold DQ;simp;(with_reducible repeat' first|refine aj ?_|refine aC kk ?_|refine aD kk ?_|refine aC kl ?_|refine aD kl ?_|simp);all_goals simp[bz,ur,aV,aY,aT]
   all_goals simp[fO,bM.e]
  |some m=>
   simp only at de c5;have u5:=jZ k rfl;have wX:=pP m rfl;have wR:=mw m rfl;have mD:m.length≤68719470000:=by have:=B6 wX wR;omega
   have yQ:=Tk (k:=k) wX;have yJ:=GA (k:=k) wR;simp only[fy,jk,oy]at kk;simp only[hF,jk,oy]at kl;clear jZ pP mw;refine bE Mk Is KT fun aU=>?_;unfold DQ;have Ri:d.length≤68719476736:=by simp[h9,ho,hV,lim]at aU;omega
   clear aU;simp;(with_reducible repeat' first|refine aj ?_|refine aC kk ?_|refine aD kk ?_|refine aC kl ?_|refine aD kl ?_|simp);refine ir (fun i (a:List bk)=>⟨[(1,.ptr (.loc 0) 0),(2,.ptr (.loc 1) 0),(4,.slice 2 .no (k.map b6.e)),(8,.ptr (.loc 2) 0),(48,.slice 2 .no (m.map bk.e)),(49,.int .i64 m.length),(50,.int .i64 i)],[(.loc 0,[.int .i64 n,.slice 5 .no (b.map al.e),.slice 1 .no (d.map cz),.slice 2 .no (gF.map b6.e),.slice 2 .no (m0.map bk.e)]),(.loc 1,[.int .i64 0,.slice 5 .nil [],.slice 1 .nil [],.slice 2 .nil [],.slice 2 .nil []]),(.loc 2,[.int .i64 n,.slice 5 .no (b.map al.e),.slice 1 .nil [],.slice 2 .no (k.map b6.e),Kh a])],Kg a,Kf a,[]⟩) m.length (sw k m) [] cu (by simp[sw]) (fun a ag _=>?_) (fun i a hi ag _=>?_);rotate_left
   ·obtain⟨x,ad,di⟩:=fE hi;have pt:a.length≤68719470000:=by
     have:a.length≤(m.take i).length:=by rw[ag];exact List.length_filter_le _ _
     simp at this;omega
    have ar:=ag.step ad;have lq:=akb u5 x.v;have bn:(iq k (.var x.v) 2).isSome=jf k x:=Xr u5 x.v;simp only[mP,bn]at lq;clear bn;generalize (iq k (.var x.v) 2).getD k=kz at lq;cases aQ:jf k x
    ·rw[aQ]at ar lq;simp only[gr,if_false]at ar;clear ag ad aQ;cases a with
     |nil=>simp[hi,di];(with_reducible repeat' first|refine aj ?_|refine aC (j3 _) ?_|refine aD (j3 _) ?_|refine aC lq ?_|refine aD lq ?_|simp[hi,di]);all_goals exact bT.rng [] hi ar cu
     |cons y ys=>simp[hi,di];(with_reducible repeat' first|refine aj ?_|refine aC (j3 _) ?_|refine aD (j3 _) ?_|refine aC lq ?_|refine aD lq ?_|simp[hi,di]);all_goals exact bT.rng (y::ys) hi ar cu
    ·rw[aQ]at ar lq;simp only[if_true]at ar;clear ag ad aQ;cases a with
     |nil=>
      simp[hi,di];(with_reducible repeat' first|refine aj ?_|refine aC (j3 _) ?_|refine aD (j3 _) ?_|refine aC lq ?_|refine aD lq ?_|simp[hi,di]);all_goals first|(refine⟨by unfold lim;omega,?_⟩)|skip
      all_goals(with_reducible repeat' first|refine aj ?_|simp)
      all_goals exact bT.rng [x] hi ar cu
     |cons y ys=>
      simp only[nB]at pt;simp[hi,di];(with_reducible repeat' first|refine aj ?_|refine aC (j3 _) ?_|refine aD (j3 _) ?_|refine aC lq ?_|refine aD lq ?_|simp[hi,di]);all_goals first|(refine⟨by unfold lim;omega,?_⟩)|skip
      all_goals(with_reducible repeat' first|refine aj ?_|simp)
      all_goals exact bT.rng (y::ys++[x]) hi ar ⟨by simp[fresh,aO,aF,cl,inObs,Pv.look,zg],eF (by simp[fresh,aO,aF,cl,inObs,Pv.look,zg]),eG (by simp[fresh,aO,aF,eb,inObs,Pv.look,zg]),by simp⟩
   rw[sw,mY]at ag;rw[←ag]at yQ yJ de c5;clear ag wX wR;cases a with
   |nil=>
    simp;(with_reducible repeat' first|refine aj ?_|simp);refine ir (fun i (L:List (List al))=>⟨[(1,.ptr (.loc 0) 0),(2,.ptr (.loc 1) 0),(8,.ptr (.loc 2) 0),(13,.slice 1 (.own (.loc 3)) (L.map cz)),(72,.slice 1 .no (d.map cz)),(73,.int .i64 d.length),(74,.int .i64 i)],[(.loc 0,[.int .i64 n,.slice 5 .no (b.map al.e),.slice 1 .no (d.map cz),.slice 2 .no (gF.map b6.e),.slice 2 .no (m0.map bk.e)]),(.loc 1,[.int .i64 0,.slice 5 .nil [],.slice 1 .nil [],.slice 2 .nil [],.slice 2 .nil []]),(.loc 2,[.int .i64 n,.slice 5 .no (b.map al.e),.slice 1 .nil [],.slice 2 .no (k.map b6.e),.slice 2 .nil []])],[(.loc 3,⟨L.length,23,1,none⟩)],3+1,[]⟩) d.length (pE b k [] d) [] cu ⟨by simp,by simp,by simp⟩ (fun L ag _=>?_) (fun i L hi ag _=>?_)
    ·have hz:=ag.fin;have uZ:=ag.2.1;rw[hz]at de c5;simp only at de c5;have h0:=WB L uZ;clear ag hz uZ;generalize iE L=M at h0 de c5;subst c5;by_cases k9:M.length≤30
     ·have nP:(M.length:Int)≤30:=by omega
      rw[if_pos k9]at de;subst de;simp;(with_reducible repeat' first|refine aj ?_|refine aC h0 ?_|refine aD h0 ?_|simp[k9,nP]);all_goals simp[bz,ur,aV,aY,aT]
      all_goals try simp[bM.e,k9,nP]
      all_goals first|exact⟨_,rfl,rfl⟩|skip
     ·have nP:¬(M.length:Int)≤30:=by omega
      rw[if_neg k9]at de;subst de;simp;(with_reducible repeat' first|refine aj ?_|refine aC h0 ?_|refine aD h0 ?_|simp[k9,nP]);all_goals simp[bz,ur,aV,aY,aT]
      all_goals try simp[bM.e,k9,nP]
      all_goals first|exact⟨_,rfl,rfl⟩|skip
    ·obtain⟨x,ad,di⟩:=fE hi;have gL:=aK x (gb ad);have QW:=ag.1;have hC:=WA ae gL;simp only[eZ]at hC;cases hu:mgu b (fN x)with
     |none=>have ar:=ag.skip ad fun r=>J8 hu;rw[hu]at hC;simp only[jj,jl]at hC;clear ag ad de c5;exact ko
     |some y=>
      have hZ:=ae.mgu (AS gL) hu;rw[hu]at hC;simp only[jk,oy]at hC;have cY:=Mv hZ u5;have eh:=Mw hZ yQ hd yJ;have hD:=Mr ae hZ;simp only[fy]at cY;simp only[hF,mj,gI]at eh;by_cases jt:fF y k []=none∨fx y [] []=none
      ·have ar:=ag.skip ad fun r=>Fi hu jt;clear ag ad de c5 hu hD;rcases jt with e|e
       ·rw[e]at cY;simp only[jj,jl]at cY;exact ko
       ·rw[e]at eh;simp only[jj,jl]at eh;generalize (fF y k []).isSome=a1 at cY;cases a1
        ·exact ko
        ·exact ko
      ·have ak:(fF y k []).isSome=true:=by cases e:fF y k []with|none=>exact absurd (.inl e) jt|some _=>rfl
       have aA:(fx y [] []).isSome=true:=by cases e:fx y [] []with|none=>exact absurd (.inr e) jt|some _=>rfl
       rw[ak]at cY;rw[aA]at eh;by_cases cC:ds b y=[]
       ·have af:=ag.stop ad fun r=>J7 hu jt cC;rw[af]at de c5;simp only at de c5;subst de;subst c5;rw[cC]at hD;simp only[cz,mj]at hD;clear ag ad hu jt;simp[hi,di];(with_reducible repeat' first|refine aj ?_|refine aC hC ?_|refine aD hC ?_|refine aC cY ?_|refine aD cY ?_|refine aC eh ?_|refine aD eh ?_|refine aC hD ?_|refine aD hD ?_|simp[hi,di]);all_goals simp[bz,ur,aV,aY,aT]
        all_goals try simp[fO,bM.e]
       ·have ar:=ag.snoc ad (Cd (b:=b) hZ) fun r=>Fj hu jt cC;have u6:¬((ds b y).length:Int)=0:=by have:(ds b y).length≠0:=fun h=>cC (List.length_eq_zero_iff.1 h);omega
        have u7:(((ds b y).length:Int)==0)=false:=by simp[cC]
        clear ag ad hu jt de c5;generalize ds b y=z at hD ar u6 u7 cC;simp only[cz]at hD;simp[hi,di];(with_reducible repeat' first|refine aj ?_|refine aC hC ?_|refine aD hC ?_|refine aC cY ?_|refine aD cY ?_|refine aC eh ?_|refine aD eh ?_|refine aC hD ?_|refine aD hD ?_|simp[hi,di,u6,u7,cC]);all_goals first|(refine⟨by unfold lim;omega,?_⟩)|skip
        all_goals(with_reducible repeat' first|refine aj ?_|simp)
        all_goals exact bT.rng (L++[z]) hi ar ⟨by simp[fresh,aO,aF,cl,inObs,Pv.look,sB,cz],eF (by simp[fresh,aO,aF,cl,inObs,Pv.look,sB,cz]),eG (by simp[fresh,aO,aF,eb,inObs,Pv.look,sB,cz]),by simp⟩
   |cons Da Db=>
    simp;(with_reducible repeat' first|refine aj ?_|simp);refine ir (fun i (L:List (List al))=>⟨[(1,.ptr (.loc 0) 0),(2,.ptr (.loc 1) 0),(8,.ptr (.loc 2) 0),(13,.slice 1 (.own (.loc 6)) (L.map cz)),(72,.slice 1 .no (d.map cz)),(73,.int .i64 d.length),(74,.int .i64 i)],[(.loc 0,[.int .i64 n,.slice 5 .no (b.map al.e),.slice 1 .no (d.map cz),.slice 2 .no (gF.map b6.e),.slice 2 .no (m0.map bk.e)]),(.loc 1,[.int .i64 0,.slice 5 .nil [],.slice 1 .nil [],.slice 2 .nil [],.slice 2 .nil []]),(.loc 2,[.int .i64 n,.slice 5 .no (b.map al.e),.slice 1 .nil [],.slice 2 .no (k.map b6.e),.slice 2 (.own (.loc 5)) (Da.e::Db.map bk.e)])],[(.loc 6,⟨L.length,23,1,none⟩)],6+1,[]⟩) d.length (pE b k (Da::Db) d) [] cu ⟨by simp,by simp,by simp⟩ (fun L ag _=>?_) (fun i L hi ag _=>?_)
    ·have hz:=ag.fin;have uZ:=ag.2.1;rw[hz]at de c5;simp only at de c5;have h0:=WB L uZ;clear ag hz uZ;generalize iE L=M at h0 de c5;subst c5;by_cases k9:M.length≤30
     ·have nP:(M.length:Int)≤30:=by omega
      rw[if_pos k9]at de;subst de;simp;(with_reducible repeat' first|refine aj ?_|refine aC h0 ?_|refine aD h0 ?_|simp[k9,nP]);all_goals simp[bz,ur,aV,aY,aT]
      all_goals try simp[bM.e,k9,nP]
      all_goals first|exact⟨_,rfl,rfl⟩|skip
     ·have nP:¬(M.length:Int)≤30:=by omega
      rw[if_neg k9]at de;subst de;simp;(with_reducible repeat' first|refine aj ?_|refine aC h0 ?_|refine aD h0 ?_|simp[k9,nP]);all_goals simp[bz,ur,aV,aY,aT]
      all_goals try simp[bM.e,k9,nP]
      all_goals first|exact⟨_,rfl,rfl⟩|skip
    ·obtain⟨x,ad,di⟩:=fE hi;have gL:=aK x (gb ad);have QW:=ag.1;have hC:=WA ae gL;simp only[eZ]at hC;cases hu:mgu b (fN x)with
     |none=>have ar:=ag.skip ad fun r=>J8 hu;rw[hu]at hC;simp only[jj,jl]at hC;clear ag ad de c5;exact ko
     |some y=>
      have hZ:=ae.mgu (AS gL) hu;rw[hu]at hC;simp only[jk,oy]at hC;have cY:=Mv hZ u5;have eh:=Mw hZ yQ hd yJ;have hD:=Mr ae hZ;simp only[fy]at cY;simp only[hF,mj,gI]at eh;by_cases jt:fF y k []=none∨fx y (Da::Db) []=none
      ·have ar:=ag.skip ad fun r=>Fi hu jt;clear ag ad de c5 hu hD;rcases jt with e|e
       ·rw[e]at cY;simp only[jj,jl]at cY;exact ko
       ·rw[e]at eh;simp only[jj,jl]at eh;generalize (fF y k []).isSome=a1 at cY;cases a1
        ·exact ko
        ·exact ko
      ·have ak:(fF y k []).isSome=true:=by cases e:fF y k []with|none=>exact absurd (.inl e) jt|some _=>rfl
       have aA:(fx y (Da::Db) []).isSome=true:=by cases e:fx y (Da::Db) []with|none=>exact absurd (.inr e) jt|some _=>rfl
       rw[ak]at cY;rw[aA]at eh;by_cases cC:ds b y=[]
       ·have af:=ag.stop ad fun r=>J7 hu jt cC;rw[af]at de c5;simp only at de c5;subst de;subst c5;rw[cC]at hD;simp only[cz,mj]at hD;clear ag ad hu jt;simp[hi,di];(with_reducible repeat' first|refine aj ?_|refine aC hC ?_|refine aD hC ?_|refine aC cY ?_|refine aD cY ?_|refine aC eh ?_|refine aD eh ?_|refine aC hD ?_|refine aD hD ?_|simp[hi,di]);all_goals simp[bz,ur,aV,aY,aT]
        all_goals try simp[fO,bM.e]
       ·have ar:=ag.snoc ad (Cd (b:=b) hZ) fun r=>Fj hu jt cC;have u6:¬((ds b y).length:Int)=0:=by have:(ds b y).length≠0:=fun h=>cC (List.length_eq_zero_iff.1 h);omega
        have u7:(((ds b y).length:Int)==0)=false:=by simp[cC]
        clear ag ad hu jt de c5;generalize ds b y=z at hD ar u6 u7 cC;simp only[cz]at hD;simp[hi,di];(with_reducible repeat' first|refine aj ?_|refine aC hC ?_|refine aD hC ?_|refine aC cY ?_|refine aD cY ?_|refine aC eh ?_|refine aD eh ?_|refine aC hD ?_|refine aD hD ?_|simp[hi,di,u6,u7,cC]);all_goals first|(refine⟨by unfold lim;omega,?_⟩)|skip
        all_goals(with_reducible repeat' first|refine aj ?_|simp)
        all_goals exact bT.rng (L++[z]) hi ar ⟨by simp[fresh,aO,aF,cl,inObs,Pv.look,sB,cz],eF (by simp[fresh,aO,aF,cl,inObs,Pv.look,sB,cz]),eG (by simp[fresh,aO,aF,eb,inObs,Pv.look,sB,cz]),by simp⟩
@[simp] theorem ajl:∀l:List (List dU),df (l.map l0)=l.map l0
 |[]=>rfl
 |x::xs=>by simp[df,ajl xs]
def Iu(n:Int)(l:List bQ):Prop:= ∃x:List T,l=x.map T.tm∧(∀t∈x,t.fit=true)∧∀t∈x,e5 n t=true
theorem aju{x y:List T}(h:x.map T.tm=y.map T.tm):x=y:=(List.map_inj_right fun _ _=>Mf).1 h
theorem Yl(l:List T):(l.map T.tm).map enc=l.map T.e:=by rw[List.map_map];exact List.map_congr_left fun t _=>qT t
theorem Qg:∀{l:List bQ},l.all bQ.fits=true→∃x:List T,l=x.map T.tm∧∀t∈x,t.fit=true
 |[],_=>⟨[],rfl,by simp⟩
 |t::l,h=>by rw[List.all_cons,cx]at h;obtain⟨x,rfl,U⟩:=Qg h.2;obtain⟨y,rfl,aZ⟩:=bQ.fits_ex h.1;exact⟨y::x,rfl,fun z bf=>(ga.1 bf).elim (fun e=>by rw[e];exact aZ) (U z)⟩
theorem aa2{n:Int}{x y:T}(ad:x.fit=true)(aG:y.fit=true)(J:e5 n x=true)(U:e5 n y=true):Iu n [x.tm,y.tm]:=⟨[x,y],rfl,by simp[ad,aG],by simp[J,U]⟩
theorem WK{n:Int}:∀(l:List T) (m:Int),l.foldl (fun m t=>t.fold qF m) m≤n↔m≤n∧∀t∈l,e5 n t=true
 |[],m=>by simp
 |t::l,m=>by rw[List.foldl_cons,WK l,GS];simp[and_assoc]
theorem qq.fin{α:Type}{p:α→Bool}{s:List α}(h:qq p s s.length ()):∀b∈s,p b=true:=fun b ae=>by obtain⟨i,hi⟩:=List.mem_iff_getElem?.1 ae;exact h i b (by have:=(fG.1 hi).1;omega) hi
theorem akp(l:List bQ):b7 az 68 [.slice 4 .no (l.map enc)] (.bool (l.all bQ.fits)):=by
 generalize b4:l.all bQ.fits=R;refine bE fs P8 T2 fun aU=>?_;unfold HC;have ib:l.length≤68719476736:=by simp[h9,ho,hV,lim]at aU;omega
 simp;refine gh [5,6] (fun i (_:Unit)=>[(7,.int .i64 i)]) l.length (qq bQ.fits l) () cu (fun k b ab=>by omega) (fun _ ag _=>?_) (fun i _ hi ag _=>?_)
 ·have:R=true:=by rw[←b4,jD];exact ag.fin
  subst this;clear ag b4;exact cZ
 ·obtain⟨t,aN,qn⟩:=fE hi;have dN:=GI t;cases g:t.fits
  ·rw[g]at dN;have:R=false:=by rw[←b4,List.all_eq_false];exact⟨t,gb aN,by rw[g];simp⟩
   subst this;clear aN ag b4;exact cZ
  ·rw[g]at dN;have ar:=ag.step aN g;clear aN ag b4;exact ko
open Classical in
theorem Wo(r:na)(gK:j0 r.m→iZ r.m)(l:List bQ):b7 az 47 [r.e,.slice 4 .no (l.map enc)] (.bool (decide (rM r∧Iu r.n l))):=by
 generalize b4:decide (rM r∧Iu r.n l)=R;have dC:=Wj r gK;have dN:=akp l;have ar:=fun h:rM r=>(rM.raw h).n;by_cases g1:rM r;rotate_left
 ·rw[lS g1]at dC;have:R=false:=by rw[←b4];exact lS fun h=>g1 h.1
  subst this;obtain⟨n,b,d,k,m⟩:=r;simp only[na.e]at dC⊢;clear b4 ar gK g1;refine bE gY Ii KK fun aU=>?_;unfold DF;exact cZ
 rw[lA g1]at dC;cases g2:l.all bQ.fits
 ·rw[g2]at dN;have:R=false:=by rw[←b4];refine lS fun h=>?_;obtain⟨x,rfl,U,_⟩:=h.2;rw[List.all_eq_false]at g2;obtain⟨t,aN,aQ⟩:=g2;obtain⟨y,aG,rfl⟩:=hH.1 aN;rw[bQ.fits_T]at aQ;exact aQ (U y aG)
  subst this;obtain⟨n,b,d,k,m⟩:=r;simp only[na.e]at dC⊢;clear b4 ar gK g1 g2;refine bE gY Ii KK fun aU=>?_;unfold DF;exact cZ
 rw[g2]at dN;obtain⟨x,rfl,ad⟩:=Qg g2;rw[Yl]at dN⊢;have pG:=Wl x ad;have aJ:decide (v8 x≤r.n)=R:=by rw[←b4,v8];refine decide_eq_decide.2 ?_;rw[WK];refine⟨fun h=>⟨g1,x,rfl,ad,h.2⟩,fun h=>⟨(ar g1).1,?_⟩⟩;obtain⟨y,e,_,U⟩:=h.2;rw[aju e];exact U
 generalize v8 x=q at pG aJ;obtain⟨n,b,d,k,m⟩:=r;simp only[na.e]at dC aJ⊢;clear b4 ar gK g1 g2 ad;subst aJ;refine bE gY Ii KK fun aU=>?_;unfold DF;exact cZ
noncomputable def kx(s:bM)(x y:T):Option bM:=(mgu s.b [(x,y)]).bind fun b=>eU {s with b:=b}
theorem Wk{b:List al}(ae:en b){x y:T}(ad:x.fit=true)(aG:y.fit=true):b7 az 48 [.slice 5 .no (b.map al.e),x.e,y.e] (eZ (mgu b [(x,y)])):=by have dC:=oo ae;have aR:=xR ad;have be:=xR aG;have key:=WJ b [x] [y] rfl ae.sol ae.fits ae.ok (by simp) (by simp only[T.fit,cx]at ad;simpa using ad.1) (by simp only[T.fit,cx]at aG;simpa using aG.1);simp only[gI,mj,List.zip_cons_cons,List.zip_nil_left]at key;unfold eZ at key⊢;generalize mgu b [(x,y)]=O at key;refine bE gY Zx afU fun aU=>?_;unfold NL;exact cZ
theorem tT(S:aH→Prop)(l:List (List al))(d:List al):aO S (l.map cz++[cz d])=True:=sB S l d
theorem Wn{x:List al}(h:x.length≤1000000):b7 az 119 [cz x] (cz x):=C1 x h
theorem GJ(s:bM)(ae:s.b.length≤1000000)(aK:∀x∈s.d,x.length≤1000000)(ab:s.k.length≤1000000)(hm:s.m.length≤68719470000):b7 az 49 [s.e] s.e:=by
 obtain⟨n,b,d,k,m⟩:=s;simp only[bM.e]at ae aK ab hm⊢;have lp:=C1 b ae;refine bE gY P5 TZ fun aU=>?_;unfold Hz;have ib:d.length≤68719476736:=by simp[h9,ho,hV,lim]at aU;omega
 clear aU;simp;(with_reducible repeat' first|refine aj ?_|refine aC lp ?_|refine aD lp ?_|simp);refine ir (fun i (L:List (List al))=>⟨[(1,.ptr (.loc 0) 0),(2,.ptr (.loc 1) 0),(3,.ptr (.loc 5) 0),(14,.slice 1 .no (d.map cz)),(15,.int .i64 d.length),(16,.int .i64 i)],[(.loc 0,[.int .i64 n,.slice 5 .no (b.map al.e),.slice 1 .no (d.map cz),.slice 2 .no (k.map b6.e),.slice 2 .no (m.map bk.e)]),(.loc 1,[.int .i64 0,.slice 5 .nil [],.slice 1 .nil [],.slice 2 .nil [],.slice 2 .nil []]),(.loc 5,[.int .i64 n,.slice 5 .no (b.map al.e),.slice 1 (.own (.loc 13)) (L.map cz),.slice 2 .nil [],.slice 2 .nil []])],[(.loc 13,⟨L.length,23,1,none⟩)],41,[]⟩) d.length (fun i L=>L=d.take i) [] cu (by simp) (fun L ag _=>?_) (fun i L hi ag _=>?_)
 ·rw[mY]at ag;subst ag;simp;(with_reducible repeat' first|refine aj ?_|simp);all_goals first|(refine⟨by unfold lim;omega,?_⟩)|skip
  exact cZ
 ·obtain⟨x,ad,di⟩:=fE hi;have pH:=Wn (aK x (gb ad));have aq:L.length≤i:=by rw[ag];simp;omega
  simp[hi,di];(with_reducible repeat' first|refine aj ?_|refine aC pH ?_|refine aD pH ?_|simp[di,hi]);all_goals first|(refine⟨by unfold lim;omega,?_⟩)|skip
  (with_reducible repeat' first|refine aj ?_|simp);refine bT.rng (L++[x]) hi (by rw[oi ad,ag]) ?_;simp;exact⟨by simp[fresh,aO,aF,cl,inObs,Pv.look,tT],eF (by simp[fresh,aO,aF,cl,inObs,Pv.look,tT]),eG (by simp[fresh,aO,aF,eb,inObs,Pv.look,tT]),by simp⟩
theorem T.fit_ok{x:T}(h:x.fit=true):x.ok=true:=by simp only[T.fit,cx]at h;exact h.1
theorem h2.bind{s:bM}(h:h2 s){x y:T}(ad:x.fit=true)(aG:y.fit=true)(bx:e5 s.n x=true)(hU:e5 s.n y=true){b:List al}(hm:mgu s.b [(x,y)]=some b):h2 {s with b:=b}:=⟨h.n,h.b.mgu (by simp[T.fit_ok ad,T.fit_ok aG]) hm,h.d,h.k,h.m,Ty (fun v=>v<s.n) h.b.sol h.b.fits h.bb (fun e he=>by simp only[rW]at he;subst he;exact⟨wu.1 bx,wu.1 hU⟩) hm,h.db,h.kb,h.mb⟩
open Classical in
theorem Wp{s:bM}(h:jO s)(hm:iZ s.m){x y:T}(ad:x.fit=true)(aG:y.fit=true)(bx:e5 s.n x=true)(hU:e5 s.n y=true):b7 az 47 [s.e,.slice 4 .no [x.e,y.e]] (.bool true):=by have:=Wo s.r (fun _=>hm) [x.tm,y.tm];rw[lA ⟨⟨s,rfl,h⟩,aa2 ad aG bx hU⟩,L5]at this;simpa[qT]using this
theorem ajG{s:bM}(h:jO s)(hm:iZ s.m){x y:T}(ad:x.fit=true)(aG:y.fit=true)(bx:e5 s.n x=true)(hU:e5 s.n y=true):b7 az 12 [s.e,x.e,y.e] (jN (kx s x y)):=by
 have aR:=Wp h hm ad aG bx hU;have be:=Wk h.1.b ad aG;have bN:=GJ s h.1.b.len (fun z bf=>(h.1.d z bf).len) (by have:=oX h.1.k;omega) (hm.len h.1.m);unfold kx;cases hu:mgu s.b [(x,y)]with
 |none=>rw[hu]at be;clear h hu bN;obtain⟨n,b,d,k,m⟩:=s;simp only[bM.e,eZ,jN,Option.bind_none,jj,jl,fO]at aR be⊢;refine bE gY P0 TU fun aU=>?_;unfold Hu;simp;((with_reducible repeat' first|refine aj ?_|refine aC aR ?_|refine aD aR ?_|refine aC be ?_|refine aD be ?_|simp|((first|apply bI|apply bK|apply bJ)<;>intro h<;>try simp at h))<;>(try exact cm));all_goals simp[bz,K4,aV,aY,aT]
 |some b0=>rw[hu]at be;obtain⟨G,hd,aS⟩:=hm;have dB:=Al (h.1.bind ad aG bx hU hu) hd aS;rw[h4];generalize eU {s with b:=b0}=O at dB;clear h hu;obtain⟨n,b,d,k,m⟩:=s;simp only[bM.e,eZ,jN]at aR be bN dB⊢;refine bE gY P0 TU fun aU=>?_;unfold Hu;simp;(with_reducible repeat' first|refine aj ?_|refine aC aR ?_|refine aD aR ?_|refine aC be ?_|refine aD be ?_|refine aC bN ?_|refine aD bN ?_|refine aC dB ?_|refine aD dB ?_|simp);all_goals simp[bz,K4,aV,aY,aT]
noncomputable def Gf(s:bM)(x y:T):ai:=match mgu s.b [(x,y)]with
 |none=>.tuple [fO.e,.bool false]
 |some b=>oe {s with b:=b}
theorem aiq(s:bM)(x y:T):∃t:bM,∃q:Bool,Gf s x y= .tuple [t.e,.bool q]∧(q=true→kx s x y=some t)∧(q=false→kx s x y=none):=by
 unfold Gf kx;cases mgu s.b [(x,y)]with
 |none=>exact⟨fO,false,rfl,(fun h=>by cases h),fun _=>rfl⟩
 |some b=>
  refine⟨_,_,rfl,(fun h=>?_),fun h=>?_⟩
  ·obtain⟨t,aN⟩:=fm.1 h;rw[LW aN];exact aN
  ·rw[h4];cases e:eU {s with b:=b}with
   |none=>rfl
   |some t=>rw[e]at h;cases h
theorem akd{s:bM}(h:h2 s)(hm:iZ s.m){x y:T}(ad:x.fit=true)(aG:y.fit=true)(bx:e5 s.n x=true)(hU:e5 s.n y=true)(jZ:Int)(tag:List cV):b7 az 93 [s.e,.int .i64 0,x.e,y.e,.int .i64 jZ,.str tag] (Gf s x y):=by
 have aR:=Ms s.b x y h.b.sol h.b.fits;unfold Gf;cases hu:mgu s.b [(x,y)]with
 |none=>rw[hu]at aR;clear h hu;obtain⟨n,b,d,k,m⟩:=s;simp only[bM.e,eZ,fO]at aR⊢;refine bE gY qX rC fun aU=>?_;unfold p6;exact cZ
 |some b0=>rw[hu]at aR;obtain⟨G,hd,aS⟩:=hm;have be:=C3 (h.bind ad aG bx hU hu) hd aS;simp only[oe]at be⊢;generalize sR {s with b:=b0}=t at be;generalize (eU {s with b:=b0}).isSome=q at be;clear h hu;obtain⟨n,b,d,k,m⟩:=s;obtain⟨uF,uB,uC,uE,tm⟩:=t;simp only[bM.e,eZ]at aR be⊢;refine bE gY qX rC fun aU=>?_;unfold p6;exact cZ
theorem aj0{x:List al}(h:x.length≤1000000):b7 az 190 [cz x] (cz x):=Wy x h
theorem aka(t:List (List al))(aN:∀x∈t,x.length≤1000000):b7 az 191 [.slice 1 .no (t.map cz)] (.slice 1 .no (t.map cz)):=by
 refine bE gY aaR ahf fun aU=>?_;unfold Pa;have ib:t.length≤68719476736:=by simp[h9,ho,hV,lim]at aU;omega
 clear aU;have cY:=fun x ad=>aj0 (aN x ad);simp;(with_reducible repeat' first|refine aj ?_|simp);refine ir (fun i (L:List (List al))=>⟨[(7,.slice 1 .no (t.map cz)),(8,.int .i64 t.length),(3,.slice 1 (.own (.loc 0)) (L.map cz)),(9,.int .i64 i)],[],[(.loc 0,⟨L.length,23,1,none⟩)],1,[]⟩) t.length (fun i L=>L=t.take i) [] cu (by simp) (fun L ag _=>?_) (fun i L hi ag _=>?_)
 ·rw[mY]at ag;subst ag;exact cZ
 ·obtain⟨x,ad,di⟩:=fE hi;have pH:=cY x (gb ad);have aq:L.length≤i:=by rw[ag];simp;omega
  clear cY;simp[hi,di];(with_reducible repeat' first|refine aj ?_|refine aC pH ?_|refine aD pH ?_|simp[di,hi]);all_goals first|(refine⟨by unfold lim;omega,?_⟩)|skip
  all_goals(with_reducible repeat' first|refine aj ?_|simp)
  all_goals refine bT.rng (L++[x]) hi (by rw[oi ad,ag]) ?_
  all_goals simp
  all_goals exact⟨by simp[fresh,aO,aF,cl,inObs,Pv.look,tT],eF (by simp[fresh,aO,aF,cl,inObs,Pv.look,tT]),eG (by simp[fresh,aO,aF,eb,inObs,Pv.look,tT]),by simp⟩
theorem aki(s:bM)(ae:s.b.length≤1000000)(aK:∀x∈s.d,x.length≤1000000)(ab:s.k.length≤1000000)(hm:s.m.length≤68719470000):b7 az 112 [s.e] s.e:=by
 have aR:=Wy s.b ae;have be:=aka s.d aK;obtain⟨n,b,d,k,m⟩:=s;simp only[bM.e]at aR be ab hm⊢;refine bE gY aaV ahj fun aU=>?_;unfold Pe;simp;(with_reducible repeat' first|refine aj ?_|refine aC aR ?_|refine aD aR ?_|refine aC be ?_|refine aD be ?_|simp);all_goals first|(refine⟨by unfold lim;omega,?_⟩)|skip
 exact cZ
theorem PQ{s t:bM}(h:h2 s){x y:T}(ad:x.fit=true)(aG:y.fit=true)(bx:e5 s.n x=true)(hU:e5 s.n y=true)(he:kx s x y=some t):jO t:=by unfold kx at he;obtain⟨b,J,U⟩:=hI.1 he;exact(xG (h.bind ad aG bx hU J) U).1
theorem CN{s t:bM}(hm:iZ s.m)(he:eU s=some t):iZ t.m:=by
 obtain⟨G,hd,aS⟩:=hm;refine⟨G,hd,?_⟩;have:=LW he;unfold eU at he;split at he
 ·cases he
 ·split at he
  ·cases he
  ·rename_i m e;split at he
   ·cases he
   ·split at he
    ·have U:=Cz aS (fun x ad=>by simp at ad) e;have ao:=fP he;rw[←ao];exact GA U
    ·cases he
theorem Yo{s t:bM}(hm:iZ s.m){x y:T}(he:kx s x y=some t):iZ t.m:=by unfold kx at he;obtain⟨b,J,U⟩:=hI.1 he;exact CN (s:={s with b:=b}) hm U
def zv(s:List al):Option (List al)→List al
 |none=>[]
 |some b=>ds s b
open Classical in
noncomputable def uR(s:List al):Option (List al)→Int
 |none=>1
 |some b=>if ds s b=[]then 2 else 0
noncomputable def kR(s:bM)(x y:T):Option bM:=match mgu s.b [(x,y)]with
 |none=>eU s
 |some b=>if ds s.b b=[]then none else eU {s with d:=s.d++[ds s.b b]}
theorem Kx{s b:List al}(af:en s){E:List (T×T)}(hm:mgu s E=some b):ds s b=[]↔s=b:=by
 constructor
 ·intro h;have J:=B9 af.sol af.fits hm;rw[h,show fN []=[]from rfl,Ca af.sol af.fits]at J;exact fP J
 ·rintro rfl;unfold ds;rw[List.filter_eq_nil_iff];intro c av;rw[qP af.sol.asc av];simp
theorem h2.dif{s:bM}(h:h2 s){x y:T}(ad:x.fit=true)(aG:y.fit=true)(bx:e5 s.n x=true)(hU:e5 s.n y=true){b:List al}(hm:mgu s.b [(x,y)]=some b):h2 {s with d:=s.d++[ds s.b b]}:=by
 have ae:=h.bind ad aG bx hU hm;refine⟨h.n,h.b,fun z bf=>?_,h.k,h.m,h.bb,fun z bf=>?_,h.kb,h.mb⟩
 ·rcases ja.1 bf with bf|bf
  ·exact h.d z bf
  ·rw[rW.1 bf];exact Cd ae.b
 ·rcases ja.1 bf with bf|bf
  ·exact h.db z bf
  ·rw[rW.1 bf];exact fun c av=>ae.bb c (k3.1 av).1
theorem PC{s t:bM}(h:h2 s){x y:T}(ad:x.fit=true)(aG:y.fit=true)(bx:e5 s.n x=true)(hU:e5 s.n y=true)(he:kR s x y=some t):jO t:=by
 unfold kR at he;cases hm:mgu s.b [(x,y)]with
 |none=>rw[hm]at he;exact(xG h he).1
 |some b=>
  rw[hm]at he;simp only at he;split at he
  ·cases he
  ·exact(xG (h.dif ad aG bx hU hm) he).1
theorem X7{s t:bM}(hm:iZ s.m){x y:T}(he:kR s x y=some t):iZ t.m:=by
 unfold kR at he;cases hu:mgu s.b [(x,y)]with
 |none=>rw[hu]at he;exact CN hm he
 |some b=>
  rw[hu]at he;simp only at he;split at he
  ·cases he
  ·exact CN (s:={s with d:=s.d++[ds s.b b]}) hm he
theorem VJ{s t:bM}(he:eU s=some t):t.d.length≤30:=by
 unfold eU at he;split at he
 ·cases he
 split at he
 ·cases he
 split at he
 ·cases he
 split at he
 ·rename_i h;have:=fP he;rw[←this];exact h
 ·cases he
open Classical in
noncomputable def mH(s:bM)(t:T)(k:Int):Option bM:=if(k=2∨k=3)∧(t.ap (bP s.b)).size≤5000 then(iq s.k (t.ap (bP s.b)) k).bind fun l=>eU {s with k:=l}else none
open Classical in
noncomputable def mJ(s:bM)(t:T)(g:List cV):Option bM:=if(t.ap (bP s.b)).size≤5000 then(jr s.m (t.ap (bP s.b)) g).bind fun l=>eU {s with m:=l}else none
def vW(m:List bk):Prop:= ∃G:List (List cV),G.length≤686999∧kH G m
theorem vW.w{m:List bk}(h:vW m):iZ m:=by obtain⟨G,J,U⟩:=h;exact⟨G,by omega,U⟩
theorem h2.apb{s:bM}(h:h2 s){t:T}(tp:e5 s.n t=true){w:Int}(hw:(t.ap (bP s.b)).occ w=true):w<s.n:=by obtain⟨v,J,U⟩:=zy.1 hw;exact JY h.b h.bb (wu.1 tp v J) U
theorem h2.apo{s:bM}(h:h2 s){t:T}(aN:t.fit=true):(t.ap (bP s.b)).ok=true:=CO h.b.ok (T.fit_ok aN)
theorem h2.knd{s:bM}(h:h2 s){t:T}(aN:t.fit=true)(tp:e5 s.n t=true){k:Int}(ab:k=2∨k=3){l:List b6}(he:iq s.k (t.ap (bP s.b)) k=some l):h2 {s with k:=l}:=⟨h.n,h.b,h.d,Dr h.k (h.apo aN) ab he,h.m,h.bb,h.db,fun x ad=>(Hd he x ad).elim (h.kb x) fun e=>h.apb tp (by rw[e];simp[T.occ]),h.mb⟩
theorem h2.mrk{s:bM}(h:h2 s){t:T}(aN:t.fit=true)(tp:e5 s.n t=true){g:List cV}(aS:iB g=true){l:List bk}(he:jr s.m (t.ap (bP s.b)) g=some l):h2 {s with m:=l}:=⟨h.n,h.b,h.d,h.k,Ds h.m (h.apo aN) aS he,h.bb,h.db,h.kb,fun x ad=>((zp he x).1 ad).elim (h.mb x) fun e=>h.apb tp e.2⟩
theorem vW.mrk{m l:List bk}(h:vW m){t:T}{g:List cV}(he:jr m t g=some l):iZ l:=by obtain⟨G,J,U⟩:=h;exact⟨g::G,by simp only[nB];omega,AD (fun x ad=>mX _ (U x ad)) (by simp) he⟩
theorem S3{s u:bM}(h:h2 s){t:T}(aN:t.fit=true)(tp:e5 s.n t=true){k:Int}(he:mH s t k=some u):jO u:=by
 unfold mH at he;split at he
 ·rename_i g;obtain⟨l,J,U⟩:=hI.1 he;exact(xG (h.knd aN tp g.1 J) U).1
 ·cases he
theorem aeL{s u:bM}(hm:iZ s.m){t:T}{k:Int}(he:mH s t k=some u):iZ u.m:=by
 unfold mH at he;split at he
 ·obtain⟨l,J,U⟩:=hI.1 he;exact CN (s:={s with k:=l}) hm U
 ·cases he
theorem TK{s u:bM}(h:h2 s){t:T}(aN:t.fit=true)(tp:e5 s.n t=true){g:List cV}(aS:iB g=true)(he:mJ s t g=some u):jO u:=by
 unfold mJ at he;split at he
 ·obtain⟨l,J,U⟩:=hI.1 he;exact(xG (h.mrk aN tp aS J) U).1
 ·cases he
theorem aft{s u:bM}(hm:vW s.m){t:T}{g:List cV}(he:mJ s t g=some u):iZ u.m:=by
 unfold mJ at he;split at he
 ·obtain⟨l,J,U⟩:=hI.1 he;exact CN (s:={s with m:=l}) (hm.mrk J) U
 ·cases he
structure aiK (s:bM):Prop where
 k:fF s.b s.k []=some s.k
 m:fx s.b s.m []=some s.m
 f:s.m.filter (jf s.k)=s.m
 l:ey s.b s.k s.m s.d=some s.d
 st:∀d∈s.d,xJ s.b s.k s.m d
 n:iE s.d=s.d
 c:s.d.length≤30
theorem jO.self{s:bM}(h:jO s):aiK s:=by
 have av:=VJ h.2;have J:=h.2;unfold eU at J;split at J
 ·cases J
 rename_i k ab;split at J
 ·cases J
 rename_i m hm;split at J
 ·cases J
 rename_i L hz;split at J;rotate_left
 ·cases J
 have J:=fP J;have l4:k=s.k:=eO bM.k J;have Jd:m.filter (jf k)=s.m:=eO bM.m J;have kU:iE L=s.d:=eO bM.d J;subst l4;have m1:=Cy h.1.b h.1.m.at' ⟨by simp,by simp[hb]⟩ hm;have aA:fx s.b (m.filter (jf s.k)) []=some (m.filter (jf s.k)):=Lx (acc:=[]) (GY _ m1.asc) fun x ad=>Lw h.1.b.sol (by simp) hm x (k3.1 ad).1;rw[Jd]at aA hz;have EC:m=s.m:=by rw[hm]at aA;exact fP aA
 rw[EC]at Jd;have dh:=BZ h.1.b hz;have af:∀d∈s.d,xJ s.b s.k s.m d:=fun d aK=>dh d (sH.1 (by rw[kU];exact aK)).1;exact⟨ab,aA,Jd,J9 af,af,by rw[←kU,TB],av⟩
theorem S8{b:List al}{k:List b6}{m:List bk}:∀{l:List (List al)},ey b k m l=none→∃d∈l,∃y,mgu b (fN d)=some y∧ds b y=[]
 |[],h=>by simp[ey]at h
 |d::l,h=>by
  have go:ey b k m l=none→∃e∈d::l,∃y,mgu b (fN e)=some y∧ds b y=[]:=fun h=>by obtain⟨e,J,U⟩:=S8 h;exact⟨e,mX _ J,U⟩
  simp only[ey]at h;split at h
  ·exact go h
  ·rename_i x ad;split at h
   ·exact go h
   ·split at h
    ·rename_i ar;exact⟨d,by simp,x,ad,ar⟩
    ·rw[Option.map_eq_none_iff]at h;exact go h
theorem BX{b:List al}{k:List b6}{m:List bk}:∀{l L:List (List al)},ey b k m l=some L→L.length≤l.length
 |[],L,h=>by simp only[ey,dt]at h;rw[←h];simp
 |d::l,L,h=>by
  simp only[ey]at h;split at h
  ·have:=BX h;simp only[nB];omega
  ·split at h
   ·have:=BX h;simp only[nB];omega
   ·split at h
    ·cases h
    ·rw[gd]at h;obtain⟨Ar,J,rfl⟩:=h;have:=BX J;simp only[nB];omega
theorem BY{b:List al}{k:List b6}{m:List bk}{d:List al}{r:Option (List (List al))}(aK:ey b k m [d]=r):∀{l L:List (List al)},ey b k m l=some L→ey b k m (l++[d])=r.map (L++ ·)
 |[],L,h=>by simp only[ey,dt]at h;rw[←h,bS,aK];simp
 |e::l,L,h=>by
  simp only[bO];unfold ey at h⊢;split at h
  ·exact BY aK h
  ·split at h
   ·rename_i ab;rw[if_pos ab];exact BY aK h
   ·rename_i ab;rw[if_neg ab];split at h
    ·cases h
    ·rename_i ar;rw[if_neg ar];rw[gd]at h;obtain⟨Ar,J,rfl⟩:=h;rw[BY aK J,Option.map_map];rfl
theorem aeR{l aX:List (List al)}(ar:l.Nodup)(h:∀x∈l,x∈aX):l.length≤aX.length:=GX ar h
theorem afk{L:List (List al)}{w:List al}(h:w∈L∨ ∃d∈L,d≠w∧ls d w=true):(iE (L++[w])).length≤(iE L).length:=by
 refine aeR ((Kt _).nodup mN) fun x ad=>?_;rw[sH]at ad⊢;obtain⟨J,U⟩:=ad;rw[hP,jD]at U;have ab:hP L x=true:=by rw[hP,jD];exact fun d aK=>U d (List.mem_append_left _ aK)
 refine⟨?_,ab⟩;rcases ja.1 J with ao|ao
 ·exact ao
 ·rw[rW.1 ao]at U⊢;rcases h with h|⟨d,aK,cC,aS⟩
  ·exact h
  ·have:=U d (List.mem_append_left _ aK);rw[aS,lS cC]at this;cases this
theorem afs{b x y d:List al}{E:List (T×T)}(ae:en b)(ad:mgu b E=some x)(aK:mgu b (fN d)=some y)(aG:ds b y=d)(af:∀aL,fV x aL→iN (fN d) aL):ls d (ds b x)=true:=by
 have gL:=(rz ae.sol ae.fits ad).1;have hZ:=(rz ae.sol ae.fits aK).1;have X8:∀{v},c0 x v=none→c0 b v=none:=fun h=>Cb ae.sol gL (fun aL fT=>((vw ae.sol ae.fits ad aL).1 fT).1) h;have X9:∀{v},c0 y v=none→c0 b v=none:=fun h=>Cb ae.sol hZ (fun aL fT=>((vw ae.sol ae.fits aK aL).1 fT).1) h;have Sa:h5 (ds b x):=GY _ gL.asc;generalize hw:ds b x=w at Sa⊢;have Sc:∀c∈w,c∈x∧c0 b c.v=none:=fun c av=>by rw[←hw]at av;have:=k3.1 av;exact⟨this.1,by simpa using this.2⟩
 let aL:Int→T:=fun v=>(bP b v).ap (bP w)
 have qh:∀{v},c0 b v=none→aL v=bP w v:=fun{v} h=>by
  show(bP b v).ap (bP w)=bP w v;have:bP b v= .var v:=by unfold bP;rw[h];rfl
  rw[this];rfl
 have J:fV b aL:=fun c av=>by
  have ak:bP b c.v=c.t:=by unfold bP;rw[qP ae.sol.asc av];rfl
  have aA:c.t=c.t.ap (bP b):=by have:=vP ae.sol c av;rw[ak]at this;exact this
  show(bP b c.v).ap (bP w)=c.t.ap fun v=>(bP b v).ap (bP w);rw[ak,←x6,←aA]
 have U:iN (fN w) aL:=fun e he=>by
  obtain⟨c,av,rfl⟩:=hH.1 he;obtain⟨kA,Ra⟩:=Sc c av;have ak:bP w c.v=c.t:=by unfold bP;rw[qP Sa av];rfl
  show aL c.v=c.t.ap aL;rw[qh Ra,ak];have aA:c.t.ap aL=c.t.ap T.var:=qN fun u hu=>by have y2:=gL.free c kA u hu;rw[qh (X8 y2)];have:c0 w u=none:=r4.2 fun z bf=>r4.1 y2 z (Sc z bf).1;unfold bP;rw[this];rfl
  rw[aA,M6]
 have ao:fV x aL:=(vw ae.sol ae.fits (by rw[←hw];exact B9 ae.sol ae.fits ad) aL).2 ⟨J,U⟩;have aZ:=af aL ao;rw[ls,jD];intro c av;have Rg:=av;rw[←aG]at Rg;obtain⟨bL,cn⟩:=k3.1 Rg;have cn:c0 b c.v=none:=by simpa using cn
 have b1:aL c.v=c.t.ap aL:=aZ (.var c.v,c.t) (hH.2 ⟨c,av,rfl⟩);rw[qh cn]at b1;rw[qv,fI,b1];exact qN fun u hu=>qh (X9 (hZ.free c bL u hu))
theorem ahn{s:bM}(h:jO s){x y:T}(ad:x.fit=true)(aG:y.fit=true)(bx:e5 s.n x=true)(hU:e5 s.n y=true):kx s x y≠none∨kR s x y≠none:=by
 have c5:=h.self;unfold kx kR;cases hu:mgu s.b [(x,y)]with
 |none=>right;simp only;rw[h.2];simp
 |some b=>
  have ae:=h.1.bind ad aG bx hU hu;simp only[h4];by_cases ar:ds s.b b=[]
  ·left;have:s.b=b:=(Kx h.1.b hu).1 ar;subst this;have:({s with b:=s.b}:bM)=s:=rfl;rw[this,h.2];simp
  ·rw[if_neg ar];by_cases bn:eU {s with b:=b}=none;rotate_left
   ·exact .inl bn
   right;have iR:=B9 h.1.b.sol h.1.b.fits hu;have rj:∀L,ey s.b s.k s.m (s.d++[ds s.b b])=some L→(iE L).length≤30→eU {s with d:=s.d++[ds s.b b]}≠none:=fun L J U=>by unfold eU;simp only[c5.k,c5.m,c5.f,J,if_pos U];simp
   by_cases ab:fF b s.k []=none∨fx b s.m []=none
   ·refine rj s.d ?_ (by rw[c5.n];exact c5.c);rw[BY (Fi iR ab) c5.l];simp[ey]
   ·have Bx:ds s.b b≠[]:=ar;refine rj (s.d++[ds s.b b]) ?_ ?_
    ·rw[BY (Fj iR ab Bx) c5.l];simp[ey]
    ·refine ji (afk ?_) (by rw[c5.n];exact c5.c);have aq:∃d∈s.d,∃z,mgu b (fN d)=some z∧ds b z=[]:=by
      unfold eU at bn;simp only at bn;split at bn
      ·rename_i e;exact absurd (.inl e) ab
      ·split at bn
       ·rename_i e;exact absurd (.inr e) ab
       ·split at bn
        ·rename_i e;exact S8 e
        ·rename_i L e;split at bn
         ·cases bn
         ·rename_i aA;have:=BX e;have:=TA L;have:=c5.c;simp only at*;omega
     obtain⟨d,aK,z,bf,EX⟩:=aq;have adZ:b=z:=(Kx ae.b bf).1 EX;subst adZ;obtain⟨MF,a1,_,b2,_⟩:=c5.st d aK;by_cases Rl:d=ds s.b b
     ·exact .inl (by rw[←Rl];exact aK)
     ·exact .inr ⟨d,aK,Rl,afs h.1.b hu a1 b2 fun aL fT=>((vw ae.b.sol ae.b.fits bf aL).1 fT).2⟩
theorem aiM(s:bM)(n:Int):eU {s with n:=n}=(eU s).map fun t=>{t with n:=n}:=by
 unfold eU;simp only;split
 ·rfl
 ·split
  ·rfl
  ·split
   ·rfl
   ·split<;>rfl
theorem jO.more{s:bM}(h:jO s){n:Int}(J:s.n≤n)(U:n≤100000):jO {s with n:=n}:=by
 refine⟨⟨⟨by have:=h.1.n.1;simp only;omega,U⟩,h.1.b,h.1.d,h.1.k,h.1.m,fun c av=>?_,fun x ad c av=>?_,fun x ad=>?_,fun x ad=>?_⟩,?_⟩
 ·have:=h.1.bb c av;exact⟨by simp only;omega,fun w hw=>by have:=this.2 w hw;simp only;omega⟩
 ·have:=h.1.db x ad c av;exact⟨by simp only;omega,fun w hw=>by have:=this.2 w hw;simp only;omega⟩
 ·have:=h.1.kb x ad;simp only;omega
 ·have:=h.1.mb x ad;simp only;omega
 ·rw[aiM,h.2];rfl
def adp(v:List al)(b:al):Bool:=decide ((b.t.ap (bP v)).size≤5000)&& !decide (bP v b.v=b.t.ap (bP v))
def X6(v:List al)(d:List al):Bool:=d.any (adp v)
def afF(v:List al)(b:al):Bool:=decide ((b.t.ap (bP v)).size≤5000)&&decide (b.t.ap (bP v)=bP v b.v)
structure aja (s:bM) (v:List al):Prop where
 b:s.b.all (afF v)=true
 d:s.d.all (X6 v)=true
 k:s.k.all (fun k=>decide ((bP v k.v).kind=k.k))=true
 m:s.m.all (fun m=> !(bP v m.v).has m.s)=true
theorem Fw{s:List al}(af:ff s)(aQ:gy s)(E lT:List (T×T)):mgu s (E++lT)=(mgu s E).bind fun s1=>mgu s1 lT:=by
 have J:=xi af aQ E;cases h:mgu s E with
 |none=>rw[h]at J;exact oZ (Dq lT J)
 |some s1=>rw[h]at J;exact oZ (Hb J (xi J.1.1 J.1.2 lT))
def sF:T→Nat
 | .pair a b=>sF a+sF b
 |_=>1
theorem vQ:ff []:=⟨by simp,by simp,by simp⟩
theorem uV:gy []:=by simp[gy]
def vB:T→Bool
 | .sym s=>s.head? !=some 119
 | .pair a b=>vB a&&vB b
 |_=>true
structure eqP (V:List Int) (L:Nat) (e:T×T):Prop where
 l:sF e.1≤L∧sF e.2≤L
 v:∀v,(e.1.occ v=true∨e.2.occ v=true)→v∈V
 w:vB e.1=true∧vB e.2=true
structure pQ (V:List Int) (L:Nat) (E:List (T×T)) (s:bM):Prop where
 e:∀e∈E,eqP V L e
 b:mgu [] E=some s.b
 d:∀d∈s.d,∃e x,eqP V L e∧mgu [] (E++[e])=some x∧d=ds s.b x
theorem S7{b:List al}{k:List b6}{m:List bk}:∀{l L:List (List al)},ey b k m l=some L→∀w∈L,∃d∈l,∃z,mgu b (fN d)=some z∧w=ds b z
 |[],L,h=>by simp only[ey,dt]at h;rw[←h];simp
 |d::l,L,h=>by
  have go:∀{L},ey b k m l=some L→∀w∈L,∃e∈d::l,∃z,mgu b (fN e)=some z∧w=ds b z:=fun h w hw=>by obtain⟨e,J,U⟩:=S7 h w hw;exact⟨e,mX _ J,U⟩
  simp only[ey]at h;split at h
  ·exact go h
  ·rename_i x ad;split at h
   ·exact go h
   ·split at h
    ·cases h
    ·rw[gd]at h;obtain⟨Ar,J,rfl⟩:=h;intro w hw;rcases ga.1 hw with rfl|hw
     ·exact⟨d,by simp,x,ad,rfl⟩
     ·exact go J w hw
theorem aiL{s t:bM}(he:eU s=some t):t.b=s.b∧∀w∈t.d,∃d∈s.d,∃z,mgu s.b (fN d)=some z∧w=ds s.b z:=by
 unfold eU at he;split at he
 ·cases he
 split at he
 ·cases he
 split at he
 ·cases he
 rename_i L hz;split at he
 ·cases he;exact⟨rfl,fun w hw=>S7 hz w (sH.1 hw).1⟩
 ·cases he
theorem Cs{V:List Int}{L:Nat}{E lT:List (T×T)}{s t:bM}{AF:List al}(aca:∀e∈lT,eqP V L e)(q5:mgu [] E=some AF)(ae:mgu [] lT=some s.b)(lK:∀aL,fV s.b aL→fV AF aL)(aK:∀d∈s.d,∃e x,eqP V L e∧mgu [] (E++[e])=some x∧d=ds AF x)(he:eU s=some t):pQ V L lT t:=by obtain⟨ak,aA⟩:=aiL he;obtain⟨s0,f0⟩:=rz vQ uV q5;obtain⟨s1,f1⟩:=rz vQ uV ae;refine⟨aca,by rw[ak];exact ae,fun w hw=>?_⟩;obtain⟨d,e9,z,bf,rfl⟩:=aA w hw;obtain⟨e,x,u2,ad,rfl⟩:=aK d e9;refine⟨e,z,u2,?_,by rw[ak]⟩;rw[Fw vQ uV,q5,h4]at ad;rw[Fw vQ uV,ae,h4,←bf];refine oZ (x3 (fun aL=>and_congr_right fun J=>?_) (xi s1 f1 (fN (ds AF x))));have a1:=vw s0 f0 ad aL;have bt:=vw s0 f0 (B9 s0 f0 ad) aL;have bV:=lK aL J;exact⟨fun h=>(a1.1 (bt.2 ⟨bV,h⟩)).2,fun h=>(bt.1 (a1.2 ⟨bV,h⟩)).2⟩
theorem ahA(V:List Int)(L:Nat)(n:Int):pQ V L [] ⟨n,[],[],[],[]⟩:=⟨by simp,Ca vQ uV,by simp⟩
theorem ahB{V:List Int}{L:Nat}{E:List (T×T)}{s t:bM}(h:pQ V L E s){x y:T}(ad:eqP V L (x,y))(he:kx s x y=some t):pQ V L (E++[(x,y)]) t:=by
 unfold kx at he;obtain⟨b,J,U⟩:=hI.1 he;obtain⟨s0,f0⟩:=rz vQ uV h.b;refine Cs (s:={s with b:=b}) (fun e he=>?_) h.b ?_ (fun aL fT=>((vw s0 f0 J aL).1 fT).1) h.d U
 ·rcases ja.1 he with he|he
  ·exact h.e e he
  ·rw[rW.1 he];exact ad
 ·rw[Fw vQ uV,h.b,h4];exact J
theorem ahz{V:List Int}{L:Nat}{E:List (T×T)}{s t:bM}(h:pQ V L E s){x y:T}(ad:eqP V L (x,y))(he:kR s x y=some t):pQ V L E t:=by
 unfold kR at he;cases hu:mgu s.b [(x,y)]with
 |none=>rw[hu]at he;exact Cs h.e h.b h.b (fun _ h=>h) h.d he
 |some b=>
  rw[hu]at he;simp only at he;split at he
  ·cases he
  ·refine Cs (s:={s with d:=s.d++[ds s.b b]}) h.e h.b h.b (fun _ h=>h) (fun d aK=>?_) he;rcases ja.1 aK with aK|aK
   ·exact h.d d aK
   ·exact⟨(x,y),b,ad,by rw[Fw vQ uV,h.b,h4];exact hu,rW.1 aK⟩
theorem ahC{V:List Int}{L:Nat}{E:List (T×T)}{s t:bM}(h:pQ V L E s){x:T}{k:Int}(he:mH s x k=some t):pQ V L E t:=by
 unfold mH at he;split at he
 ·obtain⟨l,J,U⟩:=hI.1 he;exact Cs (s:={s with k:=l}) h.e h.b h.b (fun _ h=>h) h.d U
 ·cases he
theorem ahD{V:List Int}{L:Nat}{E:List (T×T)}{s t:bM}(h:pQ V L E s){x:T}{g:List cV}(he:mJ s x g=some t):pQ V L E t:=by
 unfold mJ at he;split at he
 ·obtain⟨l,J,U⟩:=hI.1 he;exact Cs (s:={s with m:=l}) h.e h.b h.b (fun _ h=>h) h.d U
 ·cases he
structure yj (n:Int) (s:bM):Prop where
 ok:jO s
 n:s.n=n
 t:kH [[97],[98]] s.m
theorem yj.tg{n:Int}{s:bM}(h:yj n s):vW s.m:=⟨_,by simp,h.t⟩
theorem CM{G:List (List cV)}{s t:bM}(hm:kH G s.m)(he:eU s=some t):kH G t.m:=by
 unfold eU at he;split at he
 ·cases he
 ·split at he
  ·cases he
  ·rename_i m e;split at he
   ·cases he
   ·split at he
    ·have U:=Cz hm (fun x ad=>by simp at ad) e;have ao:=fP he;rw[←ao];exact GA U
    ·cases he
theorem CL{s t:bM}(h:h2 s)(he:eU s=some t):t.n=s.n:=(xG h he).2.1
noncomputable def qM(s:bM)(kd:Int)(x y:T)(k:Int)(g:List cV):Option bM:=if kd=0 then kx s x y else if kd=1 then kR s x y else if kd=2 then mH s x k else mJ s x g
theorem Xv{n:Int}{s t:bM}(h:yj n s){kd:Int}{x y:T}{k:Int}{g:List cV}(ad:x.fit=true)(aG:y.fit=true)(bx:e5 n x=true)(hU:e5 n y=true)(aS:g∈([[97],[98]]:List (List cV)))(he:qM s kd x y k g=some t):yj n t:=by
 obtain⟨J,U,ao⟩:=h;subst U;have Rs:iB g=true:=by simp only[ga,List.mem_nil_iff,or_false]at aS;rcases aS with rfl|rfl<;>decide
 unfold qM at he;split at he
 ·refine⟨PQ J.1 ad aG bx hU he,?_,?_⟩
  ·unfold kx at he;obtain⟨b,ak,aA⟩:=hI.1 he;exact CL (s:={s with b:=b}) (J.1.bind ad aG bx hU ak) aA
  ·unfold kx at he;obtain⟨b,ak,aA⟩:=hI.1 he;exact CM (s:={s with b:=b}) ao aA
 split at he
 ·refine⟨PC J.1 ad aG bx hU he,?_,?_⟩;all_goals unfold kR at he
  all_goals
   cases hm:mgu s.b [(x,y)]with
   |none=>
    rw[hm]at he
    first|exact CL J.1 he|exact CM ao he
   |some b=>
    rw[hm]at he
    simp only at he
    split at he
    ·cases he
    ·first|exact CL (s:={s with d:=s.d++[ds s.b b]}) (J.1.dif ad aG bx hU hm) he|exact CM (s:={s with d:=s.d++[ds s.b b]}) ao he
 split at he
 ·refine⟨S3 J.1 ad bx he,?_,?_⟩;all_goals unfold mH at he
  all_goals split at he
  any_goals (cases he;done)
  all_goals rename_i g0
  all_goals obtain⟨l,ak,aA⟩:=hI.1 he
  ·exact CL (s:={s with k:=l}) (J.1.knd ad bx g0.1 ak) aA
  ·exact CM (s:={s with k:=l}) ao aA
 ·refine⟨TK J.1 ad bx Rs he,?_,?_⟩;all_goals unfold mJ at he
  all_goals split at he
  any_goals (cases he;done)
  all_goals obtain⟨l,ak,aA⟩:=hI.1 he
  ·exact CL (s:={s with m:=l}) (J.1.mrk ad bx Rs ak) aA
  ·exact CM (s:={s with m:=l}) (AD ao aS ak) aA
theorem PK{n:Int}(bV:0≤n)(J:n≤100000):jO ⟨n,[],[],[],[]⟩:=by
 refine⟨⟨⟨bV,J⟩,⟨by simp[o2],⟨by simp,by simp,by simp⟩,by simp[gy]⟩,by simp,⟨by simp,by simp⟩,⟨by simp,by simp[hb]⟩,by simp[pf],by simp,by simp,by simp⟩,?_⟩;have:iE []=[]:=List.eq_nil_iff_forall_not_mem.2 fun x ad=>by simp[sH]at ad
 simp[eU,fF,fx,ey,this]
def E1(n:Nat):List Int:=(List.range n).map Int.ofNat
def vV(i:Int):List cV:=if i=0 then [97]else [98]
theorem ajq(i:Int):vV i∈([[97],[98]]:List (List cV)):=by unfold vV;split<;>simp
noncomputable def xK(n:Int)(s:bM)(c:dF):bM×dF:=
 ((qM s ((dZ 3 n c).2.below 4) (dZ 3 n c).1 (dZ 5 n ((dZ 3 n c).2.belowC 4)).1 (2+(dZ 5 n ((dZ 3 n c).2.belowC 4)).2.below 2) (vV (((dZ 5 n ((dZ 3 n c).2.belowC 4)).2.belowC 2).below 2))).getD s,
  ((dZ 5 n ((dZ 3 n c).2.belowC 4)).2.belowC 2).belowC 2)
noncomputable def oI(n:Int):Nat→bM→dF→bM×dF
 |0,s,c=>(s,c)
 |k+1,s,c=>oI n k (xK n s c).1 (xK n s c).2
theorem Nc(k:Int):sF (qO k)=1:=by
 unfold qO;split
 ·rfl
 ·split<;>rfl
theorem Yb(vars:Int){n:Nat}(ar:n≤2)(c:dF):sF (dZ n vars c).1=1:=by
 rw[dZ,if_neg (by omega)];split
 ·rfl
 ·exact Nc _
theorem Yc(vars:Int){n:Nat}(ar:n≤5)(c:dF):sF (dZ n vars c).1≤2:=by
 rw[dZ];split
 ·simp only[sF,Yb vars (show n/2≤2 by omega)];omega
 ·split
  ·simp[sF]
  ·rw[Nc];omega
structure uS (n:Int) (t:T):Prop where
 f:t.fit=true
 b:e5 n t=true
 l:sF t≤2
 o:∀v,t.occ v=true→0≤v∧v<n
 w:vB t=true
theorem XM(k:Int):vB (qO k)=true:=by
 unfold qO;split
 ·rfl
 ·split
  ·generalize (k-2).toNat=j;rcases j with _|_|_|j<;>rfl
  ·rfl
theorem Yd(vars:Int)(n:Nat):∀c:dF,vB (dZ n vars c).1=true:=by
 induction n using qI with
 |ind n bW=>
  intro c;rw[dZ];split
  ·simp only[vB,cx];exact⟨bW _ (by omega) _,bW _ (by omega) _⟩
  ·split
   ·rfl
   ·exact XM _
theorem yk{n:Int}(ar:n≤100001){z:Nat}(bf:z≤5)(c:dF):uS n (dZ z n c).1:=by obtain⟨J,U,ao⟩:=Ya n ar z c;refine⟨by simp only[T.fit,cx,fI];exact⟨J,by split at ao<;>omega⟩,wu.2 fun v aJ=>(U v aJ).2,Yc n bf c,U,Yd n z c⟩
theorem ae6{n:Nat}{v:Int}:v∈E1 n↔0≤v∧v<n:=by
 simp only[E1,hH,List.mem_range];constructor
 ·rintro⟨a,h,rfl⟩;exact⟨qH a,by simpa using h⟩
 ·intro h;exact⟨v.toNat,by omega,by simp;omega⟩
structure nL (n:Nat) (K:Nat) (S:bM):Prop where
 s:yj n S
 k:S.d.length≤K
 p:∃E,pQ (E1 n) 2 E S
theorem CK{s t:bM}(he:eU s=some t):t.d.length≤s.d.length:=by
 unfold eU at he;split at he
 ·cases he
 split at he
 ·cases he
 split at he
 ·cases he
 rename_i L hz;split at he
 ·have:=BX hz;have:=TA L;rw[←fP he];simp only at*;omega
 ·cases he
theorem Xu{s t:bM}{kd:Int}{x y:T}{k:Int}{g:List cV}(he:qM s kd x y k g=some t):t.d.length≤s.d.length+1:=by
 unfold qM at he;split at he
 ·unfold kx at he;obtain⟨b,ak,aA⟩:=hI.1 he;have:=CK aA;simp only at this;omega
 split at he
 ·unfold kR at he;split at he
  ·have:=CK he;omega
  ·split at he
   ·cases he
   ·have:=CK he;simp only[pa,List.length_singleton]at this;omega
 split at he
 ·unfold mH at he;split at he
  ·obtain⟨b,ak,aA⟩:=hI.1 he;have:=CK aA;simp only at this;omega
  ·cases he
 ·unfold mJ at he;split at he
  ·obtain⟨b,ak,aA⟩:=hI.1 he;have:=CK aA;simp only at this;omega
  ·cases he
theorem Xw{V:List Int}{L:Nat}{E:List (T×T)}{s t:bM}(h:pQ V L E s){kd:Int}{x y:T}{k:Int}{g:List cV}(ad:eqP V L (x,y))(he:qM s kd x y k g=some t):∃lT,pQ V L lT t:=by
 unfold qM at he;split at he
 ·exact⟨_,ahB h ad he⟩
 split at he
 ·exact⟨_,ahz h ad he⟩
 split at he
 ·exact⟨_,ahC h he⟩
 ·exact⟨_,ahD h he⟩
theorem uS.eqP{n:Nat}{x y:T}(ad:uS n x)(aG:uS n y):eqP (E1 n) 2 (x,y):=⟨⟨ad.l,aG.l⟩,fun v aJ=>ae6.2 (aJ.elim (ad.o v) (aG.o v)),ad.w,aG.w⟩
theorem nL.add{n k:Nat}{s t:bM}(h:nL n k s){kd:Int}{x y:T}{jZ:Int}{g:List cV}(ad:uS n x)(aG:uS n y)(aS:g∈([[97],[98]]:List (List cV)))(he:qM s kd x y jZ g=some t):nL n (k+1) t:=by obtain⟨E,dA⟩:=h.p;exact⟨Xv h.s ad.f aG.f ad.b aG.b aS he,by have:=Xu he;have:=h.k;omega,Xw dA (ad.eqP aG) he⟩
theorem nL.more{n k:Nat}{s:bM}(h:nL n k s):nL n (k+1) s:=⟨h.s,by have:=h.k;omega,h.p⟩
theorem ajf{n:Nat}(ar:n≤100000){k:Nat}{s:bM}(h:nL n k s)(c:dF):nL n (k+1) (xK n s c).1:=by
 unfold xK;simp only;generalize he:qM _ _ _ _ _ _=o;cases o with
 |none=>exact h.more
 |some t=>exact h.add (yk (by omega) (by omega) _) (yk (by omega) (by omega) _) (ajq _) he
theorem ajg(n:Int){s:bM}{c:dF}(h:c.ok):(xK n s c).2.ok:=(((AO 5 n _ ((AO 3 n c h).below 4)).below 2).below 2)
theorem HX{n:Nat}(ar:n≤100000):∀(j:Nat) {k:Nat} {s:bM} (_:nL n k s) (c:dF),nL n (k+j) (oI n j s c).1
 |0,k,s,h,c=>h
 |j+1,k,s,h,c=>by rw[show k+(j+1)=(k+1)+j by omega];exact HX ar j (ajf ar h c) _
theorem PD(n:Nat)(ar:n≤100000):nL n 0 ⟨n,[],[],[],[]⟩:=⟨⟨PK (by omega) (by omega),rfl,by simp[kH]⟩,by simp,[],ahA _ _ _⟩
theorem nL.le{n k bD:Nat}{s:bM}(h:nL n k s)(ab:k≤bD):nL n bD s:=⟨h.s,by have:=h.k;omega,h.p⟩
noncomputable def B5(d:List Int)(p:Nat)(n:Nat):bM:=(oI n ((iO d p).below 6).toNat ⟨n,[],[],[],[]⟩ ((iO d p).belowC 6)).1
theorem ae1(d:List Int)(p:Nat){n:Nat}(ar:n≤100000):nL n 5 (B5 d p n):=by have:=(iO d p).below_le 6 (by omega);have h:=HX ar ((iO d p).below 6).toNat (PD n ar) ((iO d p).belowC 6);exact h.le (by omega)
theorem Gg(s:bM):∃t:bM,∃q:Bool,oe s= .tuple [t.e,.bool q]∧(q=true→eU s=some t)∧(q=false→eU s=none):=by
 refine⟨_,_,rfl,(fun h=>?_),fun h=>?_⟩
 ·obtain⟨t,aN⟩:=fm.1 h;rw[LW aN];exact aN
 ·cases e:eU s with
  |none=>rfl
  |some t=>rw[e]at h;cases h
open Classical in
noncomputable def Ge(s:bM)(x y:T):ai:=match mgu s.b [(x,y)]with
 |none=>oe s
 |some b=>if ds s.b b=[]then .tuple [fO.e,.bool false]else oe {s with d:=s.d++[ds s.b b]}
theorem aip(s:bM)(x y:T):∃t:bM,∃q:Bool,Ge s x y= .tuple [t.e,.bool q]∧(q=true→kR s x y=some t)∧(q=false→kR s x y=none):=by
 unfold Ge kR;cases mgu s.b [(x,y)]with
 |none=>exact Gg s
 |some b=>
  by_cases h:ds s.b b=[]
  ·simp only[if_pos h];exact⟨fO,false,rfl,(fun h=>by cases h),fun _=>trivial⟩
  ·simp only[if_neg h];exact Gg _
theorem ake{s:bM}(h:h2 s)(aK:s.d.length≤30)(hm:iZ s.m){x y:T}(ad:x.fit=true)(aG:y.fit=true)(bx:e5 s.n x=true)(hU:e5 s.n y=true)(jZ:Int)(tag:List cV):b7 az 93 [s.e,.int .i64 1,x.e,y.e,.int .i64 jZ,.str tag] (Ge s x y):=by
 have aR:=Ms s.b x y h.b.sol h.b.fits;obtain⟨G,hd,aS⟩:=hm;unfold Ge;cases hu:mgu s.b [(x,y)]with
 |none=>rw[hu]at aR;have be:=C3 h hd aS;simp only[oe]at be⊢;generalize sR s=t at be;generalize (eU s).isSome=q at be;clear h hu;obtain⟨n,b,d,k,m⟩:=s;obtain⟨uF,uB,uC,uE,tm⟩:=t;simp only[bM.e,eZ]at aR be⊢;refine bE gY qX rC fun aU=>?_;unfold p6;simp;((with_reducible repeat' first|refine aj ?_|refine aC aR ?_|refine aD aR ?_|refine aC be ?_|refine aD be ?_|simp|((first|apply bI|apply bK|apply bJ)<;>intro h<;>try simp at h))<;>(try exact cm));all_goals simp[bz,F3,aV,aY,aT]
 |some b0=>
  rw[hu]at aR;have bN:=Mr h.b (h.bind ad aG bx hU hu).b;simp only at bN;by_cases ar:ds s.b b0=[]
  ·simp only[if_pos ar];rw[ar]at bN;clear h hu;obtain⟨n,b,d,k,m⟩:=s;simp only[bM.e,eZ,fO,cz,mj]at aR bN⊢;refine bE gY qX rC fun aU=>?_;unfold p6;simp only at aK;simp;((with_reducible repeat' first|refine aj ?_|refine aC aR ?_|refine aD aR ?_|refine aC bN ?_|refine aD bN ?_|simp|((first|apply bI|apply bK|apply bJ)<;>intro h<;>try simp at h))<;>(try exact cm));all_goals simp[bz,F3,aV,aY,aT]
   all_goals(unfold lim;omega)
  ·simp only[if_neg ar];have be:=C3 (h.dif ad aG bx hU hu) hd aS;have aq:0<(ds s.b b0).length:=List.length_pos_iff.2 ar;generalize ds s.b b0=w at be bN aq ar⊢;simp only[oe]at be⊢;generalize sR {s with d:=s.d++[w]}=t at be;generalize (eU {s with d:=s.d++[w]}).isSome=q at be;clear h hu;obtain⟨n,b,d,k,m⟩:=s;obtain⟨uF,uB,uC,uE,tm⟩:=t;simp only[bM.e,eZ]at aR be bN⊢;generalize wK:d++[w]=D at be;simp only[cz]at bN;have hw:cz w= .slice 5 .no (w.map al.e):=rfl;refine bE gY qX rC fun aU=>?_;unfold p6;simp only at aK;simp;((with_reducible repeat' first|refine aj ?_|refine aC aR ?_|refine aD aR ?_|refine aC bN ?_|refine aD bN ?_|simp[aq]|((first|apply bI|apply bK|apply bJ)<;>intro h<;>try simp at h))<;>(try exact cm));all_goals first|(refine⟨by unfold lim;omega,?_⟩)|skip
   rw[←hw];rw[oG,DW,wK];((with_reducible repeat' first|refine aj ?_|refine aC be ?_|refine aD be ?_|simp|((first|apply bI|apply bK|apply bJ)<;>intro h<;>try simp at h))<;>(try exact cm));all_goals simp[bz,F3,aV,aY,aT]
noncomputable def Gi(s:bM)(x:T)(k:Int):ai:=if(x.ap (bP s.b)).size≤5000 then(match iq s.k (x.ap (bP s.b)) k with
 |none=>.tuple [fO.e,.bool false]
 |some l=>oe {s with k:=l})else .tuple [fO.e,.bool false]
theorem air(s:bM)(x:T){k:Int}(ab:k=2∨k=3):∃t:bM,∃q:Bool,Gi s x k= .tuple [t.e,.bool q]∧(q=true→mH s x k=some t)∧(q=false→mH s x k=none):=by
 unfold Gi mH;by_cases g:(x.ap (bP s.b)).size≤5000
 ·rw[if_pos g,if_pos ⟨ab,g⟩];cases iq s.k (x.ap (bP s.b)) k with
  |none=>exact⟨fO,false,rfl,(fun h=>by cases h),fun _=>rfl⟩
  |some l=>exact Gg _
 ·rw[if_neg g,if_neg fun h=>g h.2];exact⟨fO,false,rfl,(fun h=>by cases h),fun _=>rfl⟩
noncomputable def Gj(s:bM)(x:T)(g:List cV):ai:=if(x.ap (bP s.b)).size≤5000 then(match jr s.m (x.ap (bP s.b)) g with
 |none=>.tuple [fO.e,.bool false]
 |some l=>oe {s with m:=l})else .tuple [fO.e,.bool false]
theorem ais(s:bM)(x:T)(g:List cV):∃t:bM,∃q:Bool,Gj s x g= .tuple [t.e,.bool q]∧(q=true→mJ s x g=some t)∧(q=false→mJ s x g=none):=by
 unfold Gj mJ;by_cases g1:(x.ap (bP s.b)).size≤5000
 ·rw[if_pos g1,if_pos g1];cases jr s.m (x.ap (bP s.b)) g with
  |none=>exact⟨fO,false,rfl,(fun h=>by cases h),fun _=>rfl⟩
  |some l=>exact Gg _
 ·rw[if_neg g1,if_neg g1];exact⟨fO,false,rfl,(fun h=>by cases h),fun _=>rfl⟩
theorem akf{s:bM}(h:h2 s)(hm:iZ s.m){x:T}(ad:x.fit=true)(bx:e5 s.n x=true){k:Int}(ab:k=2∨k=3)(y:T)(tag:List cV):b7 az 93 [s.e,.int .i64 2,x.e,y.e,.int .i64 k,.str tag] (Gi s x k):=by
 have aR:=C2 s.b h.b.len x;have be:=Mu s.k (by have:=oX h.k;omega) h.k.asc (x.ap (bP s.b)) k;unfold Gi;by_cases g:(x.ap (bP s.b)).size≤5000
 ·rw[lA g]at aR;rw[if_pos g];cases hu:iq s.k (x.ap (bP s.b)) k with
  |none=>rw[hu]at be;generalize x.ap (bP s.b)=y at aR be;clear h hu g;obtain⟨n,b,d,bD,m⟩:=s;simp only[bM.e,mP,fO,jj,jl]at aR be⊢;refine bE gY qX rC fun aU=>?_;unfold p6;exact cZ
  |some l=>rw[hu]at be;obtain⟨G,hd,aS⟩:=hm;have bN:=C3 (h.knd ad bx ab hu) hd aS;generalize x.ap (bP s.b)=y at aR be;simp only[oe]at bN⊢;generalize sR {s with k:=l}=t at bN;generalize (eU {s with k:=l}).isSome=q at bN;clear h hu g;obtain⟨n,b,d,bD,m⟩:=s;obtain⟨uF,uB,uC,uE,tm⟩:=t;simp only[bM.e,mP,jk,oy]at aR be bN⊢;refine bE gY qX rC fun aU=>?_;unfold p6;exact cZ
 ·rw[lS g]at aR;rw[if_neg g];generalize x.ap (bP s.b)=y at aR be;clear be;clear h g;obtain⟨n,b,d,bD,m⟩:=s;simp only[bM.e,fO]at aR⊢;refine bE gY qX rC fun aU=>?_;unfold p6;exact cZ
theorem akg{s:bM}(h:h2 s)(hm:vW s.m){x:T}(ad:x.fit=true)(bx:e5 s.n x=true){g:List cV}(aS:iB g=true)(y:T)(jZ:Int):b7 az 93 [s.e,.int .i64 3,x.e,y.e,.int .i64 jZ,.str g] (Gj s x g):=by
 have aR:=C2 s.b h.b.len x;have be:=fun bf=>WC s.m (hm.w.len h.m) (x.ap (bP s.b)) bf g h.m.asc;unfold Gj;by_cases g1:(x.ap (bP s.b)).size≤5000
 ·have be:=be g1;rw[lA g1]at aR;rw[if_pos g1];cases hu:jr s.m (x.ap (bP s.b)) g with
  |none=>rw[hu]at be;generalize x.ap (bP s.b)=y at aR be;clear h hu g1;obtain⟨n,b,d,bD,m⟩:=s;simp only[bM.e,hF,fO,jj,jl]at aR be⊢;refine bE gY qX rC fun aU=>?_;unfold p6;exact cZ
  |some l=>rw[hu]at be;obtain⟨G,hd,nU⟩:=hm.mrk hu;have bN:=C3 (h.mrk ad bx aS hu) hd nU;generalize x.ap (bP s.b)=y at aR be;simp only[oe]at bN⊢;generalize sR {s with m:=l}=t at bN;generalize (eU {s with m:=l}).isSome=q at bN;clear h hu g1;obtain⟨n,b,d,bD,m⟩:=s;obtain⟨uF,uB,uC,uE,tm⟩:=t;simp only[bM.e,hF,jk,oy]at aR be bN⊢;refine bE gY qX rC fun aU=>?_;unfold p6;exact cZ
 ·rw[lS g1]at aR;rw[if_neg g1];generalize x.ap (bP s.b)=y at aR be;clear be;clear h g1;obtain⟨n,b,d,bD,m⟩:=s;simp only[bM.e,fO]at aR⊢;refine bE gY qX rC fun aU=>?_;unfold p6;exact cZ
theorem abw(c:dF)(av:c.ok):bB az 111 [.ptr (.obj 401) 0,.slice 1 .no [.str [97],.str [98]]] (bC c) fun r ah=>r= .str (vV (c.below 2))∧ah=bC (c.belowC 2):=by
 have af:=dM c;have ae:=c.below_le 2 (by omega);refine bB.mk mixed o8 aaw agU (by simp) af.obj fun aU cH=>?_;unfold OP;unfold bC;simp;(refine cD.ob (wI c av 2) (dM _) (by unfold bC;exact aE) (by unfold bC;exact aE) (by simp[inObs,bC,Pv.look]) ?_;rintro r ah ⟨rfl,rfl⟩;refine⟨fJ _ _,?_⟩;unfold bC;simp[bR]);generalize ab:c.below 2=k at ae⊢;rcases(by omega:k=0∨k=1)with rfl|rfl;all_goals(with_reducible repeat' first|refine aj ?_|simp)
 all_goals(refine cG.at (bC (c.belowC 2)) (.inl rfl) (dM _) (fJ _ _) (by unfold bC;exact aE) (by unfold bC;exact aE) ?_;simp[cM,U2,aV,aY,aT,bC])
 all_goals simp[vV]
theorem akh{n:Int}{s:bM}(h:yj n s)(aK:s.d.length≤30){kd:Int}(ab:kd=0∨kd=1∨kd=2∨kd=3){x y:T}(ad:uS n x)(aG:uS n y){k:Int}(jX:k=2∨k=3){g:List cV}(aS:iB g=true):
  ∃t:bM,∃q:Bool,b7 az 93 [s.e,.int .i64 kd,x.e,y.e,.int .i64 k,.str g] (.tuple [t.e,.bool q])∧(q=true→qM s kd x y k g=some t)∧(q=false→qM s kd x y k g=none):=by
 have bx:=ad.b;have hU:=aG.b;rw[←h.n]at bx hU;rcases ab with rfl|rfl|rfl|rfl
 ·obtain⟨t,q,ak,aA,bs⟩:=aiq s x y;refine⟨t,q,?_,aA,bs⟩;rw[←ak];exact akd h.ok.1 h.tg.w ad.f aG.f bx hU k g
 ·obtain⟨t,q,ak,aA,bs⟩:=aip s x y;refine⟨t,q,?_,aA,bs⟩;rw[←ak];exact ake h.ok.1 aK h.tg.w ad.f aG.f bx hU k g
 ·obtain⟨t,q,ak,aA,bs⟩:=air s x jX;refine⟨t,q,?_,aA,bs⟩;rw[←ak];exact akf h.ok.1 h.tg.w ad.f bx jX y g
 ·obtain⟨t,q,ak,aA,bs⟩:=ais s x g;refine⟨t,q,?_,aA,bs⟩;rw[←ak];exact akg h.ok.1 h.tg ad.f bx aS y k
theorem ajr(i:Int):iB (vV i)=true:=by unfold vV;split<;>decide
theorem PF(n:Int):∀(i:Nat) (s:bM) (c:dF),oI n (i+1) s c=xK n (oI n i s c).1 (oI n i s c).2
 |0,_,_=>rfl
 |i+1,s,c=>by rw[oI,PF n i];rfl
theorem PE(n:Int):∀(i:Nat) {s:bM} {c:dF},c.ok→(oI n i s c).2.ok
 |0,_,_,h=>h
 |i+1,_,_,h=>PE n i (ajg n h)
def ni(s:bM):List ai:=[.int .i64 s.n,.slice 5 .no (s.b.map al.e),.slice 1 .no (s.d.map cz),.slice 2 .no (s.k.map b6.e),.slice 2 .no (s.m.map bk.e)]
def ku(n:Int)(q:Bool)(s:bM):List ai:=if q then [.int .i64 n,.slice 5 .nil [],.slice 1 .nil [],.slice 2 .nil [],.slice 2 .nil []]else ni s
set_option maxRecDepth 4000 in
theorem aby(n:Nat)(ar:n≤100000)(c:dF)(av:c.ok):bB az 44 [.ptr (.obj 401) 0,.int .i64 n,.int .i64 5] (bC c) fun r ah=>r=(oI n (c.below 6).toNat ⟨n,[],[],[],[]⟩ (c.belowC 6)).1.e∧ah=bC (oI n (c.below 6).toNat ⟨n,[],[],[],[]⟩ (c.belowC 6)).2:=by
 have af:=dM c;have ae:=c.below_le 6 (by omega);obtain⟨K,c1⟩:∃K:Nat,K=(c.below 6).toNat:=⟨_,rfl⟩;have aci:c.below 6=(K:Int):=by omega
 have Bh:=av.below 6;rw[←c1];clear c1;refine bB.mk mixed o8 aaW ahk (by simp) af.obj fun aU cH=>?_;unfold Pf;unfold bC;simp;(with_reducible repeat' first|refine aj ?_|simp);(refine cD.ob (wI c av 6) (dM _) (by unfold bC;exact aE) (by unfold bC;exact aE) (by simp[inObs,bC,Pv.look]) ?_;rintro r ah ⟨rfl,rfl⟩;refine⟨fJ _ _,?_⟩;unfold bC;simp[bR]);rw[aci];generalize c.belowC 6=bL at Bh⊢;have pz:=fun i=>HX ar i (PD n ar) bL;have eu:=fun i=>PE n i (s:=⟨n,[],[],[],[]⟩) Bh;have oR:=fun i=>PF n i ⟨n,[],[],[],[]⟩ bL;generalize fW:(fun i=>oI n i ⟨n,[],[],[],[]⟩ bL)=F;have QT:∀i,oI n i ⟨n,[],[],[],[]⟩ bL=F i:=fun i=>by rw[←fW]
 have qf:F 0=(⟨n,[],[],[],[]⟩,bL):=by rw[←fW];rfl
 simp only[QT]at pz eu oR⊢;clear fW QT;refine ir (fun i (q:Bool)=>⟨[(0,.ptr (.obj 401) 0),(1,.int .i64 n),(6,.ptr (.loc 0) 0),(7,.ptr (.loc 1) 0),(8,.int .i64 (K-i))],[(.obj 401,(F i).2.e),(.loc 0,[.int .i64 0,.slice 5 .nil [],.slice 1 .nil [],.slice 2 .nil [],.slice 2 .nil []]),(.loc 1,ku n q (F i).1)],[],2,[.obj 401]⟩) K (fun i q=>q=true→(F i).1=⟨n,[],[],[],[]⟩) true ⟨by simp[fresh,aO,aF,cl,inObs,Pv.look,kX,qf,ku],eF (by simp[fresh,aO,aF,cl,inObs,Pv.look,kX,qf,ku]),eG (by simp[fresh,aO,aF,eb,inObs,Pv.look,kX,qf,ku]),by simp⟩ (fun _=>by rw[qf]) (fun q ag _=>?_) (fun i q hi ag _=>?_)
 ·have Er:=pz K;have Q9:=eu K;generalize F K=fK at ag Er Q9⊢;obtain⟨s,j6⟩:=fK;simp only at ag Er Q9⊢;have aN:=Er.s;have hO:=aki s aN.ok.1.b.len (fun z bf=>(aN.ok.1.d z bf).len) (by have:=oX aN.ok.1.k;omega) (aN.tg.w.len aN.ok.1.m);clear pz eu oR Er;obtain⟨rL,b,d,k,m⟩:=s;have adE:rL=n:=aN.n;subst adE;simp only[bM.e]at hO⊢;clear aN;cases q
  ·simp only[ku,gr,if_false,ni];clear ag;simp;(with_reducible repeat' first|refine aj ?_|refine aC hO ?_|refine aD hO ?_|simp);(refine cG.at (bC (j6)) (.inl rfl) (dM _) (fJ _ _) (by unfold bC;exact aE) (by unfold bC;exact aE) ?_;simp[cM,Lu,aV,aY,aT,bC])
  ·have ag:=ag rfl;simp only[bM.mk.injEq,true_and]at ag;obtain⟨rfl,rfl,rfl,rfl⟩:=ag;simp only[ku,if_true,mj]at hO⊢;simp;(with_reducible repeat' first|refine aj ?_|refine aC hO ?_|refine aD hO ?_|simp);(refine cG.at (bC (j6)) (.inl rfl) (dM _) (fJ _ _) (by unfold bC;exact aE) (by unfold bC;exact aE) ?_;simp[cM,Lu,aV,aY,aT,bC])
 ·have hdi:=pz i;have iv:=eu i;have iz:=oR i;have hle:i≤4:=by omega
  generalize F i=yt at ag hdi iv iz⊢;obtain⟨s,j6⟩:=yt;simp only at ag hdi iv iz⊢;have tD:=AO 3 n _ iv;have ad:=yk (n:=n) (by omega) (z:=3) (by omega) j6;have sf:=tD.below 4;have amf:=(dZ 3 n j6).2.below_le 4 (by omega);have aG:=yk (n:=n) (by omega) (z:=5) (by omega) ((dZ 3 n j6).2.belowC 4);have Q6:=AO 5 n _ sf;have Q7:=Q6.below 2;have nQ:=(dZ 5 n ((dZ 3 n j6).2.belowC 4)).2.below_le 2 (by omega);have amh:=Q7.below 2;have fa:=akh hdi.s (by have:=hdi.k;omega) (kd:=(dZ 3 n j6).2.below 4) (by omega) ad aG (k:=2+(dZ 5 n ((dZ 3 n j6).2.belowC 4)).2.below 2) (by omega) (ajr (((dZ 5 n ((dZ 3 n j6).2.belowC 4)).2.belowC 2).below 2));obtain⟨t,gm,fa,aA,bs⟩:=fa;have pH:=IC n (by omega) 3 (by omega) j6 iv;have lp:=wI (dZ 3 n j6).2 tD 4;have lq:=IC n (by omega) 5 (by omega) _ sf;have cY:=wI _ Q6 2;have h1:=abw _ Q7;unfold xK at iz;clear pz eu oR hdi ad aG;generalize dZ 3 n j6=ep at*;obtain⟨x,cn⟩:=ep;simp only at*;generalize cn.below 4=kd at*;generalize cn.belowC 4=dp at*;generalize dZ 5 n dp=fe at*;obtain⟨y,jU⟩:=fe;simp only at*;generalize jU.below 2=be at*;generalize jU.belowC 2=kv at*;generalize vV (kv.below 2)=g at*;generalize kv.belowC 2=nJ at*;have hy:(K:Int)-i-1=K-(i+1):=by omega
  have iQ:n7 (2+be):=by unfold n7;omega
  have tJ:(0:Int)<(K:Int)-i:=by omega
  cases gm with
  |false=>
   rw[bs rfl,jj]at iz;clear aA bs;cases q
   ·simp only[ku,gr,if_false,ni];clear ag;obtain⟨rL,b,d,k,m⟩:=s;obtain⟨uF,uB,uC,uE,tm⟩:=t;simp only[bM.e]at fa⊢;simp[hi];(with_reducible repeat' first|refine aj ?_|simp[hi]);(refine cD.ob (pH) (dM _) (by unfold bC;exact aE) (by unfold bC;exact aE) (by simp[inObs,bC,Pv.look]) ?_;rintro r ah ⟨rfl,rfl⟩;refine⟨fJ _ _,?_⟩;unfold bC;simp[bR]);(with_reducible repeat' first|refine aj ?_|simp);(refine fu.ob (lp) (dM _) (dM _) (fJ _ _) (by unfold bC;exact aE) (by unfold bC;exact aE) (by simp[inObs,bC,Pv.look]) ?_;unfold bC;simp[bR]);(with_reducible repeat' first|refine aj ?_|simp);(refine fu.ob (lq) (dM _) (dM _) (fJ _ _) (by unfold bC;exact aE) (by unfold bC;exact aE) (by simp[inObs,bC,Pv.look]) ?_;unfold bC;simp[bR]);(with_reducible repeat' first|refine aj ?_|simp);(refine fu.ob (cY) (dM _) (dM _) (fJ _ _) (by unfold bC;exact aE) (by unfold bC;exact aE) (by simp[inObs,bC,Pv.look]) ?_;unfold bC;simp[bR]);(with_reducible repeat' first|refine aj ?_|simp);(refine fu.ob (h1) (dM _) (dM _) (fJ _ _) (by unfold bC;exact aE) (by unfold bC;exact aE) (by simp[inObs,bC,Pv.look]) ?_;unfold bC;simp[bR]);(with_reducible repeat' first|refine aj ?_|refine aC fa ?_|refine aD fa ?_|simp[hy]);all_goals refine bT.rng (n:=K) false hi (fun h=>by cases h) ⟨by simp[fresh,aO,aF,cl,inObs,Pv.look,kX,iz,hy,ku,ni],eF (by simp[fresh,aO,aF,cl,inObs,Pv.look,kX,iz,hy,ku,ni]),eG (by simp[fresh,aO,aF,eb,inObs,Pv.look,kX,iz,hy,ku,ni]),by simp⟩
   ·have ag:=ag rfl;have nV:(F (i+1)).1=⟨n,[],[],[],[]⟩:=by rw[iz];exact ag
    subst ag;obtain⟨uF,uB,uC,uE,tm⟩:=t;simp only[bM.e,mj]at fa⊢;simp only[ku,if_true];simp[hi];(with_reducible repeat' first|refine aj ?_|simp[hi]);(refine cD.ob (pH) (dM _) (by unfold bC;exact aE) (by unfold bC;exact aE) (by simp[inObs,bC,Pv.look]) ?_;rintro r ah ⟨rfl,rfl⟩;refine⟨fJ _ _,?_⟩;unfold bC;simp[bR]);(with_reducible repeat' first|refine aj ?_|simp);(refine fu.ob (lp) (dM _) (dM _) (fJ _ _) (by unfold bC;exact aE) (by unfold bC;exact aE) (by simp[inObs,bC,Pv.look]) ?_;unfold bC;simp[bR]);(with_reducible repeat' first|refine aj ?_|simp);(refine fu.ob (lq) (dM _) (dM _) (fJ _ _) (by unfold bC;exact aE) (by unfold bC;exact aE) (by simp[inObs,bC,Pv.look]) ?_;unfold bC;simp[bR]);(with_reducible repeat' first|refine aj ?_|simp);(refine fu.ob (cY) (dM _) (dM _) (fJ _ _) (by unfold bC;exact aE) (by unfold bC;exact aE) (by simp[inObs,bC,Pv.look]) ?_;unfold bC;simp[bR]);(with_reducible repeat' first|refine aj ?_|simp);(refine fu.ob (h1) (dM _) (dM _) (fJ _ _) (by unfold bC;exact aE) (by unfold bC;exact aE) (by simp[inObs,bC,Pv.look]) ?_;unfold bC;simp[bR]);(with_reducible repeat' first|refine aj ?_|refine aC fa ?_|refine aD fa ?_|simp[hy]);all_goals refine bT.rng (n:=K) true hi (fun _=>nV) ⟨by simp[fresh,aO,aF,cl,inObs,Pv.look,kX,iz,hy,ku,ni],eF (by simp[fresh,aO,aF,cl,inObs,Pv.look,kX,iz,hy,ku,ni]),eG (by simp[fresh,aO,aF,eb,inObs,Pv.look,kX,iz,hy,ku,ni]),by simp⟩
  |true=>
   rw[aA rfl,jk]at iz;clear aA bs;cases q
   ·simp only[ku,gr,if_false,ni];clear ag;obtain⟨rL,b,d,k,m⟩:=s;obtain⟨uF,uB,uC,uE,tm⟩:=t;simp only[bM.e]at fa⊢;simp[hi];(with_reducible repeat' first|refine aj ?_|simp[hi]);(refine cD.ob (pH) (dM _) (by unfold bC;exact aE) (by unfold bC;exact aE) (by simp[inObs,bC,Pv.look]) ?_;rintro r ah ⟨rfl,rfl⟩;refine⟨fJ _ _,?_⟩;unfold bC;simp[bR]);(with_reducible repeat' first|refine aj ?_|simp);(refine fu.ob (lp) (dM _) (dM _) (fJ _ _) (by unfold bC;exact aE) (by unfold bC;exact aE) (by simp[inObs,bC,Pv.look]) ?_;unfold bC;simp[bR]);(with_reducible repeat' first|refine aj ?_|simp);(refine fu.ob (lq) (dM _) (dM _) (fJ _ _) (by unfold bC;exact aE) (by unfold bC;exact aE) (by simp[inObs,bC,Pv.look]) ?_;unfold bC;simp[bR]);(with_reducible repeat' first|refine aj ?_|simp);(refine fu.ob (cY) (dM _) (dM _) (fJ _ _) (by unfold bC;exact aE) (by unfold bC;exact aE) (by simp[inObs,bC,Pv.look]) ?_;unfold bC;simp[bR]);(with_reducible repeat' first|refine aj ?_|simp);(refine fu.ob (h1) (dM _) (dM _) (fJ _ _) (by unfold bC;exact aE) (by unfold bC;exact aE) (by simp[inObs,bC,Pv.look]) ?_;unfold bC;simp[bR]);(with_reducible repeat' first|refine aj ?_|refine aC fa ?_|refine aD fa ?_|simp[hy]);all_goals refine bT.rng (n:=K) false hi (fun h=>by cases h) ⟨by simp[fresh,aO,aF,cl,inObs,Pv.look,kX,iz,hy,ku,ni],eF (by simp[fresh,aO,aF,cl,inObs,Pv.look,kX,iz,hy,ku,ni]),eG (by simp[fresh,aO,aF,eb,inObs,Pv.look,kX,iz,hy,ku,ni]),by simp⟩
   ·have ag:=ag rfl;subst ag;obtain⟨uF,uB,uC,uE,tm⟩:=t;simp only[bM.e,mj]at fa⊢;simp only[ku,if_true];simp[hi];(with_reducible repeat' first|refine aj ?_|simp[hi]);(refine cD.ob (pH) (dM _) (by unfold bC;exact aE) (by unfold bC;exact aE) (by simp[inObs,bC,Pv.look]) ?_;rintro r ah ⟨rfl,rfl⟩;refine⟨fJ _ _,?_⟩;unfold bC;simp[bR]);(with_reducible repeat' first|refine aj ?_|simp);(refine fu.ob (lp) (dM _) (dM _) (fJ _ _) (by unfold bC;exact aE) (by unfold bC;exact aE) (by simp[inObs,bC,Pv.look]) ?_;unfold bC;simp[bR]);(with_reducible repeat' first|refine aj ?_|simp);(refine fu.ob (lq) (dM _) (dM _) (fJ _ _) (by unfold bC;exact aE) (by unfold bC;exact aE) (by simp[inObs,bC,Pv.look]) ?_;unfold bC;simp[bR]);(with_reducible repeat' first|refine aj ?_|simp);(refine fu.ob (cY) (dM _) (dM _) (fJ _ _) (by unfold bC;exact aE) (by unfold bC;exact aE) (by simp[inObs,bC,Pv.look]) ?_;unfold bC;simp[bR]);(with_reducible repeat' first|refine aj ?_|simp);(refine fu.ob (h1) (dM _) (dM _) (fJ _ _) (by unfold bC;exact aE) (by unfold bC;exact aE) (by simp[inObs,bC,Pv.look]) ?_;unfold bC;simp[bR]);(with_reducible repeat' first|refine aj ?_|refine aC fa ?_|refine aD fa ?_|simp[hy]);all_goals refine bT.rng (n:=K) false hi (fun h=>by cases h) ⟨by simp[fresh,aO,aF,cl,inObs,Pv.look,kX,iz,hy,ku,ni],eF (by simp[fresh,aO,aF,cl,inObs,Pv.look,kX,iz,hy,ku,ni]),eG (by simp[fresh,aO,aF,eb,inObs,Pv.look,kX,iz,hy,ku,ni]),by simp⟩
theorem ajP(d:List Int)(aK:qQ d)(aq:d.length≤10000000)(p:Nat)(bF:p≤1000000)(n:Nat)(ar:n≤100000):b7 az 10 [.slice 1 .no (hs d),.int .i64 p,.int .i64 n] (B5 d p n).e:=by have h0:=aby n ar (iO d p) (DV aK aq p);have gK:(oI n ((iO d p).below 6).toNat ⟨n,[],[],[],[]⟩ ((iO d p).belowC 6)).1=B5 d p n:=rfl;rw[gK]at h0;generalize B5 d p n=s at h0⊢;generalize (oI n ((iO d p).below 6).toNat ⟨n,[],[],[],[]⟩ ((iO d p).belowC 6)).2=cd at h0;clear gK;obtain⟨rL,b,e,k,m⟩:=s;simp only[bM.e]at h0⊢;refine bE o8 aap agN fun aU=>?_;unfold OI;simp;refine cD.new (ID d aK aq p bF) ((dG.of ⟨by intro m;simp[Pv.look],by intro m;simp[Pv.look]⟩ (by simp[aO,aF,inObs,Pv.look]) (by simp[aO,aF,inObs,Pv.look]))) aE aE (by simp) ?_;rintro r ah ⟨rfl,rfl⟩;refine⟨fun m _=>.inr (by simp),?_⟩;unfold bC;simp[bR];(refine cD.ob (h0) (dM _) (by unfold bC;exact aE) (by unfold bC;exact aE) (by simp[inObs,bC,Pv.look]) ?_;rintro r ah ⟨rfl,rfl⟩;refine⟨fJ _ _,?_⟩;unfold bC;simp[bR]);exact cZ
end Go.Proofs.YtohaalphocaebaaGreat
namespace Go.Pv
open Go Go.RowKit
mutual
def kp(k:aH)(m:Nat):ai→ai
 | .slice sz tag xs=>.slice sz (if tag= .own k then .own (.obj m)else .no) (df xs)
 | .agg cs=>.agg (sO k m cs)
 | .tuple cs=>.tuple (sO k m cs)
 |p=>dO p
def sO(k:aH)(m:Nat):List ai→List ai
 |[]=>[]
 |c::cs=>kp k m c::sO k m cs
end
section
variable {w:World} {ν μ:bc} {k:aH} {m:Nat} (au:nE (fun _=>ej) w ν w μ) (ab:∀n v,ν.ow k=some (n,v)→μ.ow (.obj m)=some (n,v))
include au ab
mutual
theorem LC:∀(p:ai) (v:Value),aF (fun _=>ej) (dO p)→a6 w ν p v→a6 w μ (kp k m p) v
 | .slice sz tag xs,v,ar,h=>by
  have U:=j2 au _ _ ar (kF _ _ h);simp only[kp];split
  ·rename_i e;simp only[a6,dO]at h U⊢;refine⟨U.1,(fun e=>by cases e),fun g H0=>?_,(fun _ _ e=>by cases e),fun _ e=>by cases e⟩;cases H0;obtain⟨n',u,ak,aA,bs⟩:=h.2.2.1 k e;exact⟨n',u,ab _ _ ak,by rw[rN];exact aA,by rw[rN];exact bs⟩
  ·exact U
 | .agg cs,v,ar,h=>by simp only[a6,aF,kp,dO]at h ar⊢;obtain⟨us,J,U⟩:=h;exact⟨us,J,Vm cs us.toList ar U⟩
 | .tuple cs,v,ar,h=>by simp only[a6,aF,kp,dO]at h ar⊢;obtain⟨us,J,U⟩:=h;exact⟨us,J,Vn cs us.toList ar U⟩
 | .junk,_,_,_=>by simp[kp,dO,a6]
 | .int k n,v,ar,h=>by have:=j2 au _ _ ar (kF _ _ h);simpa only[kp]using this
 | .bool b,v,ar,h=>by have:=j2 au _ _ ar (kF _ _ h);simpa only[kp]using this
 | .str s,v,ar,h=>by have:=j2 au _ _ ar (kF _ _ h);simpa only[kp]using this
 | .ptr a b,v,ar,h=>by have:=j2 au _ _ ar (kF _ _ h);simpa only[kp]using this
 | .eptr x,v,ar,h=>by have:=j2 au _ _ ar (kF _ _ h);simpa only[kp]using this
 | .iface t x,v,ar,h=>by have:=j2 au _ _ ar (kF _ _ h);simpa only[kp]using this
 | .nilp,v,ar,h=>by have:=j2 au _ _ ar (kF _ _ h);simpa only[kp]using this
 | .func f c,v,ar,h=>by have:=j2 au _ _ ar (kF _ _ h);simpa only[kp]using this
 | .gmap x,v,ar,h=>by have:=j2 au _ _ ar (kF _ _ h);simpa only[kp]using this
 | .row a b c,v,ar,h=>by have:=j2 au _ _ ar (kF _ _ h);simpa only[kp]using this
 | .rptr a b c d e,v,ar,h=>by have:=j2 au _ _ ar (kF _ _ h);simpa only[kp]using this
 | .hdm a b,v,ar,h=>by have:=j2 au _ _ ar (kF _ _ h);simpa only[kp]using this
 | .hdi a b c,v,ar,h=>by have:=j2 au _ _ ar (kF _ _ h);simpa only[kp]using this
 | .cst a,v,ar,h=>by have:=j2 au _ _ ar (kF _ _ h);simpa only[kp]using this
theorem Vm:∀(cs:List ai) (us:List Value),aO (fun _=>ej) (df cs)→dd w ν cs us→dd w μ (sO k m cs) us
 |[],us,_,h=>by simpa only[sO,dd]using h
 |c::cs,us,ar,h=>by simp only[dd,df,aO,sO]at h ar⊢;obtain⟨u,b9,J,⟨U,ao⟩,aZ⟩:=h;exact⟨u,b9,J,⟨LC c u ar.1 U,ao⟩,Vm cs b9 ar.2 aZ⟩
theorem Vn:∀(cs:List ai) (us:List Value),aO (fun _=>ej) (df cs)→cJ w ν cs us→cJ w μ (sO k m cs) us
 |[],us,_,h=>by simpa only[sO,cJ]using h
 |c::cs,us,ar,h=>by simp only[cJ,df,aO,sO]at h ar⊢;obtain⟨u,b9,J,U,aZ⟩:=h;exact⟨u,b9,J,LC c u ar.1 U,Vn cs b9 ar.2 aZ⟩
end
end
def MS(ez:List bu)(k:aH)(m:Nat)(Q:ai→fv→Prop)(e:Exit)(st:bj):Prop:=
 (e= .ret∨e= .normal)∧match aV st ez with
  |some (c,cp)=>c∧∃o,look k st.e=some o∧o.xs=none∧aF (fun _=>ej) (dO (aT cp))∧Q (kp k m (aT cp)) o
  |none=>ej
theorem bB.ofN{P:cy}(hm:P.follows .mixedOrders=true){bo:List (Nat×du)}(aN:fA P bo=true){f:FuncId}{fn:Func}(aQ:P.funcs[f]? =some fn){c:C}{ez:List bu}{n:Nat}(eu:cc bo c ez n fn=true)
  {args:List ai} (aq:args.length≤n) (k:aH) (m:Nat) {Q:ai→fv→Prop} (he:h9 args→cT P [] c (MS ez k m Q) ⟨jB 0 args,[],[],0,[]⟩):bB P f args ⟨[],[]⟩ fun r ah=> ∃o,Q r o∧ah=⟨[],[(.obj m,o)]⟩:=by
 unfold cc at eu;split at eu;rotate_left
 ·cases eu
 rename_i code ae;simp only[cx,rT,fI]at eu;obtain⟨⟨⟨av,yY⟩,yS⟩,aZ⟩:=eu;replace aq:=ji aq aZ;intro w ν a7 aS ad aI;refine .inl ⟨⟨fn,aQ,by simp[ae],by assumption⟩,?_⟩;have n4:=xA aI;have kj:a7.size=args.length:=by simpa using n4
 let X:e2:=⟨w,ν,e8 ν ⟨[],[]⟩,fn.ntmps,[]⟩
 have EU:∀k,ν.bx k=none:=fun k=>(ad k).1 rfl;have oT:∀k,ν.ow k=none:=fun k=>(ad k).2.1 rfl;have EV:∀k j b,¬ν.tr k j b:=fun k=>(ad k).2.2;have nZ:cO X ⟨jB 0 args,[],[],0,[]⟩ {tmps:=a7++Array.replicate (fn.ntmps-a7.size) undef,defers:=[]} w ν:=by
  refine⟨⟨aS.alt,fun k cs ab=>(by simp[look]at ab),aS.inj,fun g o eJ=>(by simp[look]at eJ),aS.oinj,aS.obx,aS.one,aS.otr⟩,⟨rfl,rfl,rfl,e1 _,fun _ _ _=>rfl,fun b o h=>⟨h,rfl⟩,fun b o h=>.inl h,fun n b h=>h,fun n b h=>(by rw[EU]at h;cases h),fun m n u h=>⟨n,u,h,.inl ⟨rfl,rfl⟩⟩,fun m n u h=>(by rw[oT]at h;cases h),fun k j _ _ b h=>absurd h (EV k j b),fun k j b h=>absurd h (EV k j b),fun k j b h=>absurd h (EV k j b),fun _ _ _=>rfl⟩,rfl,?_,fun i=>?_,fun k _=>⟨EU k,oT k,EV k⟩⟩
  ·show(a7++Array.replicate (fn.ntmps-a7.size) undef).size=fn.ntmps;simp;omega
  ·rw[Ee];by_cases hi:i<args.length
   ·rw[if_pos (by omega)];have qj:args[i]? =some args[i]:=cv hi;obtain⟨v,ak,aA⟩:=CE i aI qj;have aJ:(a7++Array.replicate (fn.ntmps-a7.size) undef).getD i undef=v:=by
     have AP:a7[i]? =some v:=by simpa using ak
     rw[Array.getD_eq_getD_getElem?,Array.getElem?_append_left (by omega),AP];rfl
    show a6 w ν _ ((a7++Array.replicate (fn.ntmps-a7.size) undef).getD i undef);rw[aJ];simpa[List.getD,qj]using aA
   ·rw[if_neg (by omega)];simp[a6]
 have JF:=qc hm aN (X:=X) c code (MS ez k m Q) _ av (he (LH aI)) _ w ν nZ;refine calls_of_wp aQ ae (wp_mono JF fun e bh w' cP=>?_);obtain⟨st',bg,⟨q8,bn⟩,dc⟩:=cP;cases rh:aV st' ez with
 |none=>simp[rh]at bn
 |some x=>
  obtain⟨cd,cp⟩:=x;simp only[rh]at bn;obtain⟨hW,o,ac0,gL,c2,c8⟩:=bn;obtain⟨mQ,g1,g2⟩:=Gh aN dc ez fn.results.toList cd cp (by assumption) rh hW;have Jr:=xA g2;obtain⟨v,us,gv,gq,od,anY⟩:=dc.good.own k o ac0;let μ:bc:={A:=bg.A,bx:=fun _=>none,ow:=fun j=>if j= .obj m then bg.ow k else none,tr:=fun _ _ _=>ej}
  have ad1:μ.ow (.obj m)=some (o.n,v):=by simp[μ,gv]
  have dK:bh.defers=[]∧∃v,(results fn bh.tmps).run P w'= .ok v w'∧(fun(e:Ending) w'=> ∃v r ah bg,e= .returned v∧(∃o,Q r o∧ah=⟨[],[(.obj m,o)]⟩)∧a6 w' bg r v∧Good (fun bl=>e8 ν ⟨[],[]⟩ bl∨w.heap.size≤bl) w' bg ah.b ah.e∧nO bg ah∧ic ah∧pd ⟨w,ν,e8 ν ⟨[],[]⟩,0,cR ⟨[],[]⟩⟩ w' bg) (.returned v) w':=by
   refine⟨dc.defers,?_⟩;have hX:(results fn bh.tmps).run P w'= .ok (if h:mQ.toArray.size=1 then mQ.toArray[0]else .tuple mQ.toArray) w':=by rw[VA];simp only[ft,Array.mapM_eq_mapM_toList,Sem.run_map,g1,fB,fZ]
   refine⟨_,hX,_,kp k m (aT cp),⟨[],[(.obj m,o)]⟩,μ,rfl,⟨o,c8,rfl⟩,?_,?_,?_,?_,?_⟩
   ·have lh:a6 w' bg (aT cp) (if h:mQ.toArray.size=1 then mQ.toArray[0]else .tuple mQ.toArray):=by
     match cp,mQ,g2,Jr with
     |[p],[v],g2,_=>simp only[cJ]at g2;obtain⟨u,b9,ak,aA,_⟩:=g2;cases ak;simpa[aT]using aA
     |[],[],g2,_=>simp[aT,a6,cJ]
     |p::dm::cp,v::v2::mQ,g2,_=>rw[dif_neg (by simp)];simp only[aT,a6];exact⟨_,rfl,by simpa using g2⟩
     |[_],[],_,h=>simp at h
     |[],_::_,_,h=>simp at h
     |[_],_::_::_,_,h=>simp at h
     |_::_::_,[],_,h=>simp at h
     |_::_::_,[_],_,h=>simp at h
    refine LC (ν:=bg) (μ:=μ) (k:=k) (m:=m) ⟨fun b o h=>⟨h,rfl⟩,fun _ _ h=>h.elim,fun _ _ _ h=>h.elim,fun _ _ _=>rfl,fun _ _ _ h=>h.elim⟩ (fun n v h=>?_) _ _ c2 lh;simp[μ,h]
   ·have hk:∀g x,look g [(aH.obj m,o)]=some x→g= .obj m∧x=o:=fun g x h=>by
     simp only[look]at h;split at h
     ·rename_i e;exact⟨e.symm,(fP h).symm⟩
     ·cases h
    have RC:∀g,(look g [(aH.obj m,o)]).isSome→g= .obj m:=fun g h=>by obtain⟨x,ad⟩:=fm.1 h;exact(hk g x ad).1
    refine⟨dc.good.alt,fun k cs ab=>(by simp[look]at ab),fun k bD bl J=>(by simp[look]at J),fun g x acP=>?_,fun g eX n n' v v' bl J U _ _ _ _=>(by rw[RC g J,RC eX U]),fun g k n v bl J U=>(by simp[look]at U),fun _=>.inl rfl,fun _ _ _ _ h=>h⟩;obtain⟨rfl,rfl⟩:=hk g x acP;exact⟨v,us,ad1,gq,od,fun xs h=>by rw[gL]at h;cases h⟩
   ·intro j;refine⟨fun _=>rfl,fun h=>?_,fun _ _ h=>h⟩;have:j≠ .obj m:=fun e=>by subst e;simp[look]at h
    simp[μ,this]
   ·exact⟨fun _=>rfl,fun _=>by simp[look]⟩
   ·exact⟨dc.fr.os,dc.fr.tape,dc.fr.output,dc.fr.size,dc.fr.block,dc.fr.keep,dc.fr.fresh,fun n b h=>(by rw[EU]at h;cases h),fun n b h=>(by rw[EU]at h;cases h),fun m n u h=>(by rw[oT]at h;cases h),fun m n u h=>(by rw[oT]at h;cases h),fun _ _ _ _ _ h=>h.elim,fun _ _ _ h=>h.elim,fun _ _ _ h=>h.elim,dc.fr.sh⟩
  rcases q8 with rfl|rfl<;>exact dK
end Go.Pv
namespace Go.Proofs.YtohaalphocaebaaGreat
open Go Go.Pv
open Classical in
theorem akl{s b:List al}(af:en s)(ae:en b){E:List (T×T)}(hm:mgu s E=some b):b7 az 125 [.slice 5 .no (s.map al.e),.slice 5 .no (b.map al.e),.bool true] (.tuple [.slice 5 .no ((ds s b).map al.e),.int .i64 (uR s (some b))]):=by
 have aR:=Mq s b af.len;have be:=Wg af ae;have ar:=Kx af hm;simp only[uR];by_cases g:s=b
 ·rw[lA g]at aR;rw[if_pos (ar.2 g),ar.2 g];clear be af ae hm ar g;refine bE gY Il KN fun aU=>?_;unfold DI;exact cZ
 ·rw[lS g]at aR;rw[if_neg fun h=>g (ar.1 h)];generalize ds s b=w at be;clear af ae hm ar g;refine bE gY Il KN fun aU=>?_;unfold DI;exact cZ
theorem akm(s:List al):b7 az 125 [.slice 5 .no (s.map al.e),.slice 5 .no [],.bool false] (.tuple [.slice 5 .no [],.int .i64 1]):=by refine bE gY Il KN fun aU=>?_;unfold DI;exact cZ
open Classical in
theorem ajF{s:List al}(af:en s){x y:T}(ad:x.fit=true)(aG:y.fit=true):b7 az 51 [.slice 5 .no (s.map al.e),x.e,y.e] (.tuple [.slice 5 .no ((zv s (mgu s [(x,y)])).map al.e),.int .i64 (uR s (mgu s [(x,y)]))]):=by
 have dC:=oo af;have aR:=xR ad;have be:=xR aG;have bN:=Wk af ad aG;cases hm:mgu s [(x,y)]with
 |none=>rw[hm]at bN;have dB:=akm s;clear af ad aG hm;simp only[eZ,jj,jl,mj,zv,uR]at bN⊢;refine bE gY PZ TT fun aU=>?_;unfold Ht;exact cZ
 |some b=>rw[hm]at bN;have dB:=akl af (af.mgu (by simp[T.fit_ok ad,T.fit_ok aG]) hm) hm;simp only[zv];generalize uR s (some b)=c at dB;generalize ds s b=w at dB;clear af ad aG hm;simp only[eZ,jk,oy]at bN⊢;refine bE gY PZ TT fun aU=>?_;unfold Ht;exact cZ
def zF(s:bM):ai:= .agg [.int .i64 s.n,.slice 5 .no (s.b.map al.e),.slice 1 (.own (.obj 841)) (s.d.map cz),.slice 2 .no (s.k.map b6.e),.slice 2 .no (s.m.map bk.e)]
theorem abq(s:bM)(ae:s.b.length≤1000000)(aK:∀x∈s.d,x.length≤1000000)(ab:s.k.length≤1000000)(hm:s.m.length≤68719470000):bB az 49 [s.e] ⟨[],[]⟩ fun r ah=> ∃o,(r=zF s∧o=⟨s.d.length,23,1,none⟩)∧ah=⟨[],[(.obj 841,o)]⟩:=by
 obtain⟨n,b,d,k,m⟩:=s;simp only[bM.e,zF]at ae aK ab hm⊢;have lp:=C1 b ae;refine bB.ofN mixed gY P5 TZ (by simp) (.loc 13) 841 fun aU=>?_;unfold Hz;have ib:d.length≤68719476736:=by simp[h9,ho,hV,lim]at aU;omega
 clear aU;simp;(with_reducible repeat' first|refine aj ?_|refine aC lp ?_|refine aD lp ?_|simp);refine ir (fun i (L:List (List al))=>⟨[(1,.ptr (.loc 0) 0),(2,.ptr (.loc 1) 0),(3,.ptr (.loc 5) 0),(14,.slice 1 .no (d.map cz)),(15,.int .i64 d.length),(16,.int .i64 i)],[(.loc 0,[.int .i64 n,.slice 5 .no (b.map al.e),.slice 1 .no (d.map cz),.slice 2 .no (k.map b6.e),.slice 2 .no (m.map bk.e)]),(.loc 1,[.int .i64 0,.slice 5 .nil [],.slice 1 .nil [],.slice 2 .nil [],.slice 2 .nil []]),(.loc 5,[.int .i64 n,.slice 5 .no (b.map al.e),.slice 1 (.own (.loc 13)) (L.map cz),.slice 2 .nil [],.slice 2 .nil []])],[(.loc 13,⟨L.length,23,1,none⟩)],41,[]⟩) d.length (fun i L=>L=d.take i) [] cu (by simp) (fun L ag _=>?_) (fun i L hi ag _=>?_)
 ·rw[mY]at ag;subst ag;simp;(with_reducible repeat' first|refine aj ?_|simp);all_goals first|(refine⟨by unfold lim;omega,?_⟩)|skip
  (with_reducible repeat' first|refine aj ?_|simp);all_goals refine⟨.inl rfl,?_⟩
  all_goals simp[UD,aV,aY,aT,kp,sO,Pv.look,aF,aO]
 ·obtain⟨x,ad,di⟩:=fE hi;have pH:=Wn (aK x (gb ad));have aq:L.length≤i:=by rw[ag];simp;omega
  simp[hi,di];(with_reducible repeat' first|refine aj ?_|refine aC pH ?_|refine aD pH ?_|simp[di,hi]);all_goals first|(refine⟨by unfold lim;omega,?_⟩)|skip
  (with_reducible repeat' first|refine aj ?_|simp);refine bT.rng (L++[x]) hi (by rw[oi ad,ag]) ?_;simp;exact⟨by simp[fresh,aO,aF,cl,inObs,Pv.look,tT],eF (by simp[fresh,aO,aF,cl,inObs,Pv.look,tT]),eG (by simp[fresh,aO,aF,eb,inObs,Pv.look,tT]),by simp⟩
open Classical in
theorem ajE{s:bM}(h:jO s)(hm:iZ s.m){x y:T}(ad:x.fit=true)(aG:y.fit=true)(bx:e5 s.n x=true)(hU:e5 s.n y=true):b7 az 13 [s.e,x.e,y.e] (jN (kR s x y)):=by
 have aR:=Wp h hm ad aG bx hU;have be:=ajF h.1.b ad aG;have bN:=abq s h.1.b.len (fun z bf=>(h.1.d z bf).len) (by have:=oX h.1.k;omega) (hm.len h.1.m);obtain⟨G,hd,aS⟩:=hm;have aK:=VJ h.2;unfold kR;cases hu:mgu s.b [(x,y)]with
 |none=>rw[hu]at be;have dB:=Al h.1 hd aS;simp only;generalize eU s=O at dB;clear h hu;obtain⟨n,b,d,k,m⟩:=s;simp only[bM.e,zF,zv,uR,jN,mj]at aR be bN dB⊢;refine bE gY Ic KF fun aU=>?_;unfold DA;clear aU;simp;(with_reducible repeat' first|refine aj ?_|refine aC aR ?_|refine aD aR ?_|refine aC be ?_|refine aD be ?_|simp);refine cD.new bN (dG.of uf (by simp) (by simp)) aE aE (by simp) ?_;rintro r ah ⟨o,⟨rfl,rfl⟩,rfl⟩;refine⟨fun m hm=>.inr (by simp),?_⟩;simp[zF,bR];exact cZ
 |some b0=>
  rw[hu]at be;by_cases ar:ds s.b b0=[]
  ·simp only[if_pos ar];simp only[zv,uR,if_pos ar,ar,mj]at be;clear h hu bN ar;obtain⟨n,b,d,k,m⟩:=s;simp only[bM.e,jN,jj,jl,fO]at aR be⊢;refine bE gY Ic KF fun aU=>?_;unfold DA;exact cZ
  ·simp only[if_neg ar];simp only[zv,uR,if_neg ar]at be;have dB:=Al (h.1.dif ad aG bx hU hu) hd aS;generalize ds s.b b0=w at be dB;generalize eU {s with d:=s.d++[w]}=O at dB;clear h hu;obtain⟨n,b,d,k,m⟩:=s;simp only[bM.e,zF,jN]at aR be bN dB⊢;generalize wK:d++[w]=D at dB;have hw:cz w= .slice 5 .no (w.map al.e):=rfl;refine bE gY Ic KF fun aU=>?_;unfold DA;clear aU;simp only at aK;simp;(with_reducible repeat' first|refine aj ?_|refine aC aR ?_|refine aD aR ?_|refine aC be ?_|refine aD be ?_|simp);refine cD.new bN (dG.of uf (by simp) (by simp)) aE aE (by simp) ?_;rintro r ah ⟨o,⟨rfl,rfl⟩,rfl⟩;refine⟨fun m hm=>.inr (by simp),?_⟩;simp[zF,bR];(with_reducible repeat' first|refine aj ?_|simp);all_goals first|(refine⟨by unfold lim;omega,?_⟩)|skip
   rw[←hw,oG,DW,wK];((with_reducible repeat' first|refine aj ?_|refine aC dB ?_|refine aD dB ?_|simp|((first|apply bI|apply bK|apply bJ)<;>intro h<;>try simp at h))<;>(try exact cm));all_goals simp[bz,Ur,aV,aY,aT]
open Classical in
theorem Wq{s:bM}(h:jO s)(hm:iZ s.m){x:T}(ad:x.fit=true)(bx:e5 s.n x=true):b7 az 47 [s.e,.slice 4 .no [x.e]] (.bool true):=by have:=Wo s.r (fun _=>hm) [x.tm];rw[lA ⟨⟨s,rfl,h⟩,⟨[x],rfl,by simp[ad],fun t aN=>by rw[rW.1 aN];exact bx⟩⟩,L5]at this;simpa[qT]using this
open Classical in
theorem ajI{s:bM}(h:jO s)(hm:iZ s.m){x:T}(ad:x.fit=true)(bx:e5 s.n x=true)(k:Int):b7 az 14 [s.e,x.e,.int .i64 k] (jN (mH s x k)):=by
 have aR:=Wq h hm ad bx;have be:=V9 h.1.b h.1.k x ad k;have bN:=GJ s h.1.b.len (fun z bf=>(h.1.d z bf).len) (by have:=oX h.1.k;omega) (hm.len h.1.m);unfold mH;by_cases g:(k=2∨k=3)∧(x.ap (bP s.b)).size≤5000
 ·rw[if_pos g]at be;rw[if_pos g];cases hu:iq s.k (x.ap (bP s.b)) k with
  |none=>rw[hu]at be;clear h bN hu g;obtain⟨n,b,d,bD,m⟩:=s;simp only[bM.e,fy,jN,Option.bind_none,jj,jl,fO]at aR be⊢;refine bE gY Ie KG fun aU=>?_;unfold DB;exact cZ
  |some l=>rw[hu]at be;obtain⟨G,hd,aS⟩:=hm;have dB:=Al (h.1.knd ad bx g.1 hu) hd aS;rw[h4];generalize eU {s with k:=l}=O at dB;clear h hu g;obtain⟨n,b,d,bD,m⟩:=s;simp only[bM.e,fy,jN,jk,oy]at aR be bN dB⊢;refine bE gY Ie KG fun aU=>?_;unfold DB;exact cZ
 ·rw[if_neg g];rw[if_neg g]at be;clear h bN g;obtain⟨n,b,d,bD,m⟩:=s;simp only[bM.e,fy,jN,Option.bind_none,jj,jl,fO]at aR be⊢;refine bE gY Ie KG fun aU=>?_;unfold DB;exact cZ
open Classical in
theorem ajL{s:bM}(h:jO s)(hm:vW s.m){x:T}(ad:x.fit=true)(bx:e5 s.n x=true){g:List cV}(aS:iB g=true):b7 az 16 [s.e,x.e,.str g] (jN (mJ s x g)):=by
 have aR:=Wq h hm.w ad bx;have aq:=hm.w.len h.1.m;have be:=V8 h.1.b h.1.m aq x ad aS;have bN:=GJ s h.1.b.len (fun z bf=>(h.1.d z bf).len) (by have:=oX h.1.k;omega) aq;unfold mJ;by_cases g1:(x.ap (bP s.b)).size≤5000
 ·rw[if_pos g1]at be;rw[if_pos g1];cases hu:jr s.m (x.ap (bP s.b)) g with
  |none=>rw[hu]at be;clear h bN hu g1 aq hm;obtain⟨n,b,d,bD,m⟩:=s;simp only[bM.e,hF,jN,Option.bind_none,jj,jl,fO]at aR be⊢;refine bE gY If KH fun aU=>?_;unfold DC;exact cZ
  |some l=>rw[hu]at be;obtain⟨G,hd,nU⟩:=hm.mrk hu;have dB:=Al (h.1.mrk ad bx aS hu) hd nU;rw[h4];generalize eU {s with m:=l}=O at dB;clear h hu g1 aq hm;obtain⟨n,b,d,bD,m⟩:=s;simp only[bM.e,hF,jN,jk,oy]at aR be bN dB⊢;refine bE gY If KH fun aU=>?_;unfold DC;exact cZ
 ·rw[if_neg g1];rw[if_neg g1]at be;clear h bN g1 aq hm;obtain⟨n,b,d,bD,m⟩:=s;simp only[bM.e,hF,jN,Option.bind_none,jj,jl,fO]at aR be⊢;refine bE gY If KH fun aU=>?_;unfold DC;exact cZ
def HD:C:=(aa [bH 2 false] (.seq (aa [I 16 0,cS 17 16,aW 18 .gtr 17 1048576] (a8 18 (aa [bH 2 true] .ret) .skip)) (aa [I 19 0,cX 20 10 [.t 19,(et 0),(et 6)],cU 3 e7,bG 5 3 20] (aa [I 21 0,cX 22 11 [.t 21,(et 60),(et 3),(et 6)],cU 4 dz,bG 4 4 22] (aa [I 23 0,cX 24 11 [.t 23,(et 80),(et 5),(et 6)],cU 5 dz,bG 4 5 24] (aa [ba 26 5 3,ba 27 4 4,ba 28 4 5,cX 29 12 [.t 26,.t 27,.t 28],I 25 29,cq 30 0 25,cq 31 1 25,cU 6 e7,bG 5 6 30,I 7 31] (aa [ba 33 5 3,ba 34 4 4,ba 35 4 5,cX 36 13 [.t 33,.t 34,.t 35],I 32 36,cq 37 0 32,cq 38 1 32,cU 8 e7,bG 5 8 37,I 9 38] (.seq (.drawn true 112 [ba 40 5 3,ba 41 4 4,I 42 0,cX 43 15 [.t 42,(et 90)],aW 44 .rem 43 2,bX 45 (.bin .add false (et 2) (.t 44)),cX 46 14 [.t 40,.t 41,.t 45],I 39 46,cq 47 0 39,cq 48 1 39,cU 10 e7,bG 5 10 47,I 11 48]) (aa [ba 50 5 3,ba 51 4 5,⟨none,.call (some 52) (.c (.func 16 [])) [.t 50,.t 51,(.c (.str [97]))]⟩,I 49 52,cq 53 0 49,cq 54 1 49,cU 12 e7,bG 5 12 53,I 13 54] (aa [ba 56 5 3,cX 57 17 [.t 56,(et 3)],I 55 57,cq 58 0 55,cq 59 1 55,cU 14 e7,bG 5 14 58,I 15 59] (aa [ba 60 5 3,cL 61 18 60,I 62 61,bU 62 true 63 7,aw 62 true (cI 64 63),bU 62 true 65 64,aw 65 false (ba 66 5 6),aw 65 false (cL 67 18 66),aw 62 true (dj 68 65 67),dr 69 62 68,I 70 69,bU 70 true 71 9,aw 70 true (cI 72 71),bU 70 true 73 72,aw 73 false (ba 74 5 8),aw 73 false (cL 75 18 74),aw 70 true (dj 76 73 75),dr 77 70 76,I 78 77,bU 78 true 79 11,aw 78 true (cI 80 79),bU 78 true 81 80,aw 81 false (ba 82 5 10),aw 81 false (cL 83 18 82),aw 78 true (dj 84 81 83),dr 85 78 84,I 86 85,bU 86 true 87 13,aw 86 true (cI 88 87),bU 86 true 89 88,aw 89 false (ba 90 5 12),aw 89 false (cL 91 18 90),aw 86 true (dj 92 89 91),dr 93 86 92,I 94 93,bU 94 true 95 15,dr 96 94 95,I 97 96,aw 97 true (ba 98 5 14),aw 97 true (cL 99 18 98),dr 100 97 99,I 101 100,aw 101 true (aP 102 0 1 14),aw 101 true (aB 103 1 102),aw 101 true (aW 104 .eql 103 9),dr 105 101 104,I 106 105,bU 106 true 107 7,bU 106 true 108 107,bU 108 false 109 9,aw 106 true (dj 110 108 109),dr 111 106 110,I 2 111] .ret)))))))))))
@[simp] def UP:List bu:=[.tmp 2]
@[simp] def aot:List bu:=[.tmp 2]
def Nz:C:=(aa [cW 2 0,cU 4 e7,bH 5 false] (.seq (aa [ba 7 5 2,cL 8 18 7,cI 9 8,I 10 9,bU 10 false 11 1,aw 10 false (aW 12 .lss 11 0),dj 13 10 12,I 14 13,bU 14 false 15 1,aw 14 false (aP 16 0 1 2),aw 14 false (aB 17 1 16),aw 14 false (bX 18 (.bin .sub false (et 100000) (.t 17))),aw 14 false (bA 19 .gtr 15 18),dj 20 14 19] (a8 20 (aa [gB 21 e7 [],bG 5 4 21,bH 5 false] .ret) .skip)) (aa [ba 22 5 2,cL 23 49 22,cU 6 e7,bG 5 6 23] (aa [aP 24 0 1 2,aB 25 1 24,I 26 1,bA 27 .add 25 26,aP 28 0 1 6,bG 1 28 27] (aa [ba 29 5 6,bG 5 4 29,bH 5 true] .ret)))))
@[simp] def ahN:List bu:=[.cell 4 true 5,.tmp 5]
@[simp] def aox:List bu:=[.tmp 4]
@[simp] def aow:List bu:=[.tmp 4]
@[simp] def aou:List bu:=[.tmp 4]
@[simp] def aov:List bu:=[.tmp 4]
def Mj:List (Nat×du):=[
 (3,⟨1,8,.int .i64,.int .i64 0⟩),
 (4,⟨1,1,.bool,.bool false⟩),
 (9,⟨1,16,.str,.str []⟩),
 (22,⟨1,24,.slice 5,.slice 1 .nil []⟩),
 (23,⟨1,24,.slice 61,.slice 5 .nil []⟩),
 (24,⟨1,24,.slice 23,.slice 1 .nil []⟩),
 (25,⟨1,24,.slice 104,.slice 2 .nil []⟩),
 (26,⟨1,24,.slice 106,.slice 2 .nil []⟩),
 (28,⟨5,104,.struct [(0,3),(1,23),(2,24),(3,25),(4,26)],.agg [.int .i64 0,.slice 5 .nil [],.slice 1 .nil [],.slice 2 .nil [],.slice 2 .nil []]⟩),
 (30,⟨1,24,.slice 32,.slice 4 .nil []⟩),
 (32,⟨4,56,.struct [(0,3),(1,3),(2,9),(3,30)],.agg [.int .i64 0,.int .i64 0,.str [],.slice 4 .nil []]⟩),
 (61,⟨5,64,.struct [(0,3),(1,32)],.agg [.int .i64 0,.int .i64 0,.int .i64 0,.str [],.slice 4 .nil []]⟩),
 (104,⟨2,16,.struct [(0,3),(1,3)],.agg [.int .i64 0,.int .i64 0]⟩),
 (106,⟨2,24,.struct [(0,3),(1,9)],.agg [.int .i64 0,.str []]⟩)]
theorem Ml:fA az Mj=true:=by kernel_rfl
theorem T3:cc Mj HD UP 1 Tryz.f3=true:=by kernel_rfl
theorem P9:az.funcs[(3:Nat)]? =some Tryz.f3:=Tryz.func3
theorem afJ:cc Mj Nz ahN 2 Tryz.f17=true:=by kernel_rfl
theorem Zm:az.funcs[(17:Nat)]? =some Tryz.f17:=Tryz.func17
open Classical in
theorem xQ{s:bM}(h:jO s)(hm:iZ s.m):b7 az 18 [s.e] (.bool true):=by have:=Wj s.r fun _=>hm;rwa[lA ⟨s,rfl,h⟩,L5]at this
theorem ajH{s:bM}(h:jO s)(hm:iZ s.m){n:Int}(bV:0≤n)(J:s.n+n≤100000):b7 az 17 [s.e,.int .i64 n] (.tuple [({s with n:=s.n+n}:bM).e,.bool true]):=by
 have dC:=xQ h hm;have hO:=GJ s h.1.b.len (fun z bf=>(h.1.d z bf).len) (by have:=oX h.1.k;omega) (hm.len h.1.m);have ar:=h.1.n;clear h hm;obtain⟨hq,b,d,k,m⟩:=s;simp only[bM.e]at dC hO ar J⊢;have RJ:¬n<0:=by omega
 have amx:¬(100000:Int)-hq<n:=by omega
 have amy:¬(100000:Int)<hq+n:=by omega
 refine bE Ml Zm afJ fun aU=>?_;unfold Nz;exact cZ
theorem akA:jO fO:=PK (by omega) (by omega)
theorem akB:iZ fO.m:=⟨[],by simp,by simp[kH,fO]⟩
theorem Gk{o:Option bM}(h:∀t,o=some t→jO t∧iZ t.m):jO (o.getD fO)∧iZ (o.getD fO).m:=by
 cases o with
 |none=>exact⟨akA,akB⟩
 |some t=>exact h t rfl
set_option maxRecDepth 4000 in
theorem Wa(d:List Int)(aK:qQ d):b7 az 3 [.slice 1 .no (hs d)] (.bool true):=by
 by_cases yD:1048576<d.length
 ·have dk:(1048576:Int)<d.length:=by omega
  refine bE Ml P9 T3 fun aU=>?_;unfold HD;exact cZ
 ·have aq:d.length≤10000000:=by omega
  have Q4:¬(1048576:Int)<d.length:=by omega
  have c5:=ajP d aK aq 0 (by omega) 6 (by omega);have pz:=ae1 d 0 (n:=6) (by omega);generalize B5 d 0 6=s at c5 pz;have bd:b7 az 11 [.slice 1 .no (hs d),.int .i64 60,.int .i64 3,.int .i64 6] (dZ 3 6 (iO d 60)).1.e:=Wd d aK aq 60 (by omega) 3 (by omega) 6 (by omega);have br:=yk (n:=6) (by omega) (z:=3) (by omega) (iO d 60);generalize (dZ 3 6 (iO d 60)).1=a at bd br;have iP:b7 az 11 [.slice 1 .no (hs d),.int .i64 80,.int .i64 5,.int .i64 6] (dZ 5 6 (iO d 80)).1.e:=Wd d aK aq 80 (by omega) 5 (by omega) 6 (by omega);have ae:=yk (n:=6) (by omega) (z:=5) (by omega) (iO d 80);generalize (dZ 5 6 (iO d 80)).1=b at iP ae;have kS:=ajO d aK aq 90 (by omega);have b8:=(iO d 90).byte_le;have b3:=(iO d 90).next.byte_le;obtain⟨z,bf⟩:∃z,z=(iO d 90).byte*256+(iO d 90).next.byte:=⟨_,rfl⟩;rw[←bf]at kS;have JI:0≤z:=by omega
  have amv:0≤z.tmod 2:=Int.tmod_nonneg 2 JI;have Je:z.tmod 2<2:=Int.tmod_lt_of_pos z (by omega);clear bf b8 b3;have tl:=br.b;have bb:=ae.b;have oR:s.n=6:=pz.s.n;have ok:=pz.s.ok;have tg:=pz.s.tg;rw[←oR]at tl bb;have gN:=ajG ok tg.w br.f ae.f tl bb;have h0:=ajE ok tg.w br.f ae.f tl bb;have cY:=ajI ok tg.w br.f tl (2+z.tmod 2);have w9:=ajL ok tg ae.f bb (g:=[97]) (by decide);have zc:=ajH ok tg.w (n:=3) (by omega) (by omega);have dC:=xQ ok tg.w;have zd:b7 az 18 [({s with n:=s.n+3}:bM).e] (.bool true):=xQ (ok.more (by omega) (by omega)) tg.w;have ep:=Gk (o:=kx s a b) fun t e=>⟨PQ ok.1 br.f ae.f tl bb e,Yo tg.w e⟩;have fe:=Gk (o:=kR s a b) fun t e=>⟨PC ok.1 br.f ae.f tl bb e,X7 tg.w e⟩;have mh:=Gk (o:=mH s a (2+z.tmod 2)) fun t e=>⟨S3 ok.1 br.f tl e,aeL tg.w e⟩;have K3:=Gk (o:=mJ s b [97]) fun t e=>⟨TK ok.1 ae.f bb (by decide) e,aft tg e⟩;have oO:(kx s a b).isSome=true∨(kR s a b).isSome=true:=by
   rcases ahn ok br.f ae.f tl bb with h|h
   ·left;cases e:kx s a b with
    |none=>exact absurd e h
    |some _=>rfl
   ·right;cases e:kR s a b with
    |none=>exact absurd e h
    |some _=>rfl
  have pq:s.n+3=9:=by omega
  simp only[jN]at gN h0 cY w9;have aR:=xQ ep.1 ep.2;have be:=xQ fe.1 fe.2;have bN:=xQ mh.1 mh.2;have dB:=xQ K3.1 K3.2;generalize (kx s a b).isSome=a1 at gN oO;generalize (kx s a b).getD fO=fH at gN aR;generalize (kR s a b).isSome=bt at h0 oO;generalize (kR s a b).getD fO=dL at h0 be;generalize (mH s a (2+z.tmod 2)).isSome=b2 at cY;generalize (mH s a (2+z.tmod 2)).getD fO=C8 at cY bN;generalize (mJ s b [97]).isSome=c2 at w9;generalize (mJ s b [97]).getD fO=uI at w9 dB;rw[pq]at zc zd;obtain⟨s5,R9,QR⟩:∃s5:bM,({s with n:=9}:bM)=s5∧s5.n=9:=⟨_,rfl,rfl⟩;rw[R9]at zc zd;clear R9;obtain⟨apL,apH,apI,apJ,apK⟩:=s5;simp only at QR;subst QR;clear pq ok tg tl bb oR pz br ae ep fe mh K3 aK aq yD;simp only[bM.e]at*;refine bE Ml P9 T3 fun aU=>?_;unfold HD;simp;(with_reducible repeat' first|refine aj ?_|refine aC c5 ?_|refine aD c5 ?_|refine aC bd ?_|refine aD bd ?_|refine aC iP ?_|refine aD iP ?_|refine aC kS ?_|refine aD kS ?_|refine aC gN ?_|refine aD gN ?_|refine aC h0 ?_|refine aD h0 ?_|refine aC cY ?_|refine aD cY ?_|refine aC w9 ?_|refine aD w9 ?_|refine aC zc ?_|refine aD zc ?_|refine aC dC ?_|refine aD dC ?_|refine aC zd ?_|refine aD zd ?_|refine aC aR ?_|refine aD aR ?_|refine aC be ?_|refine aD be ?_|refine aC bN ?_|refine aD bN ?_|refine aC dB ?_|refine aD dB ?_|simp[JI,Q4]);cases a1<;>cases bt<;>try(simp at oO;done)
  all_goals cases b2<;>cases c2
  all_goals simp
  all_goals(with_reducible repeat' first|refine aj ?_|refine aC c5 ?_|refine aD c5 ?_|refine aC bd ?_|refine aD bd ?_|refine aC iP ?_|refine aD iP ?_|refine aC kS ?_|refine aD kS ?_|refine aC gN ?_|refine aD gN ?_|refine aC h0 ?_|refine aD h0 ?_|refine aC cY ?_|refine aD cY ?_|refine aC w9 ?_|refine aD w9 ?_|refine aC zc ?_|refine aD zc ?_|refine aC dC ?_|refine aD dC ?_|refine aC zd ?_|refine aD zd ?_|refine aC aR ?_|refine aD aR ?_|refine aC be ?_|refine aD be ?_|refine aC bN ?_|refine aD bN ?_|refine aC dB ?_|refine aD dB ?_|simp[JI,Q4])
  all_goals simp[bz,UP,aV,aY,aT]
  all_goals done
end Go.Proofs.YtohaalphocaebaaGreat
namespace Go.Proofs.YtohaalphocaebaaGreat
open Go Go.Pv Go.ChangeShapes Go.WideShapes Go.ChangeAt Go.RowKit
theorem aiv:ownKnob az.godebug=none:=by kernel_rfl
theorem aiu:laidOutB az=true:=by kernel_rfl
theorem XZ:az.cellsOf 5=1:=by kernel_rfl
theorem Ns(w:World)(ν:bc):∀xs:List Int,dw w ν 1 (hs xs) (xs.map (Value.int .u8))
 |[]=>by simp[hs,dw]
 |x::xs=>by simp only[hs,gI,dw];exact⟨.int .u8 x,_,rfl,⟨by simp[a6],rfl,by intro c av;simp[ou]at av;subst av;rfl⟩,Ns w ν xs⟩
def ym(b off n:Nat):bc:=⟨fun b0 o=>b0=b∧off≤o∧o<off+n,fun _=>none,fun _=>none,fun _ _ _=>ej⟩
theorem zi(w:World)(A:Nat→Nat→Prop)(b:Nat):∀(us:List Value) (off:Nat),(∀i u,us[i]? =some u→A b (off+i)∧w.cell? ⟨b,off+i,none⟩=some u)→lr w A b off us
 |[],_,_=>trivial
 |u::us,off,h=>⟨by simpa using h 0 u rfl,zi w A b us (off+1) fun i e0 hu=>by have:=h (i+1) e0 (by simpa using hu);rwa[show off+(i+1)=off+1+i from by omega]at this⟩
theorem HO{f:FuncId}{fn:Func}(qg:az.funcs[f]? =some fn)(H0:∀args w,(callFunc f args).run az w= .ok (.enter f args) w){w:World}{ν:bc}{args:List ai}{a7:Array Value}(h:b7 az f args (.bool true))(aN:∀k j b,¬ν.tr k j b)(bd:∀b o,ν.A b o→b<w.heap.size)(ae:∀k,ν.bx k=none)(au:∀k,ν.ow k=none)(aI:cJ w ν args a7.toList):
  Calls az f a7 w fun e w'=>e= .returned (.bool true)∧Below w.heap.size w w':=by
 have aS:Pv.Good (e8 ν ⟨[],[]⟩) w ν [] []:=⟨bd,fun k cs ab=>by simp[Pv.look]at ab,fun k bD bl J=>by simp[Pv.look]at J,fun g o ab=>by simp[Pv.look]at ab,fun g eX n n' v v' bl J=>by simp[Pv.look]at J,fun g k n v bl J=>by simp[Pv.look]at J,fun k=>.inl (ae k),fun _ _ k j=>aN k j _⟩;rcases h w ν a7 aS (fun k=>⟨fun _=>ae k,fun _=>au k,aN k⟩) aI with⟨_,av⟩|⟨v,w',av,_⟩
 ·refine av.mono ?_;rintro e w' ⟨v,r,ah,bg,rfl,⟨rfl,rfl⟩,lh,_,_,_,lF⟩;simp only[a6]at lh;subst lh;refine⟨rfl,lF.os,lF.tape,lF.output,lF.size,fun k ab=>lF.block k ab ?_⟩;simp[e8,Pv.look]
 ·rw[H0]at av;cases av
theorem aku{n:Int}(h:(Lit.int .u8 n).wf=true):0≤n∧n<256:=by simp[Lit.wf,IntKind.min,IntKind.max,qG,mW]at h;omega
end Go.Proofs.YtohaalphocaebaaGreat
